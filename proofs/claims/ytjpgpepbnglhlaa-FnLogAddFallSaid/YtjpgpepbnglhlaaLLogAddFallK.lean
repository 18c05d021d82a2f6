/- The numbers of the functions in this program, and that each is read as its code. No condition. -/
import Derived.Test.YtjpgpepbnglhlaaLLogAddFallC
import Derived.Test.YtjpgpepbnglhlaaChecked
import Derived.KernelRfl
namespace Go.Proofs.Ytjpgpepbnglhlaa.fnLogAddFall
open Go.AX
def ids : Ids := { g_Clone_int := 138, g_ContainsFunc_Rec := 131, g_ContainsFunc_int := 188, g_IndexFunc_Rec := 182, g_IndexFunc_int := 202, i_LogAdd := 41, i_LogFall := 35, i_LogOk := 44, i_LogOk_1 := 129, i_Log_copied := 126, i_Log_first := 117, i_RecOk := 125, i_Rec_copied := 127, i_in := 130, i_isTrip := 181, i_wantedOk := 141, i_wantedOk_1 := 186, i_wantedOk_2 := 187, s_DrawLogAdd := 39, s_LogAdd := 40, s_LogOk := 34, s_RecOk := 42, s_l1Add := 123, s_l1Copy := 118, s_l1Many := 128, s_l1RecCopy := 124, s_l6In := 119, s_l6Open := 116, s_l6Rd_pick := 120, s_l71Log := 115, s_l71Many := 180, s_l71Rec := 122, w_FnLogAddFall := 8, w_lnInts := 59, w_lnLog := 32, w_lnRec := 43, w_lnRecs := 36 }
theorem k_g_Clone_int : Has Try.prog ids.g_Clone_int (L_g_Clone_int ids) := ⟨by kernel_rfl, by kernel_rfl⟩
theorem k_g_ContainsFunc_Rec : Has Try.prog ids.g_ContainsFunc_Rec (L_g_ContainsFunc_Rec ids) := ⟨by kernel_rfl, by kernel_rfl⟩
theorem k_g_ContainsFunc_int : Has Try.prog ids.g_ContainsFunc_int (L_g_ContainsFunc_int ids) := ⟨by kernel_rfl, by kernel_rfl⟩
theorem k_g_IndexFunc_Rec : Has Try.prog ids.g_IndexFunc_Rec (L_g_IndexFunc_Rec ids) := ⟨by kernel_rfl, by kernel_rfl⟩
theorem k_g_IndexFunc_int : Has Try.prog ids.g_IndexFunc_int (L_g_IndexFunc_int ids) := ⟨by kernel_rfl, by kernel_rfl⟩
theorem k_i_LogAdd : Has Try.prog ids.i_LogAdd (L_i_LogAdd ids) := ⟨by kernel_rfl, by kernel_rfl⟩
theorem k_i_LogFall : Has Try.prog ids.i_LogFall (L_i_LogFall ids) := ⟨by kernel_rfl, by kernel_rfl⟩
theorem k_i_LogOk : Has Try.prog ids.i_LogOk (L_i_LogOk ids) := ⟨by kernel_rfl, by kernel_rfl⟩
theorem k_i_LogOk_1 : Has Try.prog ids.i_LogOk_1 (L_i_LogOk_1 ids) := ⟨by kernel_rfl, by kernel_rfl⟩
theorem k_i_Log_copied : Has Try.prog ids.i_Log_copied (L_i_Log_copied ids) := ⟨by kernel_rfl, by kernel_rfl⟩
theorem k_i_Log_first : Has Try.prog ids.i_Log_first (L_i_Log_first ids) := ⟨by kernel_rfl, by kernel_rfl⟩
theorem k_i_RecOk : Has Try.prog ids.i_RecOk (L_i_RecOk ids) := ⟨by kernel_rfl, by kernel_rfl⟩
theorem k_i_Rec_copied : Has Try.prog ids.i_Rec_copied (L_i_Rec_copied ids) := ⟨by kernel_rfl, by kernel_rfl⟩
theorem k_i_in : Has Try.prog ids.i_in (L_i_in ids) := ⟨by kernel_rfl, by kernel_rfl⟩
theorem k_i_isTrip : Has Try.prog ids.i_isTrip (L_i_isTrip ids) := ⟨by kernel_rfl, by kernel_rfl⟩
theorem k_i_wantedOk : Has Try.prog ids.i_wantedOk (L_i_wantedOk ids) := ⟨by kernel_rfl, by kernel_rfl⟩
theorem k_i_wantedOk_1 : Has Try.prog ids.i_wantedOk_1 (L_i_wantedOk_1 ids) := ⟨by kernel_rfl, by kernel_rfl⟩
theorem k_i_wantedOk_2 : Has Try.prog ids.i_wantedOk_2 (L_i_wantedOk_2 ids) := ⟨by kernel_rfl, by kernel_rfl⟩
theorem k_s_DrawLogAdd : Has Try.prog ids.s_DrawLogAdd (L_s_DrawLogAdd ids) := ⟨by kernel_rfl, by kernel_rfl⟩
theorem k_s_LogAdd : Has Try.prog ids.s_LogAdd (L_s_LogAdd ids) := ⟨by kernel_rfl, by kernel_rfl⟩
theorem k_s_LogOk : Has Try.prog ids.s_LogOk (L_s_LogOk ids) := ⟨by kernel_rfl, by kernel_rfl⟩
theorem k_s_RecOk : Has Try.prog ids.s_RecOk (L_s_RecOk ids) := ⟨by kernel_rfl, by kernel_rfl⟩
theorem k_s_l1Add : Has Try.prog ids.s_l1Add (L_s_l1Add ids) := ⟨by kernel_rfl, by kernel_rfl⟩
theorem k_s_l1Copy : Has Try.prog ids.s_l1Copy (L_s_l1Copy ids) := ⟨by kernel_rfl, by kernel_rfl⟩
theorem k_s_l1Many : Has Try.prog ids.s_l1Many (L_s_l1Many ids) := ⟨by kernel_rfl, by kernel_rfl⟩
theorem k_s_l1RecCopy : Has Try.prog ids.s_l1RecCopy (L_s_l1RecCopy ids) := ⟨by kernel_rfl, by kernel_rfl⟩
theorem k_s_l6In : Has Try.prog ids.s_l6In (L_s_l6In ids) := ⟨by kernel_rfl, by kernel_rfl⟩
theorem k_s_l6Open : Has Try.prog ids.s_l6Open (L_s_l6Open ids) := ⟨by kernel_rfl, by kernel_rfl⟩
theorem k_s_l6Rd_pick : Has Try.prog ids.s_l6Rd_pick (L_s_l6Rd_pick ids) := ⟨by kernel_rfl, by kernel_rfl⟩
theorem k_s_l71Log : Has Try.prog ids.s_l71Log (L_s_l71Log ids) := ⟨by kernel_rfl, by kernel_rfl⟩
theorem k_s_l71Many : Has Try.prog ids.s_l71Many (L_s_l71Many ids) := ⟨by kernel_rfl, by kernel_rfl⟩
theorem k_s_l71Rec : Has Try.prog ids.s_l71Rec (L_s_l71Rec ids) := ⟨by kernel_rfl, by kernel_rfl⟩
theorem k_w_FnLogAddFall : Has Try.prog ids.w_FnLogAddFall (L_w_FnLogAddFall ids) := ⟨by kernel_rfl, by kernel_rfl⟩
theorem k_w_lnInts : Has Try.prog ids.w_lnInts (L_w_lnInts ids) := ⟨by kernel_rfl, by kernel_rfl⟩
theorem k_w_lnLog : Has Try.prog ids.w_lnLog (L_w_lnLog ids) := ⟨by kernel_rfl, by kernel_rfl⟩
theorem k_w_lnRec : Has Try.prog ids.w_lnRec (L_w_lnRec ids) := ⟨by kernel_rfl, by kernel_rfl⟩
theorem k_w_lnRecs : Has Try.prog ids.w_lnRecs (L_w_lnRecs ids) := ⟨by kernel_rfl, by kernel_rfl⟩
theorem codes : Codes Try.prog ids := { mixed := by kernel_rfl, g_Clone_int := k_g_Clone_int, g_ContainsFunc_Rec := k_g_ContainsFunc_Rec, g_ContainsFunc_int := k_g_ContainsFunc_int, g_IndexFunc_Rec := k_g_IndexFunc_Rec, g_IndexFunc_int := k_g_IndexFunc_int, i_LogAdd := k_i_LogAdd, i_LogFall := k_i_LogFall, i_LogOk := k_i_LogOk, i_LogOk_1 := k_i_LogOk_1, i_Log_copied := k_i_Log_copied, i_Log_first := k_i_Log_first, i_RecOk := k_i_RecOk, i_Rec_copied := k_i_Rec_copied, i_in := k_i_in, i_isTrip := k_i_isTrip, i_wantedOk := k_i_wantedOk, i_wantedOk_1 := k_i_wantedOk_1, i_wantedOk_2 := k_i_wantedOk_2, s_DrawLogAdd := k_s_DrawLogAdd, s_LogAdd := k_s_LogAdd, s_LogOk := k_s_LogOk, s_RecOk := k_s_RecOk, s_l1Add := k_s_l1Add, s_l1Copy := k_s_l1Copy, s_l1Many := k_s_l1Many, s_l1RecCopy := k_s_l1RecCopy, s_l6In := k_s_l6In, s_l6Open := k_s_l6Open, s_l6Rd_pick := k_s_l6Rd_pick, s_l71Log := k_s_l71Log, s_l71Many := k_s_l71Many, s_l71Rec := k_s_l71Rec, w_FnLogAddFall := k_w_FnLogAddFall, w_lnInts := k_w_lnInts, w_lnLog := k_w_lnLog, w_lnRec := k_w_lnRec, w_lnRecs := k_w_lnRecs }
end Go.Proofs.Ytjpgpepbnglhlaa.fnLogAddFall
