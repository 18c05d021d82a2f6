/- The numbers of the functions in this program, and that each is read as its code. No condition. -/
import Derived.Test.YtjpgpepbnglhlaaLHouseFallC
import Derived.Test.YtjpgpepbnglhlaaChecked
import Derived.KernelRfl
namespace Go.Proofs.Ytjpgpepbnglhlaa.fnHouseFall
open Go.AX
def ids : Ids := { g_Clone_Hold := 197, g_Clone_int := 138, g_ContainsFunc_Hold := 170, g_ContainsFunc_Rec := 131, g_ContainsFunc_int := 188, g_IndexFunc_Hold := 198, g_IndexFunc_Rec := 182, g_IndexFunc_int := 202, i_Hold_ok := 169, i_HouseFall := 103, i_HouseOk := 111, i_HouseRise := 101, i_HouseStock := 83, i_House_copied := 167, i_House_stock := 157, i_LogFall := 35, i_LogOk := 44, i_LogOk_1 := 129, i_Log_copied := 126, i_Log_first := 117, i_Log_known := 191, i_RecOk := 125, i_Rec_copied := 127, i_StockDo := 166, i_StockMay := 196, i_StockNew := 165, i_StockOf := 90, i_StockOk := 92, i_StockOk_1 := 168, i_Stock_free := 156, i_in := 130, i_isHouse := 178, i_isTrip := 181, i_wantedOk := 141, i_wantedOk_1 := 186, i_wantedOk_2 := 187, s_DrawHouseFall := 109, s_HouseFall := 110, s_HouseOk := 89, s_LogOk := 34, s_RecOk := 42, s_StockDo := 203, s_StockMay := 205, s_StockNew := 190, s_StockOk := 207, s_l11Copy := 171, s_l1Copy := 118, s_l1Fall := 121, s_l1Many := 128, s_l1RecCopy := 124, s_l2Copy := 206, s_l2Do := 195, s_l2Free := 204, s_l2Hold := 208, s_l2May := 194, s_l2Of := 164, s_l6In := 119, s_l6Open := 116, s_l6Rd_pick := 120, s_l71House := 162, s_l71Many := 180, s_l71Rec := 122, s_l71Recs := 193, w_FnHouseFall := 23, w_lnHouse := 94, w_lnInts := 59, w_lnLog := 32, w_lnRec := 43, w_lnRecs := 36, w_lnStock := 87 }
theorem k_g_Clone_Hold : Has Try.prog ids.g_Clone_Hold (L_g_Clone_Hold ids) := ⟨by kernel_rfl, by kernel_rfl⟩
theorem k_g_Clone_int : Has Try.prog ids.g_Clone_int (L_g_Clone_int ids) := ⟨by kernel_rfl, by kernel_rfl⟩
theorem k_g_ContainsFunc_Hold : Has Try.prog ids.g_ContainsFunc_Hold (L_g_ContainsFunc_Hold ids) := ⟨by kernel_rfl, by kernel_rfl⟩
theorem k_g_ContainsFunc_Rec : Has Try.prog ids.g_ContainsFunc_Rec (L_g_ContainsFunc_Rec ids) := ⟨by kernel_rfl, by kernel_rfl⟩
theorem k_g_ContainsFunc_int : Has Try.prog ids.g_ContainsFunc_int (L_g_ContainsFunc_int ids) := ⟨by kernel_rfl, by kernel_rfl⟩
theorem k_g_IndexFunc_Hold : Has Try.prog ids.g_IndexFunc_Hold (L_g_IndexFunc_Hold ids) := ⟨by kernel_rfl, by kernel_rfl⟩
theorem k_g_IndexFunc_Rec : Has Try.prog ids.g_IndexFunc_Rec (L_g_IndexFunc_Rec ids) := ⟨by kernel_rfl, by kernel_rfl⟩
theorem k_g_IndexFunc_int : Has Try.prog ids.g_IndexFunc_int (L_g_IndexFunc_int ids) := ⟨by kernel_rfl, by kernel_rfl⟩
theorem k_i_Hold_ok : Has Try.prog ids.i_Hold_ok (L_i_Hold_ok ids) := ⟨by kernel_rfl, by kernel_rfl⟩
theorem k_i_HouseFall : Has Try.prog ids.i_HouseFall (L_i_HouseFall ids) := ⟨by kernel_rfl, by kernel_rfl⟩
theorem k_i_HouseOk : Has Try.prog ids.i_HouseOk (L_i_HouseOk ids) := ⟨by kernel_rfl, by kernel_rfl⟩
theorem k_i_HouseRise : Has Try.prog ids.i_HouseRise (L_i_HouseRise ids) := ⟨by kernel_rfl, by kernel_rfl⟩
theorem k_i_HouseStock : Has Try.prog ids.i_HouseStock (L_i_HouseStock ids) := ⟨by kernel_rfl, by kernel_rfl⟩
theorem k_i_House_copied : Has Try.prog ids.i_House_copied (L_i_House_copied ids) := ⟨by kernel_rfl, by kernel_rfl⟩
theorem k_i_House_stock : Has Try.prog ids.i_House_stock (L_i_House_stock ids) := ⟨by kernel_rfl, by kernel_rfl⟩
theorem k_i_LogFall : Has Try.prog ids.i_LogFall (L_i_LogFall ids) := ⟨by kernel_rfl, by kernel_rfl⟩
theorem k_i_LogOk : Has Try.prog ids.i_LogOk (L_i_LogOk ids) := ⟨by kernel_rfl, by kernel_rfl⟩
theorem k_i_LogOk_1 : Has Try.prog ids.i_LogOk_1 (L_i_LogOk_1 ids) := ⟨by kernel_rfl, by kernel_rfl⟩
theorem k_i_Log_copied : Has Try.prog ids.i_Log_copied (L_i_Log_copied ids) := ⟨by kernel_rfl, by kernel_rfl⟩
theorem k_i_Log_first : Has Try.prog ids.i_Log_first (L_i_Log_first ids) := ⟨by kernel_rfl, by kernel_rfl⟩
theorem k_i_Log_known : Has Try.prog ids.i_Log_known (L_i_Log_known ids) := ⟨by kernel_rfl, by kernel_rfl⟩
theorem k_i_RecOk : Has Try.prog ids.i_RecOk (L_i_RecOk ids) := ⟨by kernel_rfl, by kernel_rfl⟩
theorem k_i_Rec_copied : Has Try.prog ids.i_Rec_copied (L_i_Rec_copied ids) := ⟨by kernel_rfl, by kernel_rfl⟩
theorem k_i_StockDo : Has Try.prog ids.i_StockDo (L_i_StockDo ids) := ⟨by kernel_rfl, by kernel_rfl⟩
theorem k_i_StockMay : Has Try.prog ids.i_StockMay (L_i_StockMay ids) := ⟨by kernel_rfl, by kernel_rfl⟩
theorem k_i_StockNew : Has Try.prog ids.i_StockNew (L_i_StockNew ids) := ⟨by kernel_rfl, by kernel_rfl⟩
theorem k_i_StockOf : Has Try.prog ids.i_StockOf (L_i_StockOf ids) := ⟨by kernel_rfl, by kernel_rfl⟩
theorem k_i_StockOk : Has Try.prog ids.i_StockOk (L_i_StockOk ids) := ⟨by kernel_rfl, by kernel_rfl⟩
theorem k_i_StockOk_1 : Has Try.prog ids.i_StockOk_1 (L_i_StockOk_1 ids) := ⟨by kernel_rfl, by kernel_rfl⟩
theorem k_i_Stock_free : Has Try.prog ids.i_Stock_free (L_i_Stock_free ids) := ⟨by kernel_rfl, by kernel_rfl⟩
theorem k_i_in : Has Try.prog ids.i_in (L_i_in ids) := ⟨by kernel_rfl, by kernel_rfl⟩
theorem k_i_isHouse : Has Try.prog ids.i_isHouse (L_i_isHouse ids) := ⟨by kernel_rfl, by kernel_rfl⟩
theorem k_i_isTrip : Has Try.prog ids.i_isTrip (L_i_isTrip ids) := ⟨by kernel_rfl, by kernel_rfl⟩
theorem k_i_wantedOk : Has Try.prog ids.i_wantedOk (L_i_wantedOk ids) := ⟨by kernel_rfl, by kernel_rfl⟩
theorem k_i_wantedOk_1 : Has Try.prog ids.i_wantedOk_1 (L_i_wantedOk_1 ids) := ⟨by kernel_rfl, by kernel_rfl⟩
theorem k_i_wantedOk_2 : Has Try.prog ids.i_wantedOk_2 (L_i_wantedOk_2 ids) := ⟨by kernel_rfl, by kernel_rfl⟩
theorem k_s_DrawHouseFall : Has Try.prog ids.s_DrawHouseFall (L_s_DrawHouseFall ids) := ⟨by kernel_rfl, by kernel_rfl⟩
theorem k_s_HouseFall : Has Try.prog ids.s_HouseFall (L_s_HouseFall ids) := ⟨by kernel_rfl, by kernel_rfl⟩
theorem k_s_HouseOk : Has Try.prog ids.s_HouseOk (L_s_HouseOk ids) := ⟨by kernel_rfl, by kernel_rfl⟩
theorem k_s_LogOk : Has Try.prog ids.s_LogOk (L_s_LogOk ids) := ⟨by kernel_rfl, by kernel_rfl⟩
theorem k_s_RecOk : Has Try.prog ids.s_RecOk (L_s_RecOk ids) := ⟨by kernel_rfl, by kernel_rfl⟩
theorem k_s_StockDo : Has Try.prog ids.s_StockDo (L_s_StockDo ids) := ⟨by kernel_rfl, by kernel_rfl⟩
theorem k_s_StockMay : Has Try.prog ids.s_StockMay (L_s_StockMay ids) := ⟨by kernel_rfl, by kernel_rfl⟩
theorem k_s_StockNew : Has Try.prog ids.s_StockNew (L_s_StockNew ids) := ⟨by kernel_rfl, by kernel_rfl⟩
theorem k_s_StockOk : Has Try.prog ids.s_StockOk (L_s_StockOk ids) := ⟨by kernel_rfl, by kernel_rfl⟩
theorem k_s_l11Copy : Has Try.prog ids.s_l11Copy (L_s_l11Copy ids) := ⟨by kernel_rfl, by kernel_rfl⟩
theorem k_s_l1Copy : Has Try.prog ids.s_l1Copy (L_s_l1Copy ids) := ⟨by kernel_rfl, by kernel_rfl⟩
theorem k_s_l1Fall : Has Try.prog ids.s_l1Fall (L_s_l1Fall ids) := ⟨by kernel_rfl, by kernel_rfl⟩
theorem k_s_l1Many : Has Try.prog ids.s_l1Many (L_s_l1Many ids) := ⟨by kernel_rfl, by kernel_rfl⟩
theorem k_s_l1RecCopy : Has Try.prog ids.s_l1RecCopy (L_s_l1RecCopy ids) := ⟨by kernel_rfl, by kernel_rfl⟩
theorem k_s_l2Copy : Has Try.prog ids.s_l2Copy (L_s_l2Copy ids) := ⟨by kernel_rfl, by kernel_rfl⟩
theorem k_s_l2Do : Has Try.prog ids.s_l2Do (L_s_l2Do ids) := ⟨by kernel_rfl, by kernel_rfl⟩
theorem k_s_l2Free : Has Try.prog ids.s_l2Free (L_s_l2Free ids) := ⟨by kernel_rfl, by kernel_rfl⟩
theorem k_s_l2Hold : Has Try.prog ids.s_l2Hold (L_s_l2Hold ids) := ⟨by kernel_rfl, by kernel_rfl⟩
theorem k_s_l2May : Has Try.prog ids.s_l2May (L_s_l2May ids) := ⟨by kernel_rfl, by kernel_rfl⟩
theorem k_s_l2Of : Has Try.prog ids.s_l2Of (L_s_l2Of ids) := ⟨by kernel_rfl, by kernel_rfl⟩
theorem k_s_l6In : Has Try.prog ids.s_l6In (L_s_l6In ids) := ⟨by kernel_rfl, by kernel_rfl⟩
theorem k_s_l6Open : Has Try.prog ids.s_l6Open (L_s_l6Open ids) := ⟨by kernel_rfl, by kernel_rfl⟩
theorem k_s_l6Rd_pick : Has Try.prog ids.s_l6Rd_pick (L_s_l6Rd_pick ids) := ⟨by kernel_rfl, by kernel_rfl⟩
theorem k_s_l71House : Has Try.prog ids.s_l71House (L_s_l71House ids) := ⟨by kernel_rfl, by kernel_rfl⟩
theorem k_s_l71Many : Has Try.prog ids.s_l71Many (L_s_l71Many ids) := ⟨by kernel_rfl, by kernel_rfl⟩
theorem k_s_l71Rec : Has Try.prog ids.s_l71Rec (L_s_l71Rec ids) := ⟨by kernel_rfl, by kernel_rfl⟩
theorem k_s_l71Recs : Has Try.prog ids.s_l71Recs (L_s_l71Recs ids) := ⟨by kernel_rfl, by kernel_rfl⟩
theorem k_w_FnHouseFall : Has Try.prog ids.w_FnHouseFall (L_w_FnHouseFall ids) := ⟨by kernel_rfl, by kernel_rfl⟩
theorem k_w_lnHouse : Has Try.prog ids.w_lnHouse (L_w_lnHouse ids) := ⟨by kernel_rfl, by kernel_rfl⟩
theorem k_w_lnInts : Has Try.prog ids.w_lnInts (L_w_lnInts ids) := ⟨by kernel_rfl, by kernel_rfl⟩
theorem k_w_lnLog : Has Try.prog ids.w_lnLog (L_w_lnLog ids) := ⟨by kernel_rfl, by kernel_rfl⟩
theorem k_w_lnRec : Has Try.prog ids.w_lnRec (L_w_lnRec ids) := ⟨by kernel_rfl, by kernel_rfl⟩
theorem k_w_lnRecs : Has Try.prog ids.w_lnRecs (L_w_lnRecs ids) := ⟨by kernel_rfl, by kernel_rfl⟩
theorem k_w_lnStock : Has Try.prog ids.w_lnStock (L_w_lnStock ids) := ⟨by kernel_rfl, by kernel_rfl⟩
theorem codes : Codes Try.prog ids := { mixed := by kernel_rfl, g_Clone_Hold := k_g_Clone_Hold, g_Clone_int := k_g_Clone_int, g_ContainsFunc_Hold := k_g_ContainsFunc_Hold, g_ContainsFunc_Rec := k_g_ContainsFunc_Rec, g_ContainsFunc_int := k_g_ContainsFunc_int, g_IndexFunc_Hold := k_g_IndexFunc_Hold, g_IndexFunc_Rec := k_g_IndexFunc_Rec, g_IndexFunc_int := k_g_IndexFunc_int, i_Hold_ok := k_i_Hold_ok, i_HouseFall := k_i_HouseFall, i_HouseOk := k_i_HouseOk, i_HouseRise := k_i_HouseRise, i_HouseStock := k_i_HouseStock, i_House_copied := k_i_House_copied, i_House_stock := k_i_House_stock, i_LogFall := k_i_LogFall, i_LogOk := k_i_LogOk, i_LogOk_1 := k_i_LogOk_1, i_Log_copied := k_i_Log_copied, i_Log_first := k_i_Log_first, i_Log_known := k_i_Log_known, i_RecOk := k_i_RecOk, i_Rec_copied := k_i_Rec_copied, i_StockDo := k_i_StockDo, i_StockMay := k_i_StockMay, i_StockNew := k_i_StockNew, i_StockOf := k_i_StockOf, i_StockOk := k_i_StockOk, i_StockOk_1 := k_i_StockOk_1, i_Stock_free := k_i_Stock_free, i_in := k_i_in, i_isHouse := k_i_isHouse, i_isTrip := k_i_isTrip, i_wantedOk := k_i_wantedOk, i_wantedOk_1 := k_i_wantedOk_1, i_wantedOk_2 := k_i_wantedOk_2, s_DrawHouseFall := k_s_DrawHouseFall, s_HouseFall := k_s_HouseFall, s_HouseOk := k_s_HouseOk, s_LogOk := k_s_LogOk, s_RecOk := k_s_RecOk, s_StockDo := k_s_StockDo, s_StockMay := k_s_StockMay, s_StockNew := k_s_StockNew, s_StockOk := k_s_StockOk, s_l11Copy := k_s_l11Copy, s_l1Copy := k_s_l1Copy, s_l1Fall := k_s_l1Fall, s_l1Many := k_s_l1Many, s_l1RecCopy := k_s_l1RecCopy, s_l2Copy := k_s_l2Copy, s_l2Do := k_s_l2Do, s_l2Free := k_s_l2Free, s_l2Hold := k_s_l2Hold, s_l2May := k_s_l2May, s_l2Of := k_s_l2Of, s_l6In := k_s_l6In, s_l6Open := k_s_l6Open, s_l6Rd_pick := k_s_l6Rd_pick, s_l71House := k_s_l71House, s_l71Many := k_s_l71Many, s_l71Rec := k_s_l71Rec, s_l71Recs := k_s_l71Recs, w_FnHouseFall := k_w_FnHouseFall, w_lnHouse := k_w_lnHouse, w_lnInts := k_w_lnInts, w_lnLog := k_w_lnLog, w_lnRec := k_w_lnRec, w_lnRecs := k_w_lnRecs, w_lnStock := k_w_lnStock }
end Go.Proofs.Ytjpgpepbnglhlaa.fnHouseFall
