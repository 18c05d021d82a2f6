/- The numbers of the functions in this program, and that each is read as its code. No condition. -/
import Derived.Test.YtncphlcbbffecaaLHouseStockC
import Derived.Test.YtncphlcbbffecaaChecked
import Derived.KernelRfl
namespace Go.Proofs.Ytncphlcbbffecaa.fnHouseStock
open Go.AX
def ids : Ids := { g_Clone_Hold := 160, g_Clone_int := 195, g_ContainsFunc_Hold := 108, g_ContainsFunc_Rec := 169, g_ContainsFunc_int := 203, g_IndexFunc_Hold := 163, g_IndexFunc_Rec := 194, g_IndexFunc_int := 213, i_Hold_ok := 106, i_HouseForce := 38, i_HouseOk := 90, i_HouseStock := 30, i_House_copied := 103, i_House_stock := 91, i_LogForce := 104, i_LogOk := 116, i_LogOk_1 := 168, i_Log_copied := 161, i_Log_first := 162, i_Log_known := 154, i_RecOk := 144, i_Rec_copied := 179, i_StockDo := 102, i_StockMay := 134, i_StockNew := 101, i_StockOf := 37, i_StockOk := 39, i_StockOk_1 := 105, i_Stock_free := 89, i_in := 107, i_isHouse := 150, i_isTrip := 141, i_wantedOk := 184, i_wantedOk_1 := 201, i_wantedOk_2 := 202, s_DrawHouseStock := 33, s_HouseOk := 36, s_HouseStock := 35, s_LogOk := 100, s_RecOk := 143, s_StockDo := 189, s_StockMay := 207, s_StockNew := 149, s_StockOk := 214, s_l11Stock := 97, s_l1Many := 183, s_l2Copy := 208, s_l2Do := 159, s_l2Free := 191, s_l2Hold := 216, s_l2May := 158, s_l2Of := 98, s_l6In := 99, s_l6Open := 84, s_l6Rd_pick := 86, s_l71House := 96, s_l71Many := 190, s_l71Rec := 157, s_l71Recs := 156, w_FnHouseStock := 5, w_lnStock := 34 }
theorem k_g_Clone_Hold : Has Try.prog ids.g_Clone_Hold (L_g_Clone_Hold ids) := ⟨by kernel_rfl, by kernel_rfl⟩
theorem k_g_Clone_int : Has Try.prog ids.g_Clone_int (L_g_Clone_int ids) := ⟨by kernel_rfl, by kernel_rfl⟩
theorem k_g_ContainsFunc_Hold : Has Try.prog ids.g_ContainsFunc_Hold (L_g_ContainsFunc_Hold ids) := ⟨by kernel_rfl, by kernel_rfl⟩
theorem k_g_ContainsFunc_Rec : Has Try.prog ids.g_ContainsFunc_Rec (L_g_ContainsFunc_Rec ids) := ⟨by kernel_rfl, by kernel_rfl⟩
theorem k_g_ContainsFunc_int : Has Try.prog ids.g_ContainsFunc_int (L_g_ContainsFunc_int ids) := ⟨by kernel_rfl, by kernel_rfl⟩
theorem k_g_IndexFunc_Hold : Has Try.prog ids.g_IndexFunc_Hold (L_g_IndexFunc_Hold ids) := ⟨by kernel_rfl, by kernel_rfl⟩
theorem k_g_IndexFunc_Rec : Has Try.prog ids.g_IndexFunc_Rec (L_g_IndexFunc_Rec ids) := ⟨by kernel_rfl, by kernel_rfl⟩
theorem k_g_IndexFunc_int : Has Try.prog ids.g_IndexFunc_int (L_g_IndexFunc_int ids) := ⟨by kernel_rfl, by kernel_rfl⟩
theorem k_i_Hold_ok : Has Try.prog ids.i_Hold_ok (L_i_Hold_ok ids) := ⟨by kernel_rfl, by kernel_rfl⟩
theorem k_i_HouseForce : Has Try.prog ids.i_HouseForce (L_i_HouseForce ids) := ⟨by kernel_rfl, by kernel_rfl⟩
theorem k_i_HouseOk : Has Try.prog ids.i_HouseOk (L_i_HouseOk ids) := ⟨by kernel_rfl, by kernel_rfl⟩
theorem k_i_HouseStock : Has Try.prog ids.i_HouseStock (L_i_HouseStock ids) := ⟨by kernel_rfl, by kernel_rfl⟩
theorem k_i_House_copied : Has Try.prog ids.i_House_copied (L_i_House_copied ids) := ⟨by kernel_rfl, by kernel_rfl⟩
theorem k_i_House_stock : Has Try.prog ids.i_House_stock (L_i_House_stock ids) := ⟨by kernel_rfl, by kernel_rfl⟩
theorem k_i_LogForce : Has Try.prog ids.i_LogForce (L_i_LogForce ids) := ⟨by kernel_rfl, by kernel_rfl⟩
theorem k_i_LogOk : Has Try.prog ids.i_LogOk (L_i_LogOk ids) := ⟨by kernel_rfl, by kernel_rfl⟩
theorem k_i_LogOk_1 : Has Try.prog ids.i_LogOk_1 (L_i_LogOk_1 ids) := ⟨by kernel_rfl, by kernel_rfl⟩
theorem k_i_Log_copied : Has Try.prog ids.i_Log_copied (L_i_Log_copied ids) := ⟨by kernel_rfl, by kernel_rfl⟩
theorem k_i_Log_first : Has Try.prog ids.i_Log_first (L_i_Log_first ids) := ⟨by kernel_rfl, by kernel_rfl⟩
theorem k_i_Log_known : Has Try.prog ids.i_Log_known (L_i_Log_known ids) := ⟨by kernel_rfl, by kernel_rfl⟩
theorem k_i_RecOk : Has Try.prog ids.i_RecOk (L_i_RecOk ids) := ⟨by kernel_rfl, by kernel_rfl⟩
theorem k_i_Rec_copied : Has Try.prog ids.i_Rec_copied (L_i_Rec_copied ids) := ⟨by kernel_rfl, by kernel_rfl⟩
theorem k_i_StockDo : Has Try.prog ids.i_StockDo (L_i_StockDo ids) := ⟨by kernel_rfl, by kernel_rfl⟩
theorem k_i_StockMay : Has Try.prog ids.i_StockMay (L_i_StockMay ids) := ⟨by kernel_rfl, by kernel_rfl⟩
theorem k_i_StockNew : Has Try.prog ids.i_StockNew (L_i_StockNew ids) := ⟨by kernel_rfl, by kernel_rfl⟩
theorem k_i_StockOf : Has Try.prog ids.i_StockOf (L_i_StockOf ids) := ⟨by kernel_rfl, by kernel_rfl⟩
theorem k_i_StockOk : Has Try.prog ids.i_StockOk (L_i_StockOk ids) := ⟨by kernel_rfl, by kernel_rfl⟩
theorem k_i_StockOk_1 : Has Try.prog ids.i_StockOk_1 (L_i_StockOk_1 ids) := ⟨by kernel_rfl, by kernel_rfl⟩
theorem k_i_Stock_free : Has Try.prog ids.i_Stock_free (L_i_Stock_free ids) := ⟨by kernel_rfl, by kernel_rfl⟩
theorem k_i_in : Has Try.prog ids.i_in (L_i_in ids) := ⟨by kernel_rfl, by kernel_rfl⟩
theorem k_i_isHouse : Has Try.prog ids.i_isHouse (L_i_isHouse ids) := ⟨by kernel_rfl, by kernel_rfl⟩
theorem k_i_isTrip : Has Try.prog ids.i_isTrip (L_i_isTrip ids) := ⟨by kernel_rfl, by kernel_rfl⟩
theorem k_i_wantedOk : Has Try.prog ids.i_wantedOk (L_i_wantedOk ids) := ⟨by kernel_rfl, by kernel_rfl⟩
theorem k_i_wantedOk_1 : Has Try.prog ids.i_wantedOk_1 (L_i_wantedOk_1 ids) := ⟨by kernel_rfl, by kernel_rfl⟩
theorem k_i_wantedOk_2 : Has Try.prog ids.i_wantedOk_2 (L_i_wantedOk_2 ids) := ⟨by kernel_rfl, by kernel_rfl⟩
theorem k_s_DrawHouseStock : Has Try.prog ids.s_DrawHouseStock (L_s_DrawHouseStock ids) := ⟨by kernel_rfl, by kernel_rfl⟩
theorem k_s_HouseOk : Has Try.prog ids.s_HouseOk (L_s_HouseOk ids) := ⟨by kernel_rfl, by kernel_rfl⟩
theorem k_s_HouseStock : Has Try.prog ids.s_HouseStock (L_s_HouseStock ids) := ⟨by kernel_rfl, by kernel_rfl⟩
theorem k_s_LogOk : Has Try.prog ids.s_LogOk (L_s_LogOk ids) := ⟨by kernel_rfl, by kernel_rfl⟩
theorem k_s_RecOk : Has Try.prog ids.s_RecOk (L_s_RecOk ids) := ⟨by kernel_rfl, by kernel_rfl⟩
theorem k_s_StockDo : Has Try.prog ids.s_StockDo (L_s_StockDo ids) := ⟨by kernel_rfl, by kernel_rfl⟩
theorem k_s_StockMay : Has Try.prog ids.s_StockMay (L_s_StockMay ids) := ⟨by kernel_rfl, by kernel_rfl⟩
theorem k_s_StockNew : Has Try.prog ids.s_StockNew (L_s_StockNew ids) := ⟨by kernel_rfl, by kernel_rfl⟩
theorem k_s_StockOk : Has Try.prog ids.s_StockOk (L_s_StockOk ids) := ⟨by kernel_rfl, by kernel_rfl⟩
theorem k_s_l11Stock : Has Try.prog ids.s_l11Stock (L_s_l11Stock ids) := ⟨by kernel_rfl, by kernel_rfl⟩
theorem k_s_l1Many : Has Try.prog ids.s_l1Many (L_s_l1Many ids) := ⟨by kernel_rfl, by kernel_rfl⟩
theorem k_s_l2Copy : Has Try.prog ids.s_l2Copy (L_s_l2Copy ids) := ⟨by kernel_rfl, by kernel_rfl⟩
theorem k_s_l2Do : Has Try.prog ids.s_l2Do (L_s_l2Do ids) := ⟨by kernel_rfl, by kernel_rfl⟩
theorem k_s_l2Free : Has Try.prog ids.s_l2Free (L_s_l2Free ids) := ⟨by kernel_rfl, by kernel_rfl⟩
theorem k_s_l2Hold : Has Try.prog ids.s_l2Hold (L_s_l2Hold ids) := ⟨by kernel_rfl, by kernel_rfl⟩
theorem k_s_l2May : Has Try.prog ids.s_l2May (L_s_l2May ids) := ⟨by kernel_rfl, by kernel_rfl⟩
theorem k_s_l2Of : Has Try.prog ids.s_l2Of (L_s_l2Of ids) := ⟨by kernel_rfl, by kernel_rfl⟩
theorem k_s_l6In : Has Try.prog ids.s_l6In (L_s_l6In ids) := ⟨by kernel_rfl, by kernel_rfl⟩
theorem k_s_l6Open : Has Try.prog ids.s_l6Open (L_s_l6Open ids) := ⟨by kernel_rfl, by kernel_rfl⟩
theorem k_s_l6Rd_pick : Has Try.prog ids.s_l6Rd_pick (L_s_l6Rd_pick ids) := ⟨by kernel_rfl, by kernel_rfl⟩
theorem k_s_l71House : Has Try.prog ids.s_l71House (L_s_l71House ids) := ⟨by kernel_rfl, by kernel_rfl⟩
theorem k_s_l71Many : Has Try.prog ids.s_l71Many (L_s_l71Many ids) := ⟨by kernel_rfl, by kernel_rfl⟩
theorem k_s_l71Rec : Has Try.prog ids.s_l71Rec (L_s_l71Rec ids) := ⟨by kernel_rfl, by kernel_rfl⟩
theorem k_s_l71Recs : Has Try.prog ids.s_l71Recs (L_s_l71Recs ids) := ⟨by kernel_rfl, by kernel_rfl⟩
theorem k_w_FnHouseStock : Has Try.prog ids.w_FnHouseStock (L_w_FnHouseStock ids) := ⟨by kernel_rfl, by kernel_rfl⟩
theorem k_w_lnStock : Has Try.prog ids.w_lnStock (L_w_lnStock ids) := ⟨by kernel_rfl, by kernel_rfl⟩
theorem codes : Codes Try.prog ids := { mixed := by kernel_rfl, g_Clone_Hold := k_g_Clone_Hold, g_Clone_int := k_g_Clone_int, g_ContainsFunc_Hold := k_g_ContainsFunc_Hold, g_ContainsFunc_Rec := k_g_ContainsFunc_Rec, g_ContainsFunc_int := k_g_ContainsFunc_int, g_IndexFunc_Hold := k_g_IndexFunc_Hold, g_IndexFunc_Rec := k_g_IndexFunc_Rec, g_IndexFunc_int := k_g_IndexFunc_int, i_Hold_ok := k_i_Hold_ok, i_HouseForce := k_i_HouseForce, i_HouseOk := k_i_HouseOk, i_HouseStock := k_i_HouseStock, i_House_copied := k_i_House_copied, i_House_stock := k_i_House_stock, i_LogForce := k_i_LogForce, i_LogOk := k_i_LogOk, i_LogOk_1 := k_i_LogOk_1, i_Log_copied := k_i_Log_copied, i_Log_first := k_i_Log_first, i_Log_known := k_i_Log_known, i_RecOk := k_i_RecOk, i_Rec_copied := k_i_Rec_copied, i_StockDo := k_i_StockDo, i_StockMay := k_i_StockMay, i_StockNew := k_i_StockNew, i_StockOf := k_i_StockOf, i_StockOk := k_i_StockOk, i_StockOk_1 := k_i_StockOk_1, i_Stock_free := k_i_Stock_free, i_in := k_i_in, i_isHouse := k_i_isHouse, i_isTrip := k_i_isTrip, i_wantedOk := k_i_wantedOk, i_wantedOk_1 := k_i_wantedOk_1, i_wantedOk_2 := k_i_wantedOk_2, s_DrawHouseStock := k_s_DrawHouseStock, s_HouseOk := k_s_HouseOk, s_HouseStock := k_s_HouseStock, s_LogOk := k_s_LogOk, s_RecOk := k_s_RecOk, s_StockDo := k_s_StockDo, s_StockMay := k_s_StockMay, s_StockNew := k_s_StockNew, s_StockOk := k_s_StockOk, s_l11Stock := k_s_l11Stock, s_l1Many := k_s_l1Many, s_l2Copy := k_s_l2Copy, s_l2Do := k_s_l2Do, s_l2Free := k_s_l2Free, s_l2Hold := k_s_l2Hold, s_l2May := k_s_l2May, s_l2Of := k_s_l2Of, s_l6In := k_s_l6In, s_l6Open := k_s_l6Open, s_l6Rd_pick := k_s_l6Rd_pick, s_l71House := k_s_l71House, s_l71Many := k_s_l71Many, s_l71Rec := k_s_l71Rec, s_l71Recs := k_s_l71Recs, w_FnHouseStock := k_w_FnHouseStock, w_lnStock := k_w_lnStock }
end Go.Proofs.Ytncphlcbbffecaa.fnHouseStock
