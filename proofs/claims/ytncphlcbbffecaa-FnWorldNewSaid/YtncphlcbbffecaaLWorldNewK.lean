/- The numbers of the functions in this program, and that each is read as its code. No condition. -/
import Derived.Test.YtncphlcbbffecaaLWorldNewC
import Derived.Test.YtncphlcbbffecaaChecked
import Derived.KernelRfl
namespace Go.Proofs.Ytncphlcbbffecaa.fnWorldNew
open Go.AX
def ids : Ids := { g_Clone_Hold := 160, g_Clone_int := 195, g_ContainsFunc_Hold := 108, g_ContainsFunc_Rec := 169, g_ContainsFunc_Trip := 212, g_ContainsFunc_Word := 92, g_ContainsFunc_int := 203, g_Contains_Word := 119, g_IndexFunc_Hold := 163, g_IndexFunc_Rec := 194, g_IndexFunc_Trip := 215, g_IndexFunc_Word := 155, g_IndexFunc_int := 213, g_Index_Word := 171, i_DeskNew := 79, i_DeskOk := 43, i_DeskTrips := 32, i_Desk_trips := 95, i_Hold_ok := 106, i_HouseNew := 80, i_HouseOk := 90, i_HouseStock := 30, i_House_stock := 91, i_LogOk := 116, i_LogOk_1 := 168, i_Log_known := 154, i_RecOk := 144, i_StockDo := 102, i_StockFree := 29, i_StockMay := 134, i_StockNew := 101, i_StockOf := 37, i_StockOk := 39, i_StockOk_1 := 105, i_Stock_free := 89, i_TripsDo := 170, i_TripsMay := 182, i_TripsOf := 117, i_TripsOk := 199, i_TripsOk_1 := 211, i_WordOk := 94, i_Word_answer := 118, i_WorldNew := 21, i_WorldOk := 31, i_WorldOk_1 := 93, i_in := 107, i_isHouse := 150, i_isTrip := 141, i_stateOf := 200, i_wantedOk := 184, i_wantedOk_1 := 201, i_wantedOk_2 := 202, s_DeskNew := 77, s_DrawWorldNew := 27, s_HouseNew := 78, s_StockNew := 149, s_WorldNew := 19, s_l6In := 99, s_l6Open := 84, s_l6Rd_pick := 86, s_l72Rooms := 85, w_FnWorldNew := 4, w_lnDesk := 87, w_lnHouse := 61, w_lnInts := 210, w_lnLog := 137, w_lnRec := 198, w_lnRecs := 180, w_lnWords := 88, w_lnWorld := 28 }
theorem k_g_Clone_Hold : Has Try.prog ids.g_Clone_Hold (L_g_Clone_Hold ids) := ⟨by kernel_rfl, by kernel_rfl⟩
theorem k_g_Clone_int : Has Try.prog ids.g_Clone_int (L_g_Clone_int ids) := ⟨by kernel_rfl, by kernel_rfl⟩
theorem k_g_ContainsFunc_Hold : Has Try.prog ids.g_ContainsFunc_Hold (L_g_ContainsFunc_Hold ids) := ⟨by kernel_rfl, by kernel_rfl⟩
theorem k_g_ContainsFunc_Rec : Has Try.prog ids.g_ContainsFunc_Rec (L_g_ContainsFunc_Rec ids) := ⟨by kernel_rfl, by kernel_rfl⟩
theorem k_g_ContainsFunc_Trip : Has Try.prog ids.g_ContainsFunc_Trip (L_g_ContainsFunc_Trip ids) := ⟨by kernel_rfl, by kernel_rfl⟩
theorem k_g_ContainsFunc_Word : Has Try.prog ids.g_ContainsFunc_Word (L_g_ContainsFunc_Word ids) := ⟨by kernel_rfl, by kernel_rfl⟩
theorem k_g_ContainsFunc_int : Has Try.prog ids.g_ContainsFunc_int (L_g_ContainsFunc_int ids) := ⟨by kernel_rfl, by kernel_rfl⟩
theorem k_g_Contains_Word : Has Try.prog ids.g_Contains_Word (L_g_Contains_Word ids) := ⟨by kernel_rfl, by kernel_rfl⟩
theorem k_g_IndexFunc_Hold : Has Try.prog ids.g_IndexFunc_Hold (L_g_IndexFunc_Hold ids) := ⟨by kernel_rfl, by kernel_rfl⟩
theorem k_g_IndexFunc_Rec : Has Try.prog ids.g_IndexFunc_Rec (L_g_IndexFunc_Rec ids) := ⟨by kernel_rfl, by kernel_rfl⟩
theorem k_g_IndexFunc_Trip : Has Try.prog ids.g_IndexFunc_Trip (L_g_IndexFunc_Trip ids) := ⟨by kernel_rfl, by kernel_rfl⟩
theorem k_g_IndexFunc_Word : Has Try.prog ids.g_IndexFunc_Word (L_g_IndexFunc_Word ids) := ⟨by kernel_rfl, by kernel_rfl⟩
theorem k_g_IndexFunc_int : Has Try.prog ids.g_IndexFunc_int (L_g_IndexFunc_int ids) := ⟨by kernel_rfl, by kernel_rfl⟩
theorem k_g_Index_Word : Has Try.prog ids.g_Index_Word (L_g_Index_Word ids) := ⟨by kernel_rfl, by kernel_rfl⟩
theorem k_i_DeskNew : Has Try.prog ids.i_DeskNew (L_i_DeskNew ids) := ⟨by kernel_rfl, by kernel_rfl⟩
theorem k_i_DeskOk : Has Try.prog ids.i_DeskOk (L_i_DeskOk ids) := ⟨by kernel_rfl, by kernel_rfl⟩
theorem k_i_DeskTrips : Has Try.prog ids.i_DeskTrips (L_i_DeskTrips ids) := ⟨by kernel_rfl, by kernel_rfl⟩
theorem k_i_Desk_trips : Has Try.prog ids.i_Desk_trips (L_i_Desk_trips ids) := ⟨by kernel_rfl, by kernel_rfl⟩
theorem k_i_Hold_ok : Has Try.prog ids.i_Hold_ok (L_i_Hold_ok ids) := ⟨by kernel_rfl, by kernel_rfl⟩
theorem k_i_HouseNew : Has Try.prog ids.i_HouseNew (L_i_HouseNew ids) := ⟨by kernel_rfl, by kernel_rfl⟩
theorem k_i_HouseOk : Has Try.prog ids.i_HouseOk (L_i_HouseOk ids) := ⟨by kernel_rfl, by kernel_rfl⟩
theorem k_i_HouseStock : Has Try.prog ids.i_HouseStock (L_i_HouseStock ids) := ⟨by kernel_rfl, by kernel_rfl⟩
theorem k_i_House_stock : Has Try.prog ids.i_House_stock (L_i_House_stock ids) := ⟨by kernel_rfl, by kernel_rfl⟩
theorem k_i_LogOk : Has Try.prog ids.i_LogOk (L_i_LogOk ids) := ⟨by kernel_rfl, by kernel_rfl⟩
theorem k_i_LogOk_1 : Has Try.prog ids.i_LogOk_1 (L_i_LogOk_1 ids) := ⟨by kernel_rfl, by kernel_rfl⟩
theorem k_i_Log_known : Has Try.prog ids.i_Log_known (L_i_Log_known ids) := ⟨by kernel_rfl, by kernel_rfl⟩
theorem k_i_RecOk : Has Try.prog ids.i_RecOk (L_i_RecOk ids) := ⟨by kernel_rfl, by kernel_rfl⟩
theorem k_i_StockDo : Has Try.prog ids.i_StockDo (L_i_StockDo ids) := ⟨by kernel_rfl, by kernel_rfl⟩
theorem k_i_StockFree : Has Try.prog ids.i_StockFree (L_i_StockFree ids) := ⟨by kernel_rfl, by kernel_rfl⟩
theorem k_i_StockMay : Has Try.prog ids.i_StockMay (L_i_StockMay ids) := ⟨by kernel_rfl, by kernel_rfl⟩
theorem k_i_StockNew : Has Try.prog ids.i_StockNew (L_i_StockNew ids) := ⟨by kernel_rfl, by kernel_rfl⟩
theorem k_i_StockOf : Has Try.prog ids.i_StockOf (L_i_StockOf ids) := ⟨by kernel_rfl, by kernel_rfl⟩
theorem k_i_StockOk : Has Try.prog ids.i_StockOk (L_i_StockOk ids) := ⟨by kernel_rfl, by kernel_rfl⟩
theorem k_i_StockOk_1 : Has Try.prog ids.i_StockOk_1 (L_i_StockOk_1 ids) := ⟨by kernel_rfl, by kernel_rfl⟩
theorem k_i_Stock_free : Has Try.prog ids.i_Stock_free (L_i_Stock_free ids) := ⟨by kernel_rfl, by kernel_rfl⟩
theorem k_i_TripsDo : Has Try.prog ids.i_TripsDo (L_i_TripsDo ids) := ⟨by kernel_rfl, by kernel_rfl⟩
theorem k_i_TripsMay : Has Try.prog ids.i_TripsMay (L_i_TripsMay ids) := ⟨by kernel_rfl, by kernel_rfl⟩
theorem k_i_TripsOf : Has Try.prog ids.i_TripsOf (L_i_TripsOf ids) := ⟨by kernel_rfl, by kernel_rfl⟩
theorem k_i_TripsOk : Has Try.prog ids.i_TripsOk (L_i_TripsOk ids) := ⟨by kernel_rfl, by kernel_rfl⟩
theorem k_i_TripsOk_1 : Has Try.prog ids.i_TripsOk_1 (L_i_TripsOk_1 ids) := ⟨by kernel_rfl, by kernel_rfl⟩
theorem k_i_WordOk : Has Try.prog ids.i_WordOk (L_i_WordOk ids) := ⟨by kernel_rfl, by kernel_rfl⟩
theorem k_i_Word_answer : Has Try.prog ids.i_Word_answer (L_i_Word_answer ids) := ⟨by kernel_rfl, by kernel_rfl⟩
theorem k_i_WorldNew : Has Try.prog ids.i_WorldNew (L_i_WorldNew ids) := ⟨by kernel_rfl, by kernel_rfl⟩
theorem k_i_WorldOk : Has Try.prog ids.i_WorldOk (L_i_WorldOk ids) := ⟨by kernel_rfl, by kernel_rfl⟩
theorem k_i_WorldOk_1 : Has Try.prog ids.i_WorldOk_1 (L_i_WorldOk_1 ids) := ⟨by kernel_rfl, by kernel_rfl⟩
theorem k_i_in : Has Try.prog ids.i_in (L_i_in ids) := ⟨by kernel_rfl, by kernel_rfl⟩
theorem k_i_isHouse : Has Try.prog ids.i_isHouse (L_i_isHouse ids) := ⟨by kernel_rfl, by kernel_rfl⟩
theorem k_i_isTrip : Has Try.prog ids.i_isTrip (L_i_isTrip ids) := ⟨by kernel_rfl, by kernel_rfl⟩
theorem k_i_stateOf : Has Try.prog ids.i_stateOf (L_i_stateOf ids) := ⟨by kernel_rfl, by kernel_rfl⟩
theorem k_i_wantedOk : Has Try.prog ids.i_wantedOk (L_i_wantedOk ids) := ⟨by kernel_rfl, by kernel_rfl⟩
theorem k_i_wantedOk_1 : Has Try.prog ids.i_wantedOk_1 (L_i_wantedOk_1 ids) := ⟨by kernel_rfl, by kernel_rfl⟩
theorem k_i_wantedOk_2 : Has Try.prog ids.i_wantedOk_2 (L_i_wantedOk_2 ids) := ⟨by kernel_rfl, by kernel_rfl⟩
theorem k_s_DeskNew : Has Try.prog ids.s_DeskNew (L_s_DeskNew ids) := ⟨by kernel_rfl, by kernel_rfl⟩
theorem k_s_DrawWorldNew : Has Try.prog ids.s_DrawWorldNew (L_s_DrawWorldNew ids) := ⟨by kernel_rfl, by kernel_rfl⟩
theorem k_s_HouseNew : Has Try.prog ids.s_HouseNew (L_s_HouseNew ids) := ⟨by kernel_rfl, by kernel_rfl⟩
theorem k_s_StockNew : Has Try.prog ids.s_StockNew (L_s_StockNew ids) := ⟨by kernel_rfl, by kernel_rfl⟩
theorem k_s_WorldNew : Has Try.prog ids.s_WorldNew (L_s_WorldNew ids) := ⟨by kernel_rfl, by kernel_rfl⟩
theorem k_s_l6In : Has Try.prog ids.s_l6In (L_s_l6In ids) := ⟨by kernel_rfl, by kernel_rfl⟩
theorem k_s_l6Open : Has Try.prog ids.s_l6Open (L_s_l6Open ids) := ⟨by kernel_rfl, by kernel_rfl⟩
theorem k_s_l6Rd_pick : Has Try.prog ids.s_l6Rd_pick (L_s_l6Rd_pick ids) := ⟨by kernel_rfl, by kernel_rfl⟩
theorem k_s_l72Rooms : Has Try.prog ids.s_l72Rooms (L_s_l72Rooms ids) := ⟨by kernel_rfl, by kernel_rfl⟩
theorem k_w_FnWorldNew : Has Try.prog ids.w_FnWorldNew (L_w_FnWorldNew ids) := ⟨by kernel_rfl, by kernel_rfl⟩
theorem k_w_lnDesk : Has Try.prog ids.w_lnDesk (L_w_lnDesk ids) := ⟨by kernel_rfl, by kernel_rfl⟩
theorem k_w_lnHouse : Has Try.prog ids.w_lnHouse (L_w_lnHouse ids) := ⟨by kernel_rfl, by kernel_rfl⟩
theorem k_w_lnInts : Has Try.prog ids.w_lnInts (L_w_lnInts ids) := ⟨by kernel_rfl, by kernel_rfl⟩
theorem k_w_lnLog : Has Try.prog ids.w_lnLog (L_w_lnLog ids) := ⟨by kernel_rfl, by kernel_rfl⟩
theorem k_w_lnRec : Has Try.prog ids.w_lnRec (L_w_lnRec ids) := ⟨by kernel_rfl, by kernel_rfl⟩
theorem k_w_lnRecs : Has Try.prog ids.w_lnRecs (L_w_lnRecs ids) := ⟨by kernel_rfl, by kernel_rfl⟩
theorem k_w_lnWords : Has Try.prog ids.w_lnWords (L_w_lnWords ids) := ⟨by kernel_rfl, by kernel_rfl⟩
theorem k_w_lnWorld : Has Try.prog ids.w_lnWorld (L_w_lnWorld ids) := ⟨by kernel_rfl, by kernel_rfl⟩
theorem codes : Codes Try.prog ids := { mixed := by kernel_rfl, g_Clone_Hold := k_g_Clone_Hold, g_Clone_int := k_g_Clone_int, g_ContainsFunc_Hold := k_g_ContainsFunc_Hold, g_ContainsFunc_Rec := k_g_ContainsFunc_Rec, g_ContainsFunc_Trip := k_g_ContainsFunc_Trip, g_ContainsFunc_Word := k_g_ContainsFunc_Word, g_ContainsFunc_int := k_g_ContainsFunc_int, g_Contains_Word := k_g_Contains_Word, g_IndexFunc_Hold := k_g_IndexFunc_Hold, g_IndexFunc_Rec := k_g_IndexFunc_Rec, g_IndexFunc_Trip := k_g_IndexFunc_Trip, g_IndexFunc_Word := k_g_IndexFunc_Word, g_IndexFunc_int := k_g_IndexFunc_int, g_Index_Word := k_g_Index_Word, i_DeskNew := k_i_DeskNew, i_DeskOk := k_i_DeskOk, i_DeskTrips := k_i_DeskTrips, i_Desk_trips := k_i_Desk_trips, i_Hold_ok := k_i_Hold_ok, i_HouseNew := k_i_HouseNew, i_HouseOk := k_i_HouseOk, i_HouseStock := k_i_HouseStock, i_House_stock := k_i_House_stock, i_LogOk := k_i_LogOk, i_LogOk_1 := k_i_LogOk_1, i_Log_known := k_i_Log_known, i_RecOk := k_i_RecOk, i_StockDo := k_i_StockDo, i_StockFree := k_i_StockFree, i_StockMay := k_i_StockMay, i_StockNew := k_i_StockNew, i_StockOf := k_i_StockOf, i_StockOk := k_i_StockOk, i_StockOk_1 := k_i_StockOk_1, i_Stock_free := k_i_Stock_free, i_TripsDo := k_i_TripsDo, i_TripsMay := k_i_TripsMay, i_TripsOf := k_i_TripsOf, i_TripsOk := k_i_TripsOk, i_TripsOk_1 := k_i_TripsOk_1, i_WordOk := k_i_WordOk, i_Word_answer := k_i_Word_answer, i_WorldNew := k_i_WorldNew, i_WorldOk := k_i_WorldOk, i_WorldOk_1 := k_i_WorldOk_1, i_in := k_i_in, i_isHouse := k_i_isHouse, i_isTrip := k_i_isTrip, i_stateOf := k_i_stateOf, i_wantedOk := k_i_wantedOk, i_wantedOk_1 := k_i_wantedOk_1, i_wantedOk_2 := k_i_wantedOk_2, s_DeskNew := k_s_DeskNew, s_DrawWorldNew := k_s_DrawWorldNew, s_HouseNew := k_s_HouseNew, s_StockNew := k_s_StockNew, s_WorldNew := k_s_WorldNew, s_l6In := k_s_l6In, s_l6Open := k_s_l6Open, s_l6Rd_pick := k_s_l6Rd_pick, s_l72Rooms := k_s_l72Rooms, w_FnWorldNew := k_w_FnWorldNew, w_lnDesk := k_w_lnDesk, w_lnHouse := k_w_lnHouse, w_lnInts := k_w_lnInts, w_lnLog := k_w_lnLog, w_lnRec := k_w_lnRec, w_lnRecs := k_w_lnRecs, w_lnWords := k_w_lnWords, w_lnWorld := k_w_lnWorld }
end Go.Proofs.Ytncphlcbbffecaa.fnWorldNew
