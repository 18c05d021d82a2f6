/- The numbers of the functions in this program, and that each is read as its code. No condition. -/
import Derived.Test.YtfjgckhndimhdaaLDeskWordsC
import Derived.Test.YtfjgckhndimhdaaChecked
import Derived.KernelRfl
namespace Go.Proofs.Ytfjgckhndimhdaa.fnDeskWords
open Go.AX
def ids : Ids := { g_Clone_int := 55, g_ContainsFunc_Rec := 46, g_ContainsFunc_Trip := 35, g_ContainsFunc_int := 58, g_Contains_Word := 26, g_IndexFunc_Rec := 67, g_IndexFunc_Trip := 59, g_IndexFunc_int := 70, g_Index_Word := 49, i_DeskOk := 7, i_DeskTrips := 12, i_DeskWords := 17, i_Desk_told := 61, i_Desk_trips := 37, i_Desk_words := 39, i_LogOk := 23, i_LogOk_1 := 44, i_Log_known := 60, i_RecOk := 45, i_TripsDo := 31, i_TripsMay := 54, i_TripsOf := 9, i_TripsOk := 10, i_TripsOk_1 := 32, i_WordOk := 24, i_Word_answer := 25, i_in := 34, i_isHouse := 47, i_isTrip := 48, i_stateOf := 69, i_wantedOk := 33, i_wantedOk_1 := 56, i_wantedOk_2 := 57, s_DeskNew := 71, s_DeskOk := 8, s_DeskWords := 19, s_DrawDeskOk := 6, s_DrawDeskWords := 16, s_HouseNew := 72, s_LogOk := 28, s_RecOk := 50, s_StockNew := 76, s_WordOk := 29, s_WorldNew := 63, s_l11Answer := 91, s_l11Hear := 86, s_l11Rec := 89, s_l11Stock := 88, s_l12Do := 52, s_l12May := 51, s_l12Of := 27, s_l13All := 93, s_l13Any := 92, s_l13Decide := 87, s_l13Fall := 82, s_l13Hear := 85, s_l13Told := 30, s_l13Trips := 38, s_l13Words := 40, s_l13Write := 77, s_l1Add := 84, s_l1Fall := 83, s_l1Many := 68, s_l21Desk := 73, s_l21Do := 64, s_l21Force := 81, s_l21Hear := 80, s_l21Net := 74, s_l21Node := 75, s_l21Put := 78, s_l21Take := 79, s_l2Do := 96, s_l2Free := 95, s_l2May := 90, s_l2Of := 94, s_l6In := 53, s_l6Open := 22, s_l6Rd_pick := 36, s_l71Many := 66, s_l71Rec := 42, s_l71Word := 43, s_l72Desk := 21, s_l72Event := 65, s_l72Play := 41, s_l72Rooms := 62, w_FnDeskWords := 5, w_lnSaid := 20, w_lnWords := 18 }
theorem k_g_Clone_int : Has Try.prog ids.g_Clone_int (L_g_Clone_int ids) := ⟨by kernel_rfl, by kernel_rfl⟩
theorem k_g_ContainsFunc_Rec : Has Try.prog ids.g_ContainsFunc_Rec (L_g_ContainsFunc_Rec ids) := ⟨by kernel_rfl, by kernel_rfl⟩
theorem k_g_ContainsFunc_Trip : Has Try.prog ids.g_ContainsFunc_Trip (L_g_ContainsFunc_Trip ids) := ⟨by kernel_rfl, by kernel_rfl⟩
theorem k_g_ContainsFunc_int : Has Try.prog ids.g_ContainsFunc_int (L_g_ContainsFunc_int ids) := ⟨by kernel_rfl, by kernel_rfl⟩
theorem k_g_Contains_Word : Has Try.prog ids.g_Contains_Word (L_g_Contains_Word ids) := ⟨by kernel_rfl, by kernel_rfl⟩
theorem k_g_IndexFunc_Rec : Has Try.prog ids.g_IndexFunc_Rec (L_g_IndexFunc_Rec ids) := ⟨by kernel_rfl, by kernel_rfl⟩
theorem k_g_IndexFunc_Trip : Has Try.prog ids.g_IndexFunc_Trip (L_g_IndexFunc_Trip ids) := ⟨by kernel_rfl, by kernel_rfl⟩
theorem k_g_IndexFunc_int : Has Try.prog ids.g_IndexFunc_int (L_g_IndexFunc_int ids) := ⟨by kernel_rfl, by kernel_rfl⟩
theorem k_g_Index_Word : Has Try.prog ids.g_Index_Word (L_g_Index_Word ids) := ⟨by kernel_rfl, by kernel_rfl⟩
theorem k_i_DeskOk : Has Try.prog ids.i_DeskOk (L_i_DeskOk ids) := ⟨by kernel_rfl, by kernel_rfl⟩
theorem k_i_DeskTrips : Has Try.prog ids.i_DeskTrips (L_i_DeskTrips ids) := ⟨by kernel_rfl, by kernel_rfl⟩
theorem k_i_DeskWords : Has Try.prog ids.i_DeskWords (L_i_DeskWords ids) := ⟨by kernel_rfl, by kernel_rfl⟩
theorem k_i_Desk_told : Has Try.prog ids.i_Desk_told (L_i_Desk_told ids) := ⟨by kernel_rfl, by kernel_rfl⟩
theorem k_i_Desk_trips : Has Try.prog ids.i_Desk_trips (L_i_Desk_trips ids) := ⟨by kernel_rfl, by kernel_rfl⟩
theorem k_i_Desk_words : Has Try.prog ids.i_Desk_words (L_i_Desk_words ids) := ⟨by kernel_rfl, by kernel_rfl⟩
theorem k_i_LogOk : Has Try.prog ids.i_LogOk (L_i_LogOk ids) := ⟨by kernel_rfl, by kernel_rfl⟩
theorem k_i_LogOk_1 : Has Try.prog ids.i_LogOk_1 (L_i_LogOk_1 ids) := ⟨by kernel_rfl, by kernel_rfl⟩
theorem k_i_Log_known : Has Try.prog ids.i_Log_known (L_i_Log_known ids) := ⟨by kernel_rfl, by kernel_rfl⟩
theorem k_i_RecOk : Has Try.prog ids.i_RecOk (L_i_RecOk ids) := ⟨by kernel_rfl, by kernel_rfl⟩
theorem k_i_TripsDo : Has Try.prog ids.i_TripsDo (L_i_TripsDo ids) := ⟨by kernel_rfl, by kernel_rfl⟩
theorem k_i_TripsMay : Has Try.prog ids.i_TripsMay (L_i_TripsMay ids) := ⟨by kernel_rfl, by kernel_rfl⟩
theorem k_i_TripsOf : Has Try.prog ids.i_TripsOf (L_i_TripsOf ids) := ⟨by kernel_rfl, by kernel_rfl⟩
theorem k_i_TripsOk : Has Try.prog ids.i_TripsOk (L_i_TripsOk ids) := ⟨by kernel_rfl, by kernel_rfl⟩
theorem k_i_TripsOk_1 : Has Try.prog ids.i_TripsOk_1 (L_i_TripsOk_1 ids) := ⟨by kernel_rfl, by kernel_rfl⟩
theorem k_i_WordOk : Has Try.prog ids.i_WordOk (L_i_WordOk ids) := ⟨by kernel_rfl, by kernel_rfl⟩
theorem k_i_Word_answer : Has Try.prog ids.i_Word_answer (L_i_Word_answer ids) := ⟨by kernel_rfl, by kernel_rfl⟩
theorem k_i_in : Has Try.prog ids.i_in (L_i_in ids) := ⟨by kernel_rfl, by kernel_rfl⟩
theorem k_i_isHouse : Has Try.prog ids.i_isHouse (L_i_isHouse ids) := ⟨by kernel_rfl, by kernel_rfl⟩
theorem k_i_isTrip : Has Try.prog ids.i_isTrip (L_i_isTrip ids) := ⟨by kernel_rfl, by kernel_rfl⟩
theorem k_i_stateOf : Has Try.prog ids.i_stateOf (L_i_stateOf ids) := ⟨by kernel_rfl, by kernel_rfl⟩
theorem k_i_wantedOk : Has Try.prog ids.i_wantedOk (L_i_wantedOk ids) := ⟨by kernel_rfl, by kernel_rfl⟩
theorem k_i_wantedOk_1 : Has Try.prog ids.i_wantedOk_1 (L_i_wantedOk_1 ids) := ⟨by kernel_rfl, by kernel_rfl⟩
theorem k_i_wantedOk_2 : Has Try.prog ids.i_wantedOk_2 (L_i_wantedOk_2 ids) := ⟨by kernel_rfl, by kernel_rfl⟩
theorem k_s_DeskNew : Has Try.prog ids.s_DeskNew (L_s_DeskNew ids) := ⟨by kernel_rfl, by kernel_rfl⟩
theorem k_s_DeskOk : Has Try.prog ids.s_DeskOk (L_s_DeskOk ids) := ⟨by kernel_rfl, by kernel_rfl⟩
theorem k_s_DeskWords : Has Try.prog ids.s_DeskWords (L_s_DeskWords ids) := ⟨by kernel_rfl, by kernel_rfl⟩
theorem k_s_DrawDeskOk : Has Try.prog ids.s_DrawDeskOk (L_s_DrawDeskOk ids) := ⟨by kernel_rfl, by kernel_rfl⟩
theorem k_s_DrawDeskWords : Has Try.prog ids.s_DrawDeskWords (L_s_DrawDeskWords ids) := ⟨by kernel_rfl, by kernel_rfl⟩
theorem k_s_HouseNew : Has Try.prog ids.s_HouseNew (L_s_HouseNew ids) := ⟨by kernel_rfl, by kernel_rfl⟩
theorem k_s_LogOk : Has Try.prog ids.s_LogOk (L_s_LogOk ids) := ⟨by kernel_rfl, by kernel_rfl⟩
theorem k_s_RecOk : Has Try.prog ids.s_RecOk (L_s_RecOk ids) := ⟨by kernel_rfl, by kernel_rfl⟩
theorem k_s_StockNew : Has Try.prog ids.s_StockNew (L_s_StockNew ids) := ⟨by kernel_rfl, by kernel_rfl⟩
theorem k_s_WordOk : Has Try.prog ids.s_WordOk (L_s_WordOk ids) := ⟨by kernel_rfl, by kernel_rfl⟩
theorem k_s_WorldNew : Has Try.prog ids.s_WorldNew (L_s_WorldNew ids) := ⟨by kernel_rfl, by kernel_rfl⟩
theorem k_s_l11Answer : Has Try.prog ids.s_l11Answer (L_s_l11Answer ids) := ⟨by kernel_rfl, by kernel_rfl⟩
theorem k_s_l11Hear : Has Try.prog ids.s_l11Hear (L_s_l11Hear ids) := ⟨by kernel_rfl, by kernel_rfl⟩
theorem k_s_l11Rec : Has Try.prog ids.s_l11Rec (L_s_l11Rec ids) := ⟨by kernel_rfl, by kernel_rfl⟩
theorem k_s_l11Stock : Has Try.prog ids.s_l11Stock (L_s_l11Stock ids) := ⟨by kernel_rfl, by kernel_rfl⟩
theorem k_s_l12Do : Has Try.prog ids.s_l12Do (L_s_l12Do ids) := ⟨by kernel_rfl, by kernel_rfl⟩
theorem k_s_l12May : Has Try.prog ids.s_l12May (L_s_l12May ids) := ⟨by kernel_rfl, by kernel_rfl⟩
theorem k_s_l12Of : Has Try.prog ids.s_l12Of (L_s_l12Of ids) := ⟨by kernel_rfl, by kernel_rfl⟩
theorem k_s_l13All : Has Try.prog ids.s_l13All (L_s_l13All ids) := ⟨by kernel_rfl, by kernel_rfl⟩
theorem k_s_l13Any : Has Try.prog ids.s_l13Any (L_s_l13Any ids) := ⟨by kernel_rfl, by kernel_rfl⟩
theorem k_s_l13Decide : Has Try.prog ids.s_l13Decide (L_s_l13Decide ids) := ⟨by kernel_rfl, by kernel_rfl⟩
theorem k_s_l13Fall : Has Try.prog ids.s_l13Fall (L_s_l13Fall ids) := ⟨by kernel_rfl, by kernel_rfl⟩
theorem k_s_l13Hear : Has Try.prog ids.s_l13Hear (L_s_l13Hear ids) := ⟨by kernel_rfl, by kernel_rfl⟩
theorem k_s_l13Told : Has Try.prog ids.s_l13Told (L_s_l13Told ids) := ⟨by kernel_rfl, by kernel_rfl⟩
theorem k_s_l13Trips : Has Try.prog ids.s_l13Trips (L_s_l13Trips ids) := ⟨by kernel_rfl, by kernel_rfl⟩
theorem k_s_l13Words : Has Try.prog ids.s_l13Words (L_s_l13Words ids) := ⟨by kernel_rfl, by kernel_rfl⟩
theorem k_s_l13Write : Has Try.prog ids.s_l13Write (L_s_l13Write ids) := ⟨by kernel_rfl, by kernel_rfl⟩
theorem k_s_l1Add : Has Try.prog ids.s_l1Add (L_s_l1Add ids) := ⟨by kernel_rfl, by kernel_rfl⟩
theorem k_s_l1Fall : Has Try.prog ids.s_l1Fall (L_s_l1Fall ids) := ⟨by kernel_rfl, by kernel_rfl⟩
theorem k_s_l1Many : Has Try.prog ids.s_l1Many (L_s_l1Many ids) := ⟨by kernel_rfl, by kernel_rfl⟩
theorem k_s_l21Desk : Has Try.prog ids.s_l21Desk (L_s_l21Desk ids) := ⟨by kernel_rfl, by kernel_rfl⟩
theorem k_s_l21Do : Has Try.prog ids.s_l21Do (L_s_l21Do ids) := ⟨by kernel_rfl, by kernel_rfl⟩
theorem k_s_l21Force : Has Try.prog ids.s_l21Force (L_s_l21Force ids) := ⟨by kernel_rfl, by kernel_rfl⟩
theorem k_s_l21Hear : Has Try.prog ids.s_l21Hear (L_s_l21Hear ids) := ⟨by kernel_rfl, by kernel_rfl⟩
theorem k_s_l21Net : Has Try.prog ids.s_l21Net (L_s_l21Net ids) := ⟨by kernel_rfl, by kernel_rfl⟩
theorem k_s_l21Node : Has Try.prog ids.s_l21Node (L_s_l21Node ids) := ⟨by kernel_rfl, by kernel_rfl⟩
theorem k_s_l21Put : Has Try.prog ids.s_l21Put (L_s_l21Put ids) := ⟨by kernel_rfl, by kernel_rfl⟩
theorem k_s_l21Take : Has Try.prog ids.s_l21Take (L_s_l21Take ids) := ⟨by kernel_rfl, by kernel_rfl⟩
theorem k_s_l2Do : Has Try.prog ids.s_l2Do (L_s_l2Do ids) := ⟨by kernel_rfl, by kernel_rfl⟩
theorem k_s_l2Free : Has Try.prog ids.s_l2Free (L_s_l2Free ids) := ⟨by kernel_rfl, by kernel_rfl⟩
theorem k_s_l2May : Has Try.prog ids.s_l2May (L_s_l2May ids) := ⟨by kernel_rfl, by kernel_rfl⟩
theorem k_s_l2Of : Has Try.prog ids.s_l2Of (L_s_l2Of ids) := ⟨by kernel_rfl, by kernel_rfl⟩
theorem k_s_l6In : Has Try.prog ids.s_l6In (L_s_l6In ids) := ⟨by kernel_rfl, by kernel_rfl⟩
theorem k_s_l6Open : Has Try.prog ids.s_l6Open (L_s_l6Open ids) := ⟨by kernel_rfl, by kernel_rfl⟩
theorem k_s_l6Rd_pick : Has Try.prog ids.s_l6Rd_pick (L_s_l6Rd_pick ids) := ⟨by kernel_rfl, by kernel_rfl⟩
theorem k_s_l71Many : Has Try.prog ids.s_l71Many (L_s_l71Many ids) := ⟨by kernel_rfl, by kernel_rfl⟩
theorem k_s_l71Rec : Has Try.prog ids.s_l71Rec (L_s_l71Rec ids) := ⟨by kernel_rfl, by kernel_rfl⟩
theorem k_s_l71Word : Has Try.prog ids.s_l71Word (L_s_l71Word ids) := ⟨by kernel_rfl, by kernel_rfl⟩
theorem k_s_l72Desk : Has Try.prog ids.s_l72Desk (L_s_l72Desk ids) := ⟨by kernel_rfl, by kernel_rfl⟩
theorem k_s_l72Event : Has Try.prog ids.s_l72Event (L_s_l72Event ids) := ⟨by kernel_rfl, by kernel_rfl⟩
theorem k_s_l72Play : Has Try.prog ids.s_l72Play (L_s_l72Play ids) := ⟨by kernel_rfl, by kernel_rfl⟩
theorem k_s_l72Rooms : Has Try.prog ids.s_l72Rooms (L_s_l72Rooms ids) := ⟨by kernel_rfl, by kernel_rfl⟩
theorem k_w_FnDeskWords : Has Try.prog ids.w_FnDeskWords (L_w_FnDeskWords ids) := ⟨by kernel_rfl, by kernel_rfl⟩
theorem k_w_lnSaid : Has Try.prog ids.w_lnSaid (L_w_lnSaid ids) := ⟨by kernel_rfl, by kernel_rfl⟩
theorem k_w_lnWords : Has Try.prog ids.w_lnWords (L_w_lnWords ids) := ⟨by kernel_rfl, by kernel_rfl⟩
theorem codes : Codes Try.prog ids := { mixed := by kernel_rfl, g_Clone_int := k_g_Clone_int, g_ContainsFunc_Rec := k_g_ContainsFunc_Rec, g_ContainsFunc_Trip := k_g_ContainsFunc_Trip, g_ContainsFunc_int := k_g_ContainsFunc_int, g_Contains_Word := k_g_Contains_Word, g_IndexFunc_Rec := k_g_IndexFunc_Rec, g_IndexFunc_Trip := k_g_IndexFunc_Trip, g_IndexFunc_int := k_g_IndexFunc_int, g_Index_Word := k_g_Index_Word, i_DeskOk := k_i_DeskOk, i_DeskTrips := k_i_DeskTrips, i_DeskWords := k_i_DeskWords, i_Desk_told := k_i_Desk_told, i_Desk_trips := k_i_Desk_trips, i_Desk_words := k_i_Desk_words, i_LogOk := k_i_LogOk, i_LogOk_1 := k_i_LogOk_1, i_Log_known := k_i_Log_known, i_RecOk := k_i_RecOk, i_TripsDo := k_i_TripsDo, i_TripsMay := k_i_TripsMay, i_TripsOf := k_i_TripsOf, i_TripsOk := k_i_TripsOk, i_TripsOk_1 := k_i_TripsOk_1, i_WordOk := k_i_WordOk, i_Word_answer := k_i_Word_answer, i_in := k_i_in, i_isHouse := k_i_isHouse, i_isTrip := k_i_isTrip, i_stateOf := k_i_stateOf, i_wantedOk := k_i_wantedOk, i_wantedOk_1 := k_i_wantedOk_1, i_wantedOk_2 := k_i_wantedOk_2, s_DeskNew := k_s_DeskNew, s_DeskOk := k_s_DeskOk, s_DeskWords := k_s_DeskWords, s_DrawDeskOk := k_s_DrawDeskOk, s_DrawDeskWords := k_s_DrawDeskWords, s_HouseNew := k_s_HouseNew, s_LogOk := k_s_LogOk, s_RecOk := k_s_RecOk, s_StockNew := k_s_StockNew, s_WordOk := k_s_WordOk, s_WorldNew := k_s_WorldNew, s_l11Answer := k_s_l11Answer, s_l11Hear := k_s_l11Hear, s_l11Rec := k_s_l11Rec, s_l11Stock := k_s_l11Stock, s_l12Do := k_s_l12Do, s_l12May := k_s_l12May, s_l12Of := k_s_l12Of, s_l13All := k_s_l13All, s_l13Any := k_s_l13Any, s_l13Decide := k_s_l13Decide, s_l13Fall := k_s_l13Fall, s_l13Hear := k_s_l13Hear, s_l13Told := k_s_l13Told, s_l13Trips := k_s_l13Trips, s_l13Words := k_s_l13Words, s_l13Write := k_s_l13Write, s_l1Add := k_s_l1Add, s_l1Fall := k_s_l1Fall, s_l1Many := k_s_l1Many, s_l21Desk := k_s_l21Desk, s_l21Do := k_s_l21Do, s_l21Force := k_s_l21Force, s_l21Hear := k_s_l21Hear, s_l21Net := k_s_l21Net, s_l21Node := k_s_l21Node, s_l21Put := k_s_l21Put, s_l21Take := k_s_l21Take, s_l2Do := k_s_l2Do, s_l2Free := k_s_l2Free, s_l2May := k_s_l2May, s_l2Of := k_s_l2Of, s_l6In := k_s_l6In, s_l6Open := k_s_l6Open, s_l6Rd_pick := k_s_l6Rd_pick, s_l71Many := k_s_l71Many, s_l71Rec := k_s_l71Rec, s_l71Word := k_s_l71Word, s_l72Desk := k_s_l72Desk, s_l72Event := k_s_l72Event, s_l72Play := k_s_l72Play, s_l72Rooms := k_s_l72Rooms, w_FnDeskWords := k_w_FnDeskWords, w_lnSaid := k_w_lnSaid, w_lnWords := k_w_lnWords }
end Go.Proofs.Ytfjgckhndimhdaa.fnDeskWords
