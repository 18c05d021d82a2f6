/- The numbers of the functions in this program, and that each is read as its code. No condition. -/
import Derived.Test.YtjpgpepbnglhlaaLTripsStepC
import Derived.Test.YtjpgpepbnglhlaaChecked
import Derived.KernelRfl
namespace Go.Proofs.Ytjpgpepbnglhlaa.fnTripsStep
open Go.AX
def ids : Ids := { g_Clone_int := 138, g_ContainsFunc_Trip := 142, g_ContainsFunc_int := 188, g_IndexFunc_Trip := 189, g_IndexFunc_int := 202, i_RecOk := 125, i_TripsDo := 56, i_TripsMay := 58, i_TripsOk := 60, i_TripsOk_1 := 140, i_in := 130, i_isTrip := 181, i_stateOf := 139, i_wantedOk := 141, i_wantedOk_1 := 186, i_wantedOk_2 := 187, s_DrawTripsDo := 54, s_DrawTripsMay := 134, s_RecOk := 42, s_TripsDo := 55, s_TripsMay := 135, s_TripsOf := 67, s_TripsOk := 184, s_l12Copy := 137, s_l12Do := 136, s_l12May := 185, s_l12Of := 147, s_l1Many := 128, s_l6In := 119, s_l6Open := 116, s_l6Rd_pick := 120, s_l71Many := 180, s_l71Rec := 122, s_l71TripList := 183, s_l71Trips := 201, w_FnTripsStep := 13, w_lnInts := 59, w_lnTrips := 57 }
theorem k_g_Clone_int : Has Try.prog ids.g_Clone_int (L_g_Clone_int ids) := ⟨by kernel_rfl, by kernel_rfl⟩
theorem k_g_ContainsFunc_Trip : Has Try.prog ids.g_ContainsFunc_Trip (L_g_ContainsFunc_Trip ids) := ⟨by kernel_rfl, by kernel_rfl⟩
theorem k_g_ContainsFunc_int : Has Try.prog ids.g_ContainsFunc_int (L_g_ContainsFunc_int ids) := ⟨by kernel_rfl, by kernel_rfl⟩
theorem k_g_IndexFunc_Trip : Has Try.prog ids.g_IndexFunc_Trip (L_g_IndexFunc_Trip ids) := ⟨by kernel_rfl, by kernel_rfl⟩
theorem k_g_IndexFunc_int : Has Try.prog ids.g_IndexFunc_int (L_g_IndexFunc_int ids) := ⟨by kernel_rfl, by kernel_rfl⟩
theorem k_i_RecOk : Has Try.prog ids.i_RecOk (L_i_RecOk ids) := ⟨by kernel_rfl, by kernel_rfl⟩
theorem k_i_TripsDo : Has Try.prog ids.i_TripsDo (L_i_TripsDo ids) := ⟨by kernel_rfl, by kernel_rfl⟩
theorem k_i_TripsMay : Has Try.prog ids.i_TripsMay (L_i_TripsMay ids) := ⟨by kernel_rfl, by kernel_rfl⟩
theorem k_i_TripsOk : Has Try.prog ids.i_TripsOk (L_i_TripsOk ids) := ⟨by kernel_rfl, by kernel_rfl⟩
theorem k_i_TripsOk_1 : Has Try.prog ids.i_TripsOk_1 (L_i_TripsOk_1 ids) := ⟨by kernel_rfl, by kernel_rfl⟩
theorem k_i_in : Has Try.prog ids.i_in (L_i_in ids) := ⟨by kernel_rfl, by kernel_rfl⟩
theorem k_i_isTrip : Has Try.prog ids.i_isTrip (L_i_isTrip ids) := ⟨by kernel_rfl, by kernel_rfl⟩
theorem k_i_stateOf : Has Try.prog ids.i_stateOf (L_i_stateOf ids) := ⟨by kernel_rfl, by kernel_rfl⟩
theorem k_i_wantedOk : Has Try.prog ids.i_wantedOk (L_i_wantedOk ids) := ⟨by kernel_rfl, by kernel_rfl⟩
theorem k_i_wantedOk_1 : Has Try.prog ids.i_wantedOk_1 (L_i_wantedOk_1 ids) := ⟨by kernel_rfl, by kernel_rfl⟩
theorem k_i_wantedOk_2 : Has Try.prog ids.i_wantedOk_2 (L_i_wantedOk_2 ids) := ⟨by kernel_rfl, by kernel_rfl⟩
theorem k_s_DrawTripsDo : Has Try.prog ids.s_DrawTripsDo (L_s_DrawTripsDo ids) := ⟨by kernel_rfl, by kernel_rfl⟩
theorem k_s_DrawTripsMay : Has Try.prog ids.s_DrawTripsMay (L_s_DrawTripsMay ids) := ⟨by kernel_rfl, by kernel_rfl⟩
theorem k_s_RecOk : Has Try.prog ids.s_RecOk (L_s_RecOk ids) := ⟨by kernel_rfl, by kernel_rfl⟩
theorem k_s_TripsDo : Has Try.prog ids.s_TripsDo (L_s_TripsDo ids) := ⟨by kernel_rfl, by kernel_rfl⟩
theorem k_s_TripsMay : Has Try.prog ids.s_TripsMay (L_s_TripsMay ids) := ⟨by kernel_rfl, by kernel_rfl⟩
theorem k_s_TripsOf : Has Try.prog ids.s_TripsOf (L_s_TripsOf ids) := ⟨by kernel_rfl, by kernel_rfl⟩
theorem k_s_TripsOk : Has Try.prog ids.s_TripsOk (L_s_TripsOk ids) := ⟨by kernel_rfl, by kernel_rfl⟩
theorem k_s_l12Copy : Has Try.prog ids.s_l12Copy (L_s_l12Copy ids) := ⟨by kernel_rfl, by kernel_rfl⟩
theorem k_s_l12Do : Has Try.prog ids.s_l12Do (L_s_l12Do ids) := ⟨by kernel_rfl, by kernel_rfl⟩
theorem k_s_l12May : Has Try.prog ids.s_l12May (L_s_l12May ids) := ⟨by kernel_rfl, by kernel_rfl⟩
theorem k_s_l12Of : Has Try.prog ids.s_l12Of (L_s_l12Of ids) := ⟨by kernel_rfl, by kernel_rfl⟩
theorem k_s_l1Many : Has Try.prog ids.s_l1Many (L_s_l1Many ids) := ⟨by kernel_rfl, by kernel_rfl⟩
theorem k_s_l6In : Has Try.prog ids.s_l6In (L_s_l6In ids) := ⟨by kernel_rfl, by kernel_rfl⟩
theorem k_s_l6Open : Has Try.prog ids.s_l6Open (L_s_l6Open ids) := ⟨by kernel_rfl, by kernel_rfl⟩
theorem k_s_l6Rd_pick : Has Try.prog ids.s_l6Rd_pick (L_s_l6Rd_pick ids) := ⟨by kernel_rfl, by kernel_rfl⟩
theorem k_s_l71Many : Has Try.prog ids.s_l71Many (L_s_l71Many ids) := ⟨by kernel_rfl, by kernel_rfl⟩
theorem k_s_l71Rec : Has Try.prog ids.s_l71Rec (L_s_l71Rec ids) := ⟨by kernel_rfl, by kernel_rfl⟩
theorem k_s_l71TripList : Has Try.prog ids.s_l71TripList (L_s_l71TripList ids) := ⟨by kernel_rfl, by kernel_rfl⟩
theorem k_s_l71Trips : Has Try.prog ids.s_l71Trips (L_s_l71Trips ids) := ⟨by kernel_rfl, by kernel_rfl⟩
theorem k_w_FnTripsStep : Has Try.prog ids.w_FnTripsStep (L_w_FnTripsStep ids) := ⟨by kernel_rfl, by kernel_rfl⟩
theorem k_w_lnInts : Has Try.prog ids.w_lnInts (L_w_lnInts ids) := ⟨by kernel_rfl, by kernel_rfl⟩
theorem k_w_lnTrips : Has Try.prog ids.w_lnTrips (L_w_lnTrips ids) := ⟨by kernel_rfl, by kernel_rfl⟩
theorem codes : Codes Try.prog ids := { mixed := by kernel_rfl, g_Clone_int := k_g_Clone_int, g_ContainsFunc_Trip := k_g_ContainsFunc_Trip, g_ContainsFunc_int := k_g_ContainsFunc_int, g_IndexFunc_Trip := k_g_IndexFunc_Trip, g_IndexFunc_int := k_g_IndexFunc_int, i_RecOk := k_i_RecOk, i_TripsDo := k_i_TripsDo, i_TripsMay := k_i_TripsMay, i_TripsOk := k_i_TripsOk, i_TripsOk_1 := k_i_TripsOk_1, i_in := k_i_in, i_isTrip := k_i_isTrip, i_stateOf := k_i_stateOf, i_wantedOk := k_i_wantedOk, i_wantedOk_1 := k_i_wantedOk_1, i_wantedOk_2 := k_i_wantedOk_2, s_DrawTripsDo := k_s_DrawTripsDo, s_DrawTripsMay := k_s_DrawTripsMay, s_RecOk := k_s_RecOk, s_TripsDo := k_s_TripsDo, s_TripsMay := k_s_TripsMay, s_TripsOf := k_s_TripsOf, s_TripsOk := k_s_TripsOk, s_l12Copy := k_s_l12Copy, s_l12Do := k_s_l12Do, s_l12May := k_s_l12May, s_l12Of := k_s_l12Of, s_l1Many := k_s_l1Many, s_l6In := k_s_l6In, s_l6Open := k_s_l6Open, s_l6Rd_pick := k_s_l6Rd_pick, s_l71Many := k_s_l71Many, s_l71Rec := k_s_l71Rec, s_l71TripList := k_s_l71TripList, s_l71Trips := k_s_l71Trips, w_FnTripsStep := k_w_FnTripsStep, w_lnInts := k_w_lnInts, w_lnTrips := k_w_lnTrips }
end Go.Proofs.Ytjpgpepbnglhlaa.fnTripsStep
