/- The numbers of the functions in this program, and that each is read as its code. No condition. -/
import Derived.Test.YtjpgpepbnglhlaaLExactTripsOfC
import Derived.Test.YtjpgpepbnglhlaaChecked
import Derived.KernelRfl
namespace Go.Proofs.Ytjpgpepbnglhlaa.fnExactTripsOf
open Go.AX
def ids : Ids := { g_Clone_int := 138, g_ContainsFunc_Trip := 142, g_ContainsFunc_int := 188, g_IndexFunc_Trip := 189, g_IndexFunc_int := 202, i_RecOk := 125, i_TripsDo := 56, i_TripsMay := 58, i_TripsOf := 69, i_TripsOk := 60, i_TripsOk_1 := 140, i_in := 130, i_isTrip := 181, i_stateOf := 139, i_wantedOk := 141, i_wantedOk_1 := 186, i_wantedOk_2 := 187, s_RecOk := 42, s_TripsOf := 67, s_l12Do := 136, s_l12May := 185, s_l12Of := 147, s_l1Many := 128, s_l6In := 119, w_FnExactTripsOf := 15, w_eqIntS := 76, w_eqRec := 52, w_eqRecS := 70, w_eqTrip := 145, w_eqTripS := 63, w_heldIntS := 146, w_heldTripS := 65, w_markIntS := 77, w_markRecS := 71, w_markTripS := 64, w_szIntS := 133, w_szRec := 50, w_szRecS := 66, w_toIntS := 73, w_toRec := 51, w_toRecS := 68 }
theorem k_g_Clone_int : Has Try.prog ids.g_Clone_int (L_g_Clone_int ids) := ⟨by kernel_rfl, by kernel_rfl⟩
theorem k_g_ContainsFunc_Trip : Has Try.prog ids.g_ContainsFunc_Trip (L_g_ContainsFunc_Trip ids) := ⟨by kernel_rfl, by kernel_rfl⟩
theorem k_g_ContainsFunc_int : Has Try.prog ids.g_ContainsFunc_int (L_g_ContainsFunc_int ids) := ⟨by kernel_rfl, by kernel_rfl⟩
theorem k_g_IndexFunc_Trip : Has Try.prog ids.g_IndexFunc_Trip (L_g_IndexFunc_Trip ids) := ⟨by kernel_rfl, by kernel_rfl⟩
theorem k_g_IndexFunc_int : Has Try.prog ids.g_IndexFunc_int (L_g_IndexFunc_int ids) := ⟨by kernel_rfl, by kernel_rfl⟩
theorem k_i_RecOk : Has Try.prog ids.i_RecOk (L_i_RecOk ids) := ⟨by kernel_rfl, by kernel_rfl⟩
theorem k_i_TripsDo : Has Try.prog ids.i_TripsDo (L_i_TripsDo ids) := ⟨by kernel_rfl, by kernel_rfl⟩
theorem k_i_TripsMay : Has Try.prog ids.i_TripsMay (L_i_TripsMay ids) := ⟨by kernel_rfl, by kernel_rfl⟩
theorem k_i_TripsOf : Has Try.prog ids.i_TripsOf (L_i_TripsOf ids) := ⟨by kernel_rfl, by kernel_rfl⟩
theorem k_i_TripsOk : Has Try.prog ids.i_TripsOk (L_i_TripsOk ids) := ⟨by kernel_rfl, by kernel_rfl⟩
theorem k_i_TripsOk_1 : Has Try.prog ids.i_TripsOk_1 (L_i_TripsOk_1 ids) := ⟨by kernel_rfl, by kernel_rfl⟩
theorem k_i_in : Has Try.prog ids.i_in (L_i_in ids) := ⟨by kernel_rfl, by kernel_rfl⟩
theorem k_i_isTrip : Has Try.prog ids.i_isTrip (L_i_isTrip ids) := ⟨by kernel_rfl, by kernel_rfl⟩
theorem k_i_stateOf : Has Try.prog ids.i_stateOf (L_i_stateOf ids) := ⟨by kernel_rfl, by kernel_rfl⟩
theorem k_i_wantedOk : Has Try.prog ids.i_wantedOk (L_i_wantedOk ids) := ⟨by kernel_rfl, by kernel_rfl⟩
theorem k_i_wantedOk_1 : Has Try.prog ids.i_wantedOk_1 (L_i_wantedOk_1 ids) := ⟨by kernel_rfl, by kernel_rfl⟩
theorem k_i_wantedOk_2 : Has Try.prog ids.i_wantedOk_2 (L_i_wantedOk_2 ids) := ⟨by kernel_rfl, by kernel_rfl⟩
theorem k_s_RecOk : Has Try.prog ids.s_RecOk (L_s_RecOk ids) := ⟨by kernel_rfl, by kernel_rfl⟩
theorem k_s_TripsOf : Has Try.prog ids.s_TripsOf (L_s_TripsOf ids) := ⟨by kernel_rfl, by kernel_rfl⟩
theorem k_s_l12Do : Has Try.prog ids.s_l12Do (L_s_l12Do ids) := ⟨by kernel_rfl, by kernel_rfl⟩
theorem k_s_l12May : Has Try.prog ids.s_l12May (L_s_l12May ids) := ⟨by kernel_rfl, by kernel_rfl⟩
theorem k_s_l12Of : Has Try.prog ids.s_l12Of (L_s_l12Of ids) := ⟨by kernel_rfl, by kernel_rfl⟩
theorem k_s_l1Many : Has Try.prog ids.s_l1Many (L_s_l1Many ids) := ⟨by kernel_rfl, by kernel_rfl⟩
theorem k_s_l6In : Has Try.prog ids.s_l6In (L_s_l6In ids) := ⟨by kernel_rfl, by kernel_rfl⟩
theorem k_w_FnExactTripsOf : Has Try.prog ids.w_FnExactTripsOf (L_w_FnExactTripsOf ids) := ⟨by kernel_rfl, by kernel_rfl⟩
theorem k_w_eqIntS : Has Try.prog ids.w_eqIntS (L_w_eqIntS ids) := ⟨by kernel_rfl, by kernel_rfl⟩
theorem k_w_eqRec : Has Try.prog ids.w_eqRec (L_w_eqRec ids) := ⟨by kernel_rfl, by kernel_rfl⟩
theorem k_w_eqRecS : Has Try.prog ids.w_eqRecS (L_w_eqRecS ids) := ⟨by kernel_rfl, by kernel_rfl⟩
theorem k_w_eqTrip : Has Try.prog ids.w_eqTrip (L_w_eqTrip ids) := ⟨by kernel_rfl, by kernel_rfl⟩
theorem k_w_eqTripS : Has Try.prog ids.w_eqTripS (L_w_eqTripS ids) := ⟨by kernel_rfl, by kernel_rfl⟩
theorem k_w_heldIntS : Has Try.prog ids.w_heldIntS (L_w_heldIntS ids) := ⟨by kernel_rfl, by kernel_rfl⟩
theorem k_w_heldTripS : Has Try.prog ids.w_heldTripS (L_w_heldTripS ids) := ⟨by kernel_rfl, by kernel_rfl⟩
theorem k_w_markIntS : Has Try.prog ids.w_markIntS (L_w_markIntS ids) := ⟨by kernel_rfl, by kernel_rfl⟩
theorem k_w_markRecS : Has Try.prog ids.w_markRecS (L_w_markRecS ids) := ⟨by kernel_rfl, by kernel_rfl⟩
theorem k_w_markTripS : Has Try.prog ids.w_markTripS (L_w_markTripS ids) := ⟨by kernel_rfl, by kernel_rfl⟩
theorem k_w_szIntS : Has Try.prog ids.w_szIntS (L_w_szIntS ids) := ⟨by kernel_rfl, by kernel_rfl⟩
theorem k_w_szRec : Has Try.prog ids.w_szRec (L_w_szRec ids) := ⟨by kernel_rfl, by kernel_rfl⟩
theorem k_w_szRecS : Has Try.prog ids.w_szRecS (L_w_szRecS ids) := ⟨by kernel_rfl, by kernel_rfl⟩
theorem k_w_toIntS : Has Try.prog ids.w_toIntS (L_w_toIntS ids) := ⟨by kernel_rfl, by kernel_rfl⟩
theorem k_w_toRec : Has Try.prog ids.w_toRec (L_w_toRec ids) := ⟨by kernel_rfl, by kernel_rfl⟩
theorem k_w_toRecS : Has Try.prog ids.w_toRecS (L_w_toRecS ids) := ⟨by kernel_rfl, by kernel_rfl⟩
theorem codes : Codes Try.prog ids := { mixed := by kernel_rfl, g_Clone_int := k_g_Clone_int, g_ContainsFunc_Trip := k_g_ContainsFunc_Trip, g_ContainsFunc_int := k_g_ContainsFunc_int, g_IndexFunc_Trip := k_g_IndexFunc_Trip, g_IndexFunc_int := k_g_IndexFunc_int, i_RecOk := k_i_RecOk, i_TripsDo := k_i_TripsDo, i_TripsMay := k_i_TripsMay, i_TripsOf := k_i_TripsOf, i_TripsOk := k_i_TripsOk, i_TripsOk_1 := k_i_TripsOk_1, i_in := k_i_in, i_isTrip := k_i_isTrip, i_stateOf := k_i_stateOf, i_wantedOk := k_i_wantedOk, i_wantedOk_1 := k_i_wantedOk_1, i_wantedOk_2 := k_i_wantedOk_2, s_RecOk := k_s_RecOk, s_TripsOf := k_s_TripsOf, s_l12Do := k_s_l12Do, s_l12May := k_s_l12May, s_l12Of := k_s_l12Of, s_l1Many := k_s_l1Many, s_l6In := k_s_l6In, w_FnExactTripsOf := k_w_FnExactTripsOf, w_eqIntS := k_w_eqIntS, w_eqRec := k_w_eqRec, w_eqRecS := k_w_eqRecS, w_eqTrip := k_w_eqTrip, w_eqTripS := k_w_eqTripS, w_heldIntS := k_w_heldIntS, w_heldTripS := k_w_heldTripS, w_markIntS := k_w_markIntS, w_markRecS := k_w_markRecS, w_markTripS := k_w_markTripS, w_szIntS := k_w_szIntS, w_szRec := k_w_szRec, w_szRecS := k_w_szRecS, w_toIntS := k_w_toIntS, w_toRec := k_w_toRec, w_toRecS := k_w_toRecS }
end Go.Proofs.Ytjpgpepbnglhlaa.fnExactTripsOf
