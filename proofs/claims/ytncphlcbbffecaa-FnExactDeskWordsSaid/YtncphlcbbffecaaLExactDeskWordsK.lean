/- The numbers of the functions in this program, and that each is read as its code. No condition. -/
import Derived.Test.YtncphlcbbffecaaLExactDeskWordsC
import Derived.Test.YtncphlcbbffecaaChecked
import Derived.KernelRfl
namespace Go.Proofs.Ytncphlcbbffecaa.fnExactDeskWords
open Go.AX
def ids : Ids := { g_Clone_int := 195, g_ContainsFunc_Rec := 169, g_ContainsFunc_Trip := 212, g_ContainsFunc_int := 203, g_Contains_Word := 119, g_IndexFunc_Rec := 194, g_IndexFunc_Trip := 215, g_IndexFunc_int := 213, g_Index_Word := 171, i_DeskOk := 43, i_DeskWords := 51, i_Desk_told := 173, i_Desk_trips := 95, i_Desk_words := 126, i_LogOk := 116, i_LogOk_1 := 168, i_Log_known := 154, i_RecOk := 144, i_TripsDo := 170, i_TripsMay := 182, i_TripsOf := 117, i_TripsOk := 199, i_TripsOk_1 := 211, i_WordOk := 94, i_Word_answer := 118, i_in := 107, i_isHouse := 150, i_isTrip := 141, i_stateOf := 200, i_wantedOk := 184, i_wantedOk_1 := 201, i_wantedOk_2 := 202, s_DeskOk := 41, s_DeskWords := 50, s_LogOk := 100, s_RecOk := 143, s_WordOk := 112, s_l12Do := 166, s_l12May := 165, s_l12Of := 111, s_l13Told := 113, s_l13Trips := 121, s_l13Words := 125, s_l1Many := 183, s_l6In := 99, w_FnExactDeskWords := 8, w_eqDesk := 44, w_eqIntS := 23, w_eqLog := 120, w_eqRec := 196, w_eqRecS := 172, w_eqWord := 127, w_eqWordS := 52, w_heldWordS := 54, w_markDesk := 47, w_markIntS := 24, w_markLog := 123, w_markRecS := 152, w_markWordS := 53, w_szDesk := 40, w_szIntS := 209, w_szLog := 109, w_szRec := 192, w_szRecS := 164, w_szWordS := 110, w_toDesk := 42, w_toIntS := 20, w_toLog := 114, w_toRec := 193, w_toRecS := 167, w_toWord := 75, w_toWordS := 115 }
theorem k_g_Clone_int : Has Try.prog ids.g_Clone_int (L_g_Clone_int ids) := ⟨by kernel_rfl, by kernel_rfl⟩
theorem k_g_ContainsFunc_Rec : Has Try.prog ids.g_ContainsFunc_Rec (L_g_ContainsFunc_Rec ids) := ⟨by kernel_rfl, by kernel_rfl⟩
theorem k_g_ContainsFunc_Trip : Has Try.prog ids.g_ContainsFunc_Trip (L_g_ContainsFunc_Trip ids) := ⟨by kernel_rfl, by kernel_rfl⟩
theorem k_g_ContainsFunc_int : Has Try.prog ids.g_ContainsFunc_int (L_g_ContainsFunc_int ids) := ⟨by kernel_rfl, by kernel_rfl⟩
theorem k_g_Contains_Word : Has Try.prog ids.g_Contains_Word (L_g_Contains_Word ids) := ⟨by kernel_rfl, by kernel_rfl⟩
theorem k_g_IndexFunc_Rec : Has Try.prog ids.g_IndexFunc_Rec (L_g_IndexFunc_Rec ids) := ⟨by kernel_rfl, by kernel_rfl⟩
theorem k_g_IndexFunc_Trip : Has Try.prog ids.g_IndexFunc_Trip (L_g_IndexFunc_Trip ids) := ⟨by kernel_rfl, by kernel_rfl⟩
theorem k_g_IndexFunc_int : Has Try.prog ids.g_IndexFunc_int (L_g_IndexFunc_int ids) := ⟨by kernel_rfl, by kernel_rfl⟩
theorem k_g_Index_Word : Has Try.prog ids.g_Index_Word (L_g_Index_Word ids) := ⟨by kernel_rfl, by kernel_rfl⟩
theorem k_i_DeskOk : Has Try.prog ids.i_DeskOk (L_i_DeskOk ids) := ⟨by kernel_rfl, by kernel_rfl⟩
theorem k_i_DeskWords : Has Try.prog ids.i_DeskWords (L_i_DeskWords ids) := ⟨by kernel_rfl, by kernel_rfl⟩
theorem k_i_Desk_told : Has Try.prog ids.i_Desk_told (L_i_Desk_told ids) := ⟨by kernel_rfl, by kernel_rfl⟩
theorem k_i_Desk_trips : Has Try.prog ids.i_Desk_trips (L_i_Desk_trips ids) := ⟨by kernel_rfl, by kernel_rfl⟩
theorem k_i_Desk_words : Has Try.prog ids.i_Desk_words (L_i_Desk_words ids) := ⟨by kernel_rfl, by kernel_rfl⟩
theorem k_i_LogOk : Has Try.prog ids.i_LogOk (L_i_LogOk ids) := ⟨by kernel_rfl, by kernel_rfl⟩
theorem k_i_LogOk_1 : Has Try.prog ids.i_LogOk_1 (L_i_LogOk_1 ids) := ⟨by kernel_rfl, by kernel_rfl⟩
theorem k_i_Log_known : Has Try.prog ids.i_Log_known (L_i_Log_known ids) := ⟨by kernel_rfl, by kernel_rfl⟩
theorem k_i_RecOk : Has Try.prog ids.i_RecOk (L_i_RecOk ids) := ⟨by kernel_rfl, by kernel_rfl⟩
theorem k_i_TripsDo : Has Try.prog ids.i_TripsDo (L_i_TripsDo ids) := ⟨by kernel_rfl, by kernel_rfl⟩
theorem k_i_TripsMay : Has Try.prog ids.i_TripsMay (L_i_TripsMay ids) := ⟨by kernel_rfl, by kernel_rfl⟩
theorem k_i_TripsOf : Has Try.prog ids.i_TripsOf (L_i_TripsOf ids) := ⟨by kernel_rfl, by kernel_rfl⟩
theorem k_i_TripsOk : Has Try.prog ids.i_TripsOk (L_i_TripsOk ids) := ⟨by kernel_rfl, by kernel_rfl⟩
theorem k_i_TripsOk_1 : Has Try.prog ids.i_TripsOk_1 (L_i_TripsOk_1 ids) := ⟨by kernel_rfl, by kernel_rfl⟩
theorem k_i_WordOk : Has Try.prog ids.i_WordOk (L_i_WordOk ids) := ⟨by kernel_rfl, by kernel_rfl⟩
theorem k_i_Word_answer : Has Try.prog ids.i_Word_answer (L_i_Word_answer ids) := ⟨by kernel_rfl, by kernel_rfl⟩
theorem k_i_in : Has Try.prog ids.i_in (L_i_in ids) := ⟨by kernel_rfl, by kernel_rfl⟩
theorem k_i_isHouse : Has Try.prog ids.i_isHouse (L_i_isHouse ids) := ⟨by kernel_rfl, by kernel_rfl⟩
theorem k_i_isTrip : Has Try.prog ids.i_isTrip (L_i_isTrip ids) := ⟨by kernel_rfl, by kernel_rfl⟩
theorem k_i_stateOf : Has Try.prog ids.i_stateOf (L_i_stateOf ids) := ⟨by kernel_rfl, by kernel_rfl⟩
theorem k_i_wantedOk : Has Try.prog ids.i_wantedOk (L_i_wantedOk ids) := ⟨by kernel_rfl, by kernel_rfl⟩
theorem k_i_wantedOk_1 : Has Try.prog ids.i_wantedOk_1 (L_i_wantedOk_1 ids) := ⟨by kernel_rfl, by kernel_rfl⟩
theorem k_i_wantedOk_2 : Has Try.prog ids.i_wantedOk_2 (L_i_wantedOk_2 ids) := ⟨by kernel_rfl, by kernel_rfl⟩
theorem k_s_DeskOk : Has Try.prog ids.s_DeskOk (L_s_DeskOk ids) := ⟨by kernel_rfl, by kernel_rfl⟩
theorem k_s_DeskWords : Has Try.prog ids.s_DeskWords (L_s_DeskWords ids) := ⟨by kernel_rfl, by kernel_rfl⟩
theorem k_s_LogOk : Has Try.prog ids.s_LogOk (L_s_LogOk ids) := ⟨by kernel_rfl, by kernel_rfl⟩
theorem k_s_RecOk : Has Try.prog ids.s_RecOk (L_s_RecOk ids) := ⟨by kernel_rfl, by kernel_rfl⟩
theorem k_s_WordOk : Has Try.prog ids.s_WordOk (L_s_WordOk ids) := ⟨by kernel_rfl, by kernel_rfl⟩
theorem k_s_l12Do : Has Try.prog ids.s_l12Do (L_s_l12Do ids) := ⟨by kernel_rfl, by kernel_rfl⟩
theorem k_s_l12May : Has Try.prog ids.s_l12May (L_s_l12May ids) := ⟨by kernel_rfl, by kernel_rfl⟩
theorem k_s_l12Of : Has Try.prog ids.s_l12Of (L_s_l12Of ids) := ⟨by kernel_rfl, by kernel_rfl⟩
theorem k_s_l13Told : Has Try.prog ids.s_l13Told (L_s_l13Told ids) := ⟨by kernel_rfl, by kernel_rfl⟩
theorem k_s_l13Trips : Has Try.prog ids.s_l13Trips (L_s_l13Trips ids) := ⟨by kernel_rfl, by kernel_rfl⟩
theorem k_s_l13Words : Has Try.prog ids.s_l13Words (L_s_l13Words ids) := ⟨by kernel_rfl, by kernel_rfl⟩
theorem k_s_l1Many : Has Try.prog ids.s_l1Many (L_s_l1Many ids) := ⟨by kernel_rfl, by kernel_rfl⟩
theorem k_s_l6In : Has Try.prog ids.s_l6In (L_s_l6In ids) := ⟨by kernel_rfl, by kernel_rfl⟩
theorem k_w_FnExactDeskWords : Has Try.prog ids.w_FnExactDeskWords (L_w_FnExactDeskWords ids) := ⟨by kernel_rfl, by kernel_rfl⟩
theorem k_w_eqDesk : Has Try.prog ids.w_eqDesk (L_w_eqDesk ids) := ⟨by kernel_rfl, by kernel_rfl⟩
theorem k_w_eqIntS : Has Try.prog ids.w_eqIntS (L_w_eqIntS ids) := ⟨by kernel_rfl, by kernel_rfl⟩
theorem k_w_eqLog : Has Try.prog ids.w_eqLog (L_w_eqLog ids) := ⟨by kernel_rfl, by kernel_rfl⟩
theorem k_w_eqRec : Has Try.prog ids.w_eqRec (L_w_eqRec ids) := ⟨by kernel_rfl, by kernel_rfl⟩
theorem k_w_eqRecS : Has Try.prog ids.w_eqRecS (L_w_eqRecS ids) := ⟨by kernel_rfl, by kernel_rfl⟩
theorem k_w_eqWord : Has Try.prog ids.w_eqWord (L_w_eqWord ids) := ⟨by kernel_rfl, by kernel_rfl⟩
theorem k_w_eqWordS : Has Try.prog ids.w_eqWordS (L_w_eqWordS ids) := ⟨by kernel_rfl, by kernel_rfl⟩
theorem k_w_heldWordS : Has Try.prog ids.w_heldWordS (L_w_heldWordS ids) := ⟨by kernel_rfl, by kernel_rfl⟩
theorem k_w_markDesk : Has Try.prog ids.w_markDesk (L_w_markDesk ids) := ⟨by kernel_rfl, by kernel_rfl⟩
theorem k_w_markIntS : Has Try.prog ids.w_markIntS (L_w_markIntS ids) := ⟨by kernel_rfl, by kernel_rfl⟩
theorem k_w_markLog : Has Try.prog ids.w_markLog (L_w_markLog ids) := ⟨by kernel_rfl, by kernel_rfl⟩
theorem k_w_markRecS : Has Try.prog ids.w_markRecS (L_w_markRecS ids) := ⟨by kernel_rfl, by kernel_rfl⟩
theorem k_w_markWordS : Has Try.prog ids.w_markWordS (L_w_markWordS ids) := ⟨by kernel_rfl, by kernel_rfl⟩
theorem k_w_szDesk : Has Try.prog ids.w_szDesk (L_w_szDesk ids) := ⟨by kernel_rfl, by kernel_rfl⟩
theorem k_w_szIntS : Has Try.prog ids.w_szIntS (L_w_szIntS ids) := ⟨by kernel_rfl, by kernel_rfl⟩
theorem k_w_szLog : Has Try.prog ids.w_szLog (L_w_szLog ids) := ⟨by kernel_rfl, by kernel_rfl⟩
theorem k_w_szRec : Has Try.prog ids.w_szRec (L_w_szRec ids) := ⟨by kernel_rfl, by kernel_rfl⟩
theorem k_w_szRecS : Has Try.prog ids.w_szRecS (L_w_szRecS ids) := ⟨by kernel_rfl, by kernel_rfl⟩
theorem k_w_szWordS : Has Try.prog ids.w_szWordS (L_w_szWordS ids) := ⟨by kernel_rfl, by kernel_rfl⟩
theorem k_w_toDesk : Has Try.prog ids.w_toDesk (L_w_toDesk ids) := ⟨by kernel_rfl, by kernel_rfl⟩
theorem k_w_toIntS : Has Try.prog ids.w_toIntS (L_w_toIntS ids) := ⟨by kernel_rfl, by kernel_rfl⟩
theorem k_w_toLog : Has Try.prog ids.w_toLog (L_w_toLog ids) := ⟨by kernel_rfl, by kernel_rfl⟩
theorem k_w_toRec : Has Try.prog ids.w_toRec (L_w_toRec ids) := ⟨by kernel_rfl, by kernel_rfl⟩
theorem k_w_toRecS : Has Try.prog ids.w_toRecS (L_w_toRecS ids) := ⟨by kernel_rfl, by kernel_rfl⟩
theorem k_w_toWord : Has Try.prog ids.w_toWord (L_w_toWord ids) := ⟨by kernel_rfl, by kernel_rfl⟩
theorem k_w_toWordS : Has Try.prog ids.w_toWordS (L_w_toWordS ids) := ⟨by kernel_rfl, by kernel_rfl⟩
theorem codes : Codes Try.prog ids := { mixed := by kernel_rfl, g_Clone_int := k_g_Clone_int, g_ContainsFunc_Rec := k_g_ContainsFunc_Rec, g_ContainsFunc_Trip := k_g_ContainsFunc_Trip, g_ContainsFunc_int := k_g_ContainsFunc_int, g_Contains_Word := k_g_Contains_Word, g_IndexFunc_Rec := k_g_IndexFunc_Rec, g_IndexFunc_Trip := k_g_IndexFunc_Trip, g_IndexFunc_int := k_g_IndexFunc_int, g_Index_Word := k_g_Index_Word, i_DeskOk := k_i_DeskOk, i_DeskWords := k_i_DeskWords, i_Desk_told := k_i_Desk_told, i_Desk_trips := k_i_Desk_trips, i_Desk_words := k_i_Desk_words, i_LogOk := k_i_LogOk, i_LogOk_1 := k_i_LogOk_1, i_Log_known := k_i_Log_known, i_RecOk := k_i_RecOk, i_TripsDo := k_i_TripsDo, i_TripsMay := k_i_TripsMay, i_TripsOf := k_i_TripsOf, i_TripsOk := k_i_TripsOk, i_TripsOk_1 := k_i_TripsOk_1, i_WordOk := k_i_WordOk, i_Word_answer := k_i_Word_answer, i_in := k_i_in, i_isHouse := k_i_isHouse, i_isTrip := k_i_isTrip, i_stateOf := k_i_stateOf, i_wantedOk := k_i_wantedOk, i_wantedOk_1 := k_i_wantedOk_1, i_wantedOk_2 := k_i_wantedOk_2, s_DeskOk := k_s_DeskOk, s_DeskWords := k_s_DeskWords, s_LogOk := k_s_LogOk, s_RecOk := k_s_RecOk, s_WordOk := k_s_WordOk, s_l12Do := k_s_l12Do, s_l12May := k_s_l12May, s_l12Of := k_s_l12Of, s_l13Told := k_s_l13Told, s_l13Trips := k_s_l13Trips, s_l13Words := k_s_l13Words, s_l1Many := k_s_l1Many, s_l6In := k_s_l6In, w_FnExactDeskWords := k_w_FnExactDeskWords, w_eqDesk := k_w_eqDesk, w_eqIntS := k_w_eqIntS, w_eqLog := k_w_eqLog, w_eqRec := k_w_eqRec, w_eqRecS := k_w_eqRecS, w_eqWord := k_w_eqWord, w_eqWordS := k_w_eqWordS, w_heldWordS := k_w_heldWordS, w_markDesk := k_w_markDesk, w_markIntS := k_w_markIntS, w_markLog := k_w_markLog, w_markRecS := k_w_markRecS, w_markWordS := k_w_markWordS, w_szDesk := k_w_szDesk, w_szIntS := k_w_szIntS, w_szLog := k_w_szLog, w_szRec := k_w_szRec, w_szRecS := k_w_szRecS, w_szWordS := k_w_szWordS, w_toDesk := k_w_toDesk, w_toIntS := k_w_toIntS, w_toLog := k_w_toLog, w_toRec := k_w_toRec, w_toRecS := k_w_toRecS, w_toWord := k_w_toWord, w_toWordS := k_w_toWordS }
end Go.Proofs.Ytncphlcbbffecaa.fnExactDeskWords
