/- The numbers of the functions in this program, and that each is read as its code. No condition. -/
import Derived.Test.YtncphlcbbffecaaLExactWorldNewC
import Derived.Test.YtncphlcbbffecaaChecked
import Derived.KernelRfl
namespace Go.Proofs.Ytncphlcbbffecaa.fnExactWorldNew
open Go.AX
def ids : Ids := { i_DeskNew := 79, i_HouseNew := 80, i_WorldNew := 21, i_in := 107, i_isHouse := 150, s_DeskNew := 77, s_HouseNew := 78, s_StockNew := 149, s_WorldNew := 19, s_l6In := 99, w_FnExactWorldNew := 3, w_eqDesk := 44, w_eqHouse := 151, w_eqHouseS := 81, w_eqIntS := 23, w_eqLog := 120, w_eqRec := 196, w_eqRecS := 172, w_eqWord := 127, w_eqWordS := 52, w_eqWorld := 22, w_heldDesk := 57, w_heldHouseS := 83, w_heldIntS := 124, w_heldLog := 130, w_heldRecS := 153, w_heldWordS := 54, w_heldWorld := 26, w_markDesk := 47, w_markHouseS := 82, w_markIntS := 24, w_markLog := 123, w_markRecS := 152, w_markWordS := 53, w_markWorld := 25, w_toIntS := 20 }
theorem k_i_DeskNew : Has Try.prog ids.i_DeskNew (L_i_DeskNew ids) := ⟨by kernel_rfl, by kernel_rfl⟩
theorem k_i_HouseNew : Has Try.prog ids.i_HouseNew (L_i_HouseNew ids) := ⟨by kernel_rfl, by kernel_rfl⟩
theorem k_i_WorldNew : Has Try.prog ids.i_WorldNew (L_i_WorldNew ids) := ⟨by kernel_rfl, by kernel_rfl⟩
theorem k_i_in : Has Try.prog ids.i_in (L_i_in ids) := ⟨by kernel_rfl, by kernel_rfl⟩
theorem k_i_isHouse : Has Try.prog ids.i_isHouse (L_i_isHouse ids) := ⟨by kernel_rfl, by kernel_rfl⟩
theorem k_s_DeskNew : Has Try.prog ids.s_DeskNew (L_s_DeskNew ids) := ⟨by kernel_rfl, by kernel_rfl⟩
theorem k_s_HouseNew : Has Try.prog ids.s_HouseNew (L_s_HouseNew ids) := ⟨by kernel_rfl, by kernel_rfl⟩
theorem k_s_StockNew : Has Try.prog ids.s_StockNew (L_s_StockNew ids) := ⟨by kernel_rfl, by kernel_rfl⟩
theorem k_s_WorldNew : Has Try.prog ids.s_WorldNew (L_s_WorldNew ids) := ⟨by kernel_rfl, by kernel_rfl⟩
theorem k_s_l6In : Has Try.prog ids.s_l6In (L_s_l6In ids) := ⟨by kernel_rfl, by kernel_rfl⟩
theorem k_w_FnExactWorldNew : Has Try.prog ids.w_FnExactWorldNew (L_w_FnExactWorldNew ids) := ⟨by kernel_rfl, by kernel_rfl⟩
theorem k_w_eqDesk : Has Try.prog ids.w_eqDesk (L_w_eqDesk ids) := ⟨by kernel_rfl, by kernel_rfl⟩
theorem k_w_eqHouse : Has Try.prog ids.w_eqHouse (L_w_eqHouse ids) := ⟨by kernel_rfl, by kernel_rfl⟩
theorem k_w_eqHouseS : Has Try.prog ids.w_eqHouseS (L_w_eqHouseS ids) := ⟨by kernel_rfl, by kernel_rfl⟩
theorem k_w_eqIntS : Has Try.prog ids.w_eqIntS (L_w_eqIntS ids) := ⟨by kernel_rfl, by kernel_rfl⟩
theorem k_w_eqLog : Has Try.prog ids.w_eqLog (L_w_eqLog ids) := ⟨by kernel_rfl, by kernel_rfl⟩
theorem k_w_eqRec : Has Try.prog ids.w_eqRec (L_w_eqRec ids) := ⟨by kernel_rfl, by kernel_rfl⟩
theorem k_w_eqRecS : Has Try.prog ids.w_eqRecS (L_w_eqRecS ids) := ⟨by kernel_rfl, by kernel_rfl⟩
theorem k_w_eqWord : Has Try.prog ids.w_eqWord (L_w_eqWord ids) := ⟨by kernel_rfl, by kernel_rfl⟩
theorem k_w_eqWordS : Has Try.prog ids.w_eqWordS (L_w_eqWordS ids) := ⟨by kernel_rfl, by kernel_rfl⟩
theorem k_w_eqWorld : Has Try.prog ids.w_eqWorld (L_w_eqWorld ids) := ⟨by kernel_rfl, by kernel_rfl⟩
theorem k_w_heldDesk : Has Try.prog ids.w_heldDesk (L_w_heldDesk ids) := ⟨by kernel_rfl, by kernel_rfl⟩
theorem k_w_heldHouseS : Has Try.prog ids.w_heldHouseS (L_w_heldHouseS ids) := ⟨by kernel_rfl, by kernel_rfl⟩
theorem k_w_heldIntS : Has Try.prog ids.w_heldIntS (L_w_heldIntS ids) := ⟨by kernel_rfl, by kernel_rfl⟩
theorem k_w_heldLog : Has Try.prog ids.w_heldLog (L_w_heldLog ids) := ⟨by kernel_rfl, by kernel_rfl⟩
theorem k_w_heldRecS : Has Try.prog ids.w_heldRecS (L_w_heldRecS ids) := ⟨by kernel_rfl, by kernel_rfl⟩
theorem k_w_heldWordS : Has Try.prog ids.w_heldWordS (L_w_heldWordS ids) := ⟨by kernel_rfl, by kernel_rfl⟩
theorem k_w_heldWorld : Has Try.prog ids.w_heldWorld (L_w_heldWorld ids) := ⟨by kernel_rfl, by kernel_rfl⟩
theorem k_w_markDesk : Has Try.prog ids.w_markDesk (L_w_markDesk ids) := ⟨by kernel_rfl, by kernel_rfl⟩
theorem k_w_markHouseS : Has Try.prog ids.w_markHouseS (L_w_markHouseS ids) := ⟨by kernel_rfl, by kernel_rfl⟩
theorem k_w_markIntS : Has Try.prog ids.w_markIntS (L_w_markIntS ids) := ⟨by kernel_rfl, by kernel_rfl⟩
theorem k_w_markLog : Has Try.prog ids.w_markLog (L_w_markLog ids) := ⟨by kernel_rfl, by kernel_rfl⟩
theorem k_w_markRecS : Has Try.prog ids.w_markRecS (L_w_markRecS ids) := ⟨by kernel_rfl, by kernel_rfl⟩
theorem k_w_markWordS : Has Try.prog ids.w_markWordS (L_w_markWordS ids) := ⟨by kernel_rfl, by kernel_rfl⟩
theorem k_w_markWorld : Has Try.prog ids.w_markWorld (L_w_markWorld ids) := ⟨by kernel_rfl, by kernel_rfl⟩
theorem k_w_toIntS : Has Try.prog ids.w_toIntS (L_w_toIntS ids) := ⟨by kernel_rfl, by kernel_rfl⟩
theorem codes : Codes Try.prog ids := { mixed := by kernel_rfl, i_DeskNew := k_i_DeskNew, i_HouseNew := k_i_HouseNew, i_WorldNew := k_i_WorldNew, i_in := k_i_in, i_isHouse := k_i_isHouse, s_DeskNew := k_s_DeskNew, s_HouseNew := k_s_HouseNew, s_StockNew := k_s_StockNew, s_WorldNew := k_s_WorldNew, s_l6In := k_s_l6In, w_FnExactWorldNew := k_w_FnExactWorldNew, w_eqDesk := k_w_eqDesk, w_eqHouse := k_w_eqHouse, w_eqHouseS := k_w_eqHouseS, w_eqIntS := k_w_eqIntS, w_eqLog := k_w_eqLog, w_eqRec := k_w_eqRec, w_eqRecS := k_w_eqRecS, w_eqWord := k_w_eqWord, w_eqWordS := k_w_eqWordS, w_eqWorld := k_w_eqWorld, w_heldDesk := k_w_heldDesk, w_heldHouseS := k_w_heldHouseS, w_heldIntS := k_w_heldIntS, w_heldLog := k_w_heldLog, w_heldRecS := k_w_heldRecS, w_heldWordS := k_w_heldWordS, w_heldWorld := k_w_heldWorld, w_markDesk := k_w_markDesk, w_markHouseS := k_w_markHouseS, w_markIntS := k_w_markIntS, w_markLog := k_w_markLog, w_markRecS := k_w_markRecS, w_markWordS := k_w_markWordS, w_markWorld := k_w_markWorld, w_toIntS := k_w_toIntS }
end Go.Proofs.Ytncphlcbbffecaa.fnExactWorldNew
