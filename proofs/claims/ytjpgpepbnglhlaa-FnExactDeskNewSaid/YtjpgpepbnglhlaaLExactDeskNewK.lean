/- The numbers of the functions in this program, and that each is read as its code. No condition. -/
import Derived.Test.YtjpgpepbnglhlaaLExactDeskNewC
import Derived.Test.YtjpgpepbnglhlaaChecked
import Derived.KernelRfl
namespace Go.Proofs.Ytjpgpepbnglhlaa.fnExactDeskNew
open Go.AX
def ids : Ids := { i_DeskNew := 26, s_DeskNew := 25, w_FnExactDeskNew := 3, w_eqDesk := 27, w_eqIntS := 76, w_eqLog := 47, w_eqRec := 52, w_eqRecS := 70, w_eqWord := 179, w_eqWordS := 112, w_heldDesk := 29, w_heldIntS := 146, w_heldLog := 49, w_heldRecS := 132, w_heldWordS := 114, w_markDesk := 28, w_markIntS := 77, w_markLog := 48, w_markRecS := 71, w_markWordS := 113 }
theorem k_i_DeskNew : Has Try.prog ids.i_DeskNew (L_i_DeskNew ids) := ⟨by kernel_rfl, by kernel_rfl⟩
theorem k_s_DeskNew : Has Try.prog ids.s_DeskNew (L_s_DeskNew ids) := ⟨by kernel_rfl, by kernel_rfl⟩
theorem k_w_FnExactDeskNew : Has Try.prog ids.w_FnExactDeskNew (L_w_FnExactDeskNew ids) := ⟨by kernel_rfl, by kernel_rfl⟩
theorem k_w_eqDesk : Has Try.prog ids.w_eqDesk (L_w_eqDesk ids) := ⟨by kernel_rfl, by kernel_rfl⟩
theorem k_w_eqIntS : Has Try.prog ids.w_eqIntS (L_w_eqIntS ids) := ⟨by kernel_rfl, by kernel_rfl⟩
theorem k_w_eqLog : Has Try.prog ids.w_eqLog (L_w_eqLog ids) := ⟨by kernel_rfl, by kernel_rfl⟩
theorem k_w_eqRec : Has Try.prog ids.w_eqRec (L_w_eqRec ids) := ⟨by kernel_rfl, by kernel_rfl⟩
theorem k_w_eqRecS : Has Try.prog ids.w_eqRecS (L_w_eqRecS ids) := ⟨by kernel_rfl, by kernel_rfl⟩
theorem k_w_eqWord : Has Try.prog ids.w_eqWord (L_w_eqWord ids) := ⟨by kernel_rfl, by kernel_rfl⟩
theorem k_w_eqWordS : Has Try.prog ids.w_eqWordS (L_w_eqWordS ids) := ⟨by kernel_rfl, by kernel_rfl⟩
theorem k_w_heldDesk : Has Try.prog ids.w_heldDesk (L_w_heldDesk ids) := ⟨by kernel_rfl, by kernel_rfl⟩
theorem k_w_heldIntS : Has Try.prog ids.w_heldIntS (L_w_heldIntS ids) := ⟨by kernel_rfl, by kernel_rfl⟩
theorem k_w_heldLog : Has Try.prog ids.w_heldLog (L_w_heldLog ids) := ⟨by kernel_rfl, by kernel_rfl⟩
theorem k_w_heldRecS : Has Try.prog ids.w_heldRecS (L_w_heldRecS ids) := ⟨by kernel_rfl, by kernel_rfl⟩
theorem k_w_heldWordS : Has Try.prog ids.w_heldWordS (L_w_heldWordS ids) := ⟨by kernel_rfl, by kernel_rfl⟩
theorem k_w_markDesk : Has Try.prog ids.w_markDesk (L_w_markDesk ids) := ⟨by kernel_rfl, by kernel_rfl⟩
theorem k_w_markIntS : Has Try.prog ids.w_markIntS (L_w_markIntS ids) := ⟨by kernel_rfl, by kernel_rfl⟩
theorem k_w_markLog : Has Try.prog ids.w_markLog (L_w_markLog ids) := ⟨by kernel_rfl, by kernel_rfl⟩
theorem k_w_markRecS : Has Try.prog ids.w_markRecS (L_w_markRecS ids) := ⟨by kernel_rfl, by kernel_rfl⟩
theorem k_w_markWordS : Has Try.prog ids.w_markWordS (L_w_markWordS ids) := ⟨by kernel_rfl, by kernel_rfl⟩
theorem codes : Codes Try.prog ids := { mixed := by kernel_rfl, i_DeskNew := k_i_DeskNew, s_DeskNew := k_s_DeskNew, w_FnExactDeskNew := k_w_FnExactDeskNew, w_eqDesk := k_w_eqDesk, w_eqIntS := k_w_eqIntS, w_eqLog := k_w_eqLog, w_eqRec := k_w_eqRec, w_eqRecS := k_w_eqRecS, w_eqWord := k_w_eqWord, w_eqWordS := k_w_eqWordS, w_heldDesk := k_w_heldDesk, w_heldIntS := k_w_heldIntS, w_heldLog := k_w_heldLog, w_heldRecS := k_w_heldRecS, w_heldWordS := k_w_heldWordS, w_markDesk := k_w_markDesk, w_markIntS := k_w_markIntS, w_markLog := k_w_markLog, w_markRecS := k_w_markRecS, w_markWordS := k_w_markWordS }
end Go.Proofs.Ytjpgpepbnglhlaa.fnExactDeskNew
