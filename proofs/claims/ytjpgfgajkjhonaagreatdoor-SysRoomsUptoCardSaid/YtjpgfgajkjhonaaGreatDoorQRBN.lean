/- SysRooms: the row, second form. Conditions: the row's own (the listed tables hold what the program's text lays; what is read is of bulk at most 1048576). -/
import Derived.Test.YtjpgfgajkjhonaaGreatDoorQRBL
import Derived.Test.YtjpgfgajkjhonaaGreatDoorQRBM
namespace Go.Proofs.YtjpgfgajkjhonaaGreatDoor
open Go.Vx
set_option maxRecDepth 100000
open Go.ChangeShapes Go.WideShapes Go.ChangeAt Go.RowKit
theorem ue:Rows.SysRoomsUptoSaid:=
 OpenClaim.holds_of_cond 7 Tryz.f7 rfl rfl rfl rfl rfl rfl rfl ⟨rfl,rfl,rfl,rfl,rfl⟩ rfl rfl rfl rfl rfl zx0 Tryz.func7 Mg
  (θ zx0) (by unfold Func.isWrapper;first | (rw [ζ (by decide +kernel)];kernel_rfl) | (rw [η (by decide +kernel)];exact ⟨rfl,rfl⟩))
  (λos started H enc _ F=>by rw [OpenClaim.pre_eq_preRow];exact rN os started H enc F)
theorem sW (f:FuncId) (fn:Func) (hf:Tryz.pinned.checked.prog.funcNamed "lazaretto/lazarettolaw18.SysRooms" = some f) (hfn:Tryz.pinned.checked.prog.funcs[f]? = some fn) :
  true=Tryz.pinned.checked.prog.looks []∧∀(j:Nat) t,fn.params[j]? = some t→Tryz.pinned.checked.prog.wantsStandIn t=false:=by
 obtain rfl:f=7:=aq ((show Tryz.prog.funcNamed "lazaretto/lazarettolaw18.SysRooms" = some 7 by kernel_rfl).symm.trans hf) |>.symm
 obtain rfl:fn=Tryz.f7:=(aq (Tryz.func7.symm.trans hfn)).symm;refine ⟨by kernel_rfl,λj t ht=>?_⟩;rw [Tryz.params7] at ht;have:=Array.mem_of_getElem? ht;obtain rfl | rfl | rfl | rfl:t=22∨t=23∨t=25∨t=5:=by simpa using this
 ·exact (show Tryz.prog.wantsStandIn 22=false by kernel_rfl)
 ·exact (show Tryz.prog.wantsStandIn 23=false by kernel_rfl)
 ·exact (show Tryz.prog.wantsStandIn 25=false by kernel_rfl)
 ·exact (show Tryz.prog.wantsStandIn 5=false by kernel_rfl)
theorem sysRooms_card:Rows.SysRoomsUptoCardSaid:=
 Claim7.holds_tied_plain_at .later [] _ _ _ _ ue (λ_ h=>by cases h) zx0 (λ_ h=>by cases h) sysRoomsUpto_row_tie rfl ⟨rfl,rfl⟩ zx0 rfl sW zx0
end Go.Proofs.YtjpgfgajkjhonaaGreatDoor