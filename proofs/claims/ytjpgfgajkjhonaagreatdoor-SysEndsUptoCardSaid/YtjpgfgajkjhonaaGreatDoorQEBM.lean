/- SysEnds: the row, second form. Conditions: the row's own (the listed tables hold what the program's text lays; what is read is of bulk at most 1048576). -/
import Derived.Test.YtjpgfgajkjhonaaGreatDoorQEBK
import Derived.Test.YtjpgfgajkjhonaaGreatDoorQEBL
namespace Go.Proofs.YtjpgfgajkjhonaaGreatDoor
open Go.Vx
set_option maxRecDepth 100000
open Go.ChangeShapes Go.WideShapes Go.ChangeAt Go.RowKit
theorem uj:Rows.SysEndsUptoSaid:=
 OpenClaim.holds_of_cond 4 Tryz.f4 rfl rfl rfl rfl rfl rfl rfl ⟨rfl,rfl,rfl,rfl,rfl⟩ rfl rfl rfl rfl rfl (by kernel_rfl) Tryz.func4 KF
  (of_decide_eq_true (by kernel_rfl)) (by unfold Func.isWrapper;first | (rw [if_pos (by decide +kernel)];kernel_rfl) | (rw [if_neg (by decide +kernel)];exact ⟨rfl,rfl⟩))
  (λos started H enc _ F=>by rw [OpenClaim.pre_eq_preRow];exact rD os started H enc F)
theorem tJ (f:FuncId) (fn:Func) (hf:Tryz.pinned.checked.prog.funcNamed "lazaretto/lazarettolaw18.SysEnds" = some f) (hfn:Tryz.pinned.checked.prog.funcs[f]? = some fn) :
  true=Tryz.pinned.checked.prog.looks []∧∀(j:Nat) t,fn.params[j]? = some t→Tryz.pinned.checked.prog.wantsStandIn t=false:=by
 obtain rfl:f=4:=aj ((show Tryz.prog.funcNamed "lazaretto/lazarettolaw18.SysEnds" = some 4 by kernel_rfl).symm.trans hf) |>.symm
 obtain rfl:fn=Tryz.f4:=(aj (Tryz.func4.symm.trans hfn)).symm;refine ⟨by kernel_rfl,λj t ht=>?_⟩;rw [Tryz.params4] at ht;have:=gW ht;obtain rfl | rfl | rfl | rfl:t=22∨t=23∨t=25∨t=5:=by simpa using this
 ·exact (show Tryz.prog.wantsStandIn 22=false by kernel_rfl)
 ·exact (show Tryz.prog.wantsStandIn 23=false by kernel_rfl)
 ·exact (show Tryz.prog.wantsStandIn 25=false by kernel_rfl)
 ·exact (show Tryz.prog.wantsStandIn 5=false by kernel_rfl)
theorem sysEnds_card:Rows.SysEndsUptoCardSaid:=
 Claim7.holds_tied_plain_at .later [] _ _ _ _ uj (λ_ h=>by cases h) (by kernel_rfl) (λ_ h=>by cases h) sysEndsUpto_row_tie rfl ⟨rfl,rfl⟩ (by kernel_rfl) rfl tJ (by kernel_rfl)
end Go.Proofs.YtjpgfgajkjhonaaGreatDoor
