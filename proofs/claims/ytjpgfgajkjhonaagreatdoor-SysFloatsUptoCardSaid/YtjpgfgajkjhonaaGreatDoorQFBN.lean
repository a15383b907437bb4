/- SysFloats: the row, second form. Conditions: the row's own (the listed tables hold what the program's text lays; what is read is of bulk at most 1048576). -/
import Derived.Test.YtjpgfgajkjhonaaGreatDoorQFBL
import Derived.Test.YtjpgfgajkjhonaaGreatDoorQFBM
namespace Go.Proofs.YtjpgfgajkjhonaaGreatDoor
open Go.Vx
set_option maxRecDepth 100000
open Go.ChangeShapes Go.WideShapes Go.ChangeAt Go.RowKit
theorem rY:Rows.SysFloatsUptoSaid:=
 OpenClaim.holds_of_cond 3 Tryz.f3 rfl rfl rfl rfl rfl rfl rfl ⟨rfl,rfl,rfl,rfl,rfl⟩ rfl rfl rfl rfl rfl (by kernel_rfl) Tryz.func3 Kl
  (of_decide_eq_true (by kernel_rfl)) (by unfold Func.isWrapper;first | (rw [if_pos (by decide +kernel)];kernel_rfl) | (rw [if_neg (by decide +kernel)];exact ⟨rfl,rfl⟩))
  (λos started H enc _ F=>by rw [OpenClaim.pre_eq_preRow];exact pg os started H enc F)
theorem qb (f:FuncId) (fn:Func) (hf:Tryz.pinned.checked.prog.funcNamed "lazaretto/lazarettolaw18.SysFloats" = some f) (hfn:Tryz.pinned.checked.prog.funcs[f]? = some fn) :
  true=Tryz.pinned.checked.prog.looks []∧∀(j:Nat) t,fn.params[j]? = some t→Tryz.pinned.checked.prog.wantsStandIn t=false:=by
 obtain rfl:f=3:=ak ((show Tryz.prog.funcNamed "lazaretto/lazarettolaw18.SysFloats" = some 3 by kernel_rfl).symm.trans hf) |>.symm
 obtain rfl:fn=Tryz.f3:=(ak (Tryz.func3.symm.trans hfn)).symm;refine ⟨by kernel_rfl,λj t ht=>?_⟩;rw [Tryz.params3] at ht;have:=gi ht;obtain rfl | rfl | rfl | rfl:t=22∨t=23∨t=25∨t=5:=by simpa using this
 ·exact (show Tryz.prog.wantsStandIn 22=false by kernel_rfl)
 ·exact (show Tryz.prog.wantsStandIn 23=false by kernel_rfl)
 ·exact (show Tryz.prog.wantsStandIn 25=false by kernel_rfl)
 ·exact (show Tryz.prog.wantsStandIn 5=false by kernel_rfl)
theorem sysFloats_card:Rows.SysFloatsUptoCardSaid:=
 Claim7.holds_tied_plain_at .later [] _ _ _ _ rY (λ_ h=>by cases h) (by kernel_rfl) (λ_ h=>by cases h) sysFloatsUpto_row_tie rfl ⟨rfl,rfl⟩ (by kernel_rfl) rfl qb (by kernel_rfl)
end Go.Proofs.YtjpgfgajkjhonaaGreatDoor
