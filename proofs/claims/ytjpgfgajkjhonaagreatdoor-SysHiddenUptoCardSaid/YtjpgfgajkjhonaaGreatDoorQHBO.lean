/- SysHidden: the row, second form. Conditions: the row's own (the listed tables hold what the program's text lays; what is read is of bulk at most 1048576). -/
import Derived.Test.YtjpgfgajkjhonaaGreatDoorQHBM
import Derived.Test.YtjpgfgajkjhonaaGreatDoorQHBN
namespace Go.Proofs.YtjpgfgajkjhonaaGreatDoor
open Go.Vx
set_option maxRecDepth 100000
open Go.ChangeShapes Go.WideShapes Go.ChangeAt Go.RowKit
theorem sq:Rows.SysHiddenUptoSaid:=
 OpenClaim.holds_of_cond 6 Tryz.f6 rfl rfl rfl rfl rfl rfl rfl ⟨rfl,rfl,rfl,rfl,rfl⟩ rfl rfl rfl rfl rfl zx0 Tryz.func6 Md
  (θ zx0) (by unfold Func.isWrapper;first | (rw [ζ (by decide +kernel)];kernel_rfl) | (rw [η (by decide +kernel)];exact ⟨rfl,rfl⟩))
  (λos started H enc _ F=>by rw [OpenClaim.pre_eq_preRow];exact qb os started H enc F)
theorem re (f:FuncId) (fn:Func) (hf:Tryz.pinned.checked.prog.funcNamed "lazaretto/lazarettolaw18.SysHidden" = some f) (hfn:Tryz.pinned.checked.prog.funcs[f]? = some fn) :
  true=Tryz.pinned.checked.prog.looks []∧∀(j:Nat) t,fn.params[j]? = some t→Tryz.pinned.checked.prog.wantsStandIn t=false:=by
 obtain rfl:f=6:=an ((show Tryz.prog.funcNamed "lazaretto/lazarettolaw18.SysHidden" = some 6 by kernel_rfl).symm.trans hf) |>.symm
 obtain rfl:fn=Tryz.f6:=(an (Tryz.func6.symm.trans hfn)).symm;refine ⟨by kernel_rfl,λj t ht=>?_⟩;rw [Tryz.params6] at ht;have:=hZ ht;obtain rfl | rfl | rfl | rfl:t=22∨t=23∨t=25∨t=5:=by simpa using this
 ·exact (show Tryz.prog.wantsStandIn 22=false by kernel_rfl)
 ·exact (show Tryz.prog.wantsStandIn 23=false by kernel_rfl)
 ·exact (show Tryz.prog.wantsStandIn 25=false by kernel_rfl)
 ·exact (show Tryz.prog.wantsStandIn 5=false by kernel_rfl)
theorem sysHidden_card:Rows.SysHiddenUptoCardSaid:=
 Claim7.holds_tied_plain_at .later [] _ _ _ _ sq (λ_ h=>by cases h) zx0 (λ_ h=>by cases h) sysHiddenUpto_row_tie rfl ⟨rfl,rfl⟩ zx0 rfl re zx0
end Go.Proofs.YtjpgfgajkjhonaaGreatDoor