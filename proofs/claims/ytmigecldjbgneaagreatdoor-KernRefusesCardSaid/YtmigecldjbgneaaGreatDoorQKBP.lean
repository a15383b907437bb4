/- KernRefuses: the row, second form. Conditions: the row's own (the listed tables hold what the program's text lays). -/
import Derived.Test.YtmigecldjbgneaaGreatDoorQKBN
import Derived.Test.YtmigecldjbgneaaGreatDoorQKBO
namespace Go.Proofs.YtmigecldjbgneaaGreatDoor
open Go.Vx
set_option maxRecDepth 100000
open Go.ChangeShapes Go.WideShapes Go.ChangeAt Go.RowKit
theorem rN:Rows.KernRefusesSaid:=
 OpenClaim.holds_of_cond 3 Tryz.f3 rfl rfl rfl rfl rfl rfl rfl ⟨rfl,rfl,rfl,rfl,rfl⟩ rfl rfl rfl rfl rfl zx0 Tryz.func3 NZ
  (θ zx0) (by unfold Func.isWrapper;first|(rw[ζ (by decide +kernel)];kernel_rfl)|(rw[η (by decide +kernel)];exact⟨rfl,rfl⟩))
  (λos started H enc _ F=>by rw[OpenClaim.pre_eq_preRow];exact pe os started H enc F)
theorem qX(f:FuncId)(fn:Func)(hf:Tryz.pinned.checked.prog.funcNamed "lazaretto/lazarettolaw19.KernRefuses" = some f) (hfn:Tryz.pinned.checked.prog.funcs[f]?=some fn) :
  true=Tryz.pinned.checked.prog.looks []/\∀(j:Nat) t,fn.params[j]?=some t->Tryz.pinned.checked.prog.wantsStandIn t=false:=by
 obtain rfl:f=3:=af ((show Tryz.prog.funcNamed "lazaretto/lazarettolaw19.KernRefuses" = some 3 by kernel_rfl).symm.trans hf) |>.symm
 obtain rfl:fn=Tryz.f3:=(af (Tryz.func3.symm.trans hfn)).symm;refine⟨by kernel_rfl,λj t ht=>?_⟩;rw[Tryz.params3]at ht;have:=Array.mem_of_getElem? ht;obtain rfl|rfl:t=25\/t=5:=by simpa using this
 .exact(show Tryz.prog.wantsStandIn 25=false by kernel_rfl)
 .exact(show Tryz.prog.wantsStandIn 5=false by kernel_rfl)
theorem kernRefuses_card:Rows.KernRefusesCardSaid:=
 Claim7.holds_tied_plain_at .later [] _ _ _ _ rN (λ_ h=>by cases h) zx0 (λ_ h=>by cases h) kernRefuses_row_tie rfl ⟨rfl,rfl⟩ zx0 rfl qX zx0
end Go.Proofs.YtmigecldjbgneaaGreatDoor