/- SysWrites: the row, second form. Conditions: the row's own (the listed tables hold what the program's text lays; what is read is of bulk at most 1048576). -/
import Derived.Test.YtjpgfgajkjhonaaGreatDoorQWAD
import Derived.Test.YtjpgfgajkjhonaaGreatDoorQWAE
namespace Go.Proofs.YtjpgfgajkjhonaaGreatDoor
open Go.Vx
set_option maxRecDepth 100000
open Go.ChangeShapes Go.WideShapes Go.ChangeAt Go.RowKit
theorem sysWrites_said:Rows.SysWritesUptoSaid:=
 OpenClaim.holds_of_cond 8 Tryz.f8 rfl rfl rfl rfl rfl rfl rfl ⟨rfl,rfl,rfl,rfl,rfl⟩ rfl rfl rfl rfl rfl (by kernel_rfl) Tryz.func8 Mg
  (of_decide_eq_true (by kernel_rfl)) (by unfold Func.isWrapper;first|(rw[if_pos (by decide +kernel)];kernel_rfl)|(rw[if_neg (by decide +kernel)];exact⟨rfl,rfl⟩))
  (λos started H enc _ F=>by rw[OpenClaim.pre_eq_preRow];exact sysWrites_lifted os started H enc F)
theorem sysWrites_plain(f:FuncId)(fn:Func)(hf:Tryz.pinned.checked.prog.funcNamed "lazaretto/lazarettolaw18.SysWrites" = some f) (hfn:Tryz.pinned.checked.prog.funcs[f]?=some fn) :
  true=Tryz.pinned.checked.prog.looks []/\∀(j:Nat) t,fn.params[j]?=some t->Tryz.pinned.checked.prog.wantsStandIn t=false:=by
 obtain rfl:f=8:=Option.some.inj ((show Tryz.prog.funcNamed "lazaretto/lazarettolaw18.SysWrites" = some 8 by kernel_rfl).symm.trans hf) |>.symm
 obtain rfl:fn=Tryz.f8:=(Option.some.inj (Tryz.func8.symm.trans hfn)).symm;refine⟨by kernel_rfl,λj t ht=>?_⟩;rw[Tryz.params8]at ht;have:=Array.mem_of_getElem? ht;obtain rfl|rfl|rfl|rfl:t=22\/t=23\/t=25\/t=5:=by simpa using this
 .exact(show Tryz.prog.wantsStandIn 22=false by kernel_rfl)
 .exact(show Tryz.prog.wantsStandIn 23=false by kernel_rfl)
 .exact(show Tryz.prog.wantsStandIn 25=false by kernel_rfl)
 .exact(show Tryz.prog.wantsStandIn 5=false by kernel_rfl)
theorem sysWrites_card:Rows.SysWritesUptoCardSaid:=
 Claim7.holds_tied_plain_at .later [] _ _ _ _ sysWrites_said (λ_ h=>by cases h) (by kernel_rfl) (λ_ h=>by cases h) sysWritesUpto_row_tie rfl ⟨rfl,rfl⟩ (by kernel_rfl) rfl sysWrites_plain (by kernel_rfl)
end Go.Proofs.YtjpgfgajkjhonaaGreatDoor
