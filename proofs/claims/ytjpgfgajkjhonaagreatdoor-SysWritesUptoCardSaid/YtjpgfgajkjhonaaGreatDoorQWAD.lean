/- SysWrites: what is read of the arguments, and the row by its contract. Conditions: none. -/
import Derived.Test.YtjpgfgajkjhonaaGreatDoorQWAC
namespace Go.Proofs.YtjpgfgajkjhonaaGreatDoor
open Go.Vx
set_option maxRecDepth 100000
open Go.ChangeShapes Go.WideShapes Go.ChangeAt Go.RowKit
abbrev sysWritesArgs:Array Value:= #[.slice none 0 0,.slice none 0 0,.agg #[.int .u8 0,.int .u8 0,.int .u8 0,.int .u8 0,.int .u8 0,.int .u8 0],.int .u8 0]
theorem sysWrites_reads(os:Os){H:Type}(enc:TypeId×Value->H):∃places,DataW.whole enc Tryz.prog ((yg os).forCall (λ_ _=>0) ⟨#[],sysWritesArgs,[]⟩).memory Tryz.f8.params.toList Rows.sysWritesSpec.vars false sysWritesArgs.toList 8=some ([.nil,.nil,.agg [.lit (.int .u8 0),.lit (.int .u8 0),.lit (.int .u8 0),.lit (.int .u8 0),.lit (.int .u8 0),.lit (.int .u8 0)],.lit (.int .u8 0)],[],places):=
 ⟨[],by kernel_rfl⟩
set_option maxRecDepth 100000 in
theorem sysWrites_lifted(os:Os)(started:os.Started)(H:Type)(enc:TypeId×Value->H)(F:Stop.Interp) :
  ReturnsInHanded {} Tryz.checked os 8 .any ((Rows.OpenSpec.upto Rows.sysWritesSpec).preRow enc Tryz.prog Tryz.f8 Rows.sysWritesUptoRow.domain false Rows.sysWritesUptoRow.laid) (((Rows.OpenSpec.upto Rows.sysWritesSpec).at F).post enc Tryz.prog Tryz.f8 false true false false):=by
 obtain⟨places,hx⟩:=sysWrites_reads os enc;refine returnsInHanded_of_row (C:=Tryz.checked) (s:=Rows.OpenSpec.upto Rows.sysWritesSpec) VZ started (by kernel_rfl) Tryz.func8
  (witness_row_atRef (enc:=enc) (C:=Tryz.checked) false (yg os) sysWritesArgs (HP os) (by kernel_rfl) (As os _) (by kernel_rfl)
   (OpenSpec.preRow_of_cond 8 hx (by kernel_rfl) (λk hk=>by cases hk;rfl) (by kernel_rfl) (ER os _))) ?_
 intro W base args ds gs before hval hW _ hk _ hL _ _;exact sysWrites_contract H enc W base args ds gs before hval hW (hk Rows.uptoSmall rfl) hL
end Go.Proofs.YtjpgfgajkjhonaaGreatDoor
