/- SysEnds: what is read of the arguments, and the row by its contract. Conditions: none. -/
import Derived.Test.YtjpgfgajkjhonaaGreatDoorQEBJ
namespace Go.Proofs.YtjpgfgajkjhonaaGreatDoor
open Go.Vx
set_option maxRecDepth 100000
open Go.ChangeShapes Go.WideShapes Go.ChangeAt Go.RowKit
abbrev ly:Array Value:= #[.slice none 0 0,.slice none 0 0,.agg #[.int .u8 0,.int .u8 0,.int .u8 0,.int .u8 0,.int .u8 0,.int .u8 0],.int .u8 0]
theorem tI (os:Os) {H:Type} (enc:TypeId×Value→H):∃places,DataW.whole enc Tryz.prog ((xV os).forCall (λ_ _=>0) ⟨#[],ly,[]⟩).memory Tryz.f4.params.toList Rows.sysEndsSpec.vars false ly.toList 8=some ([.nil,.nil,.agg [.lit (.int .u8 0),.lit (.int .u8 0),.lit (.int .u8 0),.lit (.int .u8 0),.lit (.int .u8 0),.lit (.int .u8 0)],.lit (.int .u8 0)],[],places):=
 ⟨[],by kernel_rfl⟩
set_option maxRecDepth 100000 in
theorem rD (os:Os) (started:os.Started) (H:Type) (enc:TypeId×Value→H) (F:Stop.Interp) :
  ReturnsInHanded {} Tryz.checked os 4 .any ((Rows.OpenSpec.upto Rows.sysEndsSpec).preRow enc Tryz.prog Tryz.f4 Rows.sysEndsUptoRow.domain false Rows.sysEndsUptoRow.laid) (((Rows.OpenSpec.upto Rows.sysEndsSpec).at F).post enc Tryz.prog Tryz.f4 false true false false):=by
 obtain ⟨places,hx⟩:=tI os enc;refine returnsInHanded_of_row (C:=Tryz.checked) (s:=Rows.OpenSpec.upto Rows.sysEndsSpec) S3 started (by kernel_rfl) Tryz.func4
  (witness_row_atRef (enc:=enc) (C:=Tryz.checked) false (xV os) ly (FQ os) (by kernel_rfl) (zT os _) (by kernel_rfl)
   (OpenSpec.preRow_of_cond 8 hx (by kernel_rfl) (λk hk=>by cases hk;rfl) (by kernel_rfl) (Ci os _))) ?_
 intro W base args ds gs before hval hW _ hk _ hL _ _;exact pN H enc W base args ds gs before hval hW (hk Rows.uptoSmall rfl) hL
end Go.Proofs.YtjpgfgajkjhonaaGreatDoor
