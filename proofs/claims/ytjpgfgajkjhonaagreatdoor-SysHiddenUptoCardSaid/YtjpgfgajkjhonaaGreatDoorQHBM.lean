/- Lemmas. Conditions: none. -/
import Derived.Test.YtjpgfgajkjhonaaGreatDoorQHBL
namespace Go.Proofs.YtjpgfgajkjhonaaGreatDoor
open Go.Vx
set_option maxRecDepth 100000
open Go.ChangeShapes Go.WideShapes Go.ChangeAt Go.RowKit
abbrev kr:Array Value:= #[.slice none 0 0,.slice none 0 0,.agg #[.int .u8 0,.int .u8 0,.int .u8 0,.int .u8 0,.int .u8 0,.int .u8 0],.int .u8 0,.int .u8 0]
theorem rb (os:Os) {H:Type} (enc:TypeId×Value→H):∃places,DataW.whole enc Tryz.prog ((zC os).forCall (λ_ _=>0) ⟨#[],kr,[]⟩).memory Tryz.f6.params.toList Rows.sysHiddenSpec.vars false kr.toList 8=some ([.nil,.nil,.agg [.lit (.int .u8 0),.lit (.int .u8 0),.lit (.int .u8 0),.lit (.int .u8 0),.lit (.int .u8 0),.lit (.int .u8 0)],.lit (.int .u8 0),.lit (.int .u8 0)],[],places):=
 ⟨[],by kernel_rfl⟩
set_option maxRecDepth 100000 in
theorem qb (os:Os) (started:os.Started) (H:Type) (enc:TypeId×Value→H) (F:Stop.Interp) :
  ReturnsInHanded {} Tryz.checked os 6 .any ((Rows.OpenSpec.upto Rows.sysHiddenSpec).preRow enc Tryz.prog Tryz.f6 Rows.sysHiddenUptoRow.domain false Rows.sysHiddenUptoRow.laid) (((Rows.OpenSpec.upto Rows.sysHiddenSpec).at F).post enc Tryz.prog Tryz.f6 false true false false):=by
 obtain ⟨places,hx⟩:=rb os enc;refine returnsInHanded_of_row (C:=Tryz.checked) (s:=Rows.OpenSpec.upto Rows.sysHiddenSpec) VG started zx0 Tryz.func6
  (witness_row_atRef (enc:=enc) (C:=Tryz.checked) false (zC os) kr (Hf os) zx0 (BQ os _) zx0
   (OpenSpec.preRow_of_cond 8 hx zx0 (λk hk=>by cases hk;rfl) zx0 (Ec os _))) ?_
 intro W base args ds gs before hval hW _ hk _ hL _ _;exact oh H enc W base args ds gs before hval hW (hk Rows.uptoSmall rfl) hL
end Go.Proofs.YtjpgfgajkjhonaaGreatDoor