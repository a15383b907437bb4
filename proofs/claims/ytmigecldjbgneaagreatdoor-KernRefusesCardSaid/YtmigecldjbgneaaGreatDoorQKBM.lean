/- Lemmas. Conditions: none. -/
import Derived.Test.YtmigecldjbgneaaGreatDoorQKBL
namespace Go.Proofs.YtmigecldjbgneaaGreatDoor
open Go.Vx
set_option maxRecDepth 100000
open Go.ChangeShapes Go.WideShapes Go.ChangeAt Go.RowKit
theorem TI:EL Tryz.prog 9 25=some (.pr (.sl (.sl (.int .u8))) (.pr (.sl (.int .u8)) (.pr (.sl (.int .u8)) .un))):=zx0
theorem Q2{N:Nat}{xs:List D}(h:sI N (.int .u8) xs):∃n:Int,(0<=n/\n<=255)/\xs=[D.int .u8 n]:=by
 obtain⟨n,rfl,hn⟩:=Lp h;exact⟨n,⟨by unfold dB at hn;omega,by unfold dB at hn;omega⟩,rfl⟩
theorem qI:∀(rows:List (List D)),(∀row∈rows,∃n:Int,(0<=n/\n<=255)/\row=[D.int .u8 n])->∃l,rows=dE l/\jE l
 |[],_=>⟨[],rfl,λ_ h=>by cases h⟩
 |r::rs,h=>by
  obtain⟨n,hn,rfl⟩:=h r (by simp);obtain⟨l,rfl,hl⟩:=qI rs (λy hy=>h y (by simp[hy]));exact⟨n::l,rfl,λx hx=>by
   rcases ah.1 hx with rfl|hx
   .exact hn
   .exact hl x hx⟩
theorem vp{N:Nat}:∀(rows:List (List D)),(∀row∈rows,sI N (.sl (.int .u8)) row)->∃L:List (List Int),rows=(L.map λl=>[D.sl 1 (dE l)])/\∀l∈L,jE l
 |[],_=>⟨[],rfl,λ_ h=>by cases h⟩
 |r::rs,h=>by
  obtain⟨q,rfl,_,hq⟩:=wv (h r (by simp));obtain⟨l,rfl,hl⟩:=qI q λrow hrow=>Q2 (hq row hrow);obtain⟨L,rfl,hL⟩:=vp rs (λy hy=>h y (by simp[hy]));exact⟨l::L,rfl,λx hx=>by
   rcases ah.1 hx with rfl|hx
   .exact hl
   .exact hL x hx⟩
theorem Q3{N:Nat}{xs:List D}(h:sI N (.pr (.sl (.sl (.int .u8))) (.pr (.sl (.int .u8)) (.pr (.sl (.int .u8)) .un))) xs):∃(L:List (List Int))(bs ts:List Int),xs=[.sl 1 (L.map λl=>[D.sl 1 (dE l)]),.sl 1 (dE bs),.sl 1 (dE ts)]/\(∀l∈L,jE l)/\jE bs/\jE ts:=by
 obtain⟨_,_,rfl,h1,g1⟩:=BA h;obtain⟨q0,rfl,_,k0⟩:=wv h1;obtain⟨_,_,rfl,h2,g2⟩:=BA g1;obtain⟨q1,rfl,_,k1⟩:=wv h2;obtain⟨_,_,rfl,h3,g3⟩:=BA g2;obtain⟨q2,rfl,_,k2⟩:=wv h3;cases Q1 g3;obtain⟨L,rfl,hL⟩:=vp q0 k0;obtain⟨bs,rfl,hb⟩:=qI q1 λrow hrow=>Q2 (k1 row hrow);obtain⟨ts,rfl,ht⟩:=qI q2 λrow hrow=>Q2 (k2 row hrow);exact⟨L,bs,ts,rfl,hL,hb,ht⟩
set_option maxRecDepth 100000 in
theorem oE(H:Type)(enc:TypeId×Value->H)(W:World)(base:Nat)(args:Array Value)(ds gs:List (DataW H))(before:List MemPlace)
  (hval:∀(j:Nat) t v,Tryz.f3.params[j]?=some t->args[j]?=some v->Value.okWide Tryz.prog W .any base t v)
  (hW:DataW.Whole enc Tryz.prog Tryz.f3.params.toList Rows.kernRefusesSpec.vars false W args.toList ds gs before) (hL:laidMetH Tryz.prog Rows.kernRefusesRow.laid W) :
  Calls Tryz.prog 3 args W λe W'=>∃v,e=.returned v/\Rows.kernRefusesSpec.post enc Tryz.prog Tryz.f3 false true false false W args v W':=by
 have hW':=hW;obtain⟨p,q,hA0,hV,rfl,hfz,hnd⟩:=hW;have hA:DataW.TrodAll enc Tryz.prog W 0 (λ_=>true) true Tryz.f3.params.toList args.toList ds p:=hA0;rw[Tryz.params3]at hA hval;obtain⟨v0,vs0,d0,ds0,p0,q0,hargs,rfl,rfl,h0,r0⟩:=trodAll_cons hA;obtain⟨v1,vs1,d1,ds1,p1,q1,rfl,rfl,rfl,h1,r1⟩:=trodAll_cons r0;obtain⟨v2,vs2,d2,ds2,p2,q2,rfl,rfl,rfl,h2,r2⟩:=trodAll_cons r1;obtain⟨rfl,rfl,rfl⟩:=trodAll_nil r2;obtain rfl:args=#[v0,v1,v2]:=by cases args;simp_all
 obtain⟨rfl,rfl⟩:=trodVars_none hV;obtain⟨x0,s0,t0⟩:=MQ (N:=9223372036854775807) TI Tryz.underlying25 (hval 0 25 v0 rfl rfl) h0 (.inl (aL _));obtain⟨L,bs,ts,rfl,iL,ib,it⟩:=Q3 s0;obtain⟨n1,i1,t1⟩:=Cw Tryz.underlying5 (hval 1 5 v1 rfl rfl) h1;obtain⟨n2,i2,t2⟩:=Cw Tryz.underlying5 (hval 2 5 v2 rfl rfl) h2;unfold dB at i1;unfold dB at i2;refine(xz (vR hL) (HT L bs ts n1 n2 iL ib it ⟨i1.1,i1.2⟩ ⟨i2.1,i2.2⟩) rfl ?_).mono λe W' ⟨he,hbl⟩=>?_
 .intro i x hx
  match i,hx with
  |0,hx=>cases hx;exact t0
  |1,hx=>cases hx;exact t1
  |2,hx=>cases hx;exact t2
 .subst he;exact⟨_,rfl,H9 JM (by rw[Tryz.params3];decide +kernel) rfl Tryz.underlying4 rfl hW' rfl rfl rfl hbl⟩
end Go.Proofs.YtmigecldjbgneaaGreatDoor