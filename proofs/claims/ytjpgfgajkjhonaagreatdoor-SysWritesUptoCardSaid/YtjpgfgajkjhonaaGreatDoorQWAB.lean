/- SysWrites. Conditions: as told. -/
import Derived.Test.YtjpgfgajkjhonaaGreatDoorQWAA
namespace Go.Proofs.YtjpgfgajkjhonaaGreatDoor
open Go.Vx
set_option maxRecDepth 100000
theorem lx_k{n0:Nat}{body body':T->H->(Ex->T->H->Prop)->Prop}{t:T}{h:H}{K:Ex->T->H->Prop}(hb:body'=body)(hk:∀K',K'=K->lx n0 body' t h K'):lx n0 body t h K:=hb ▸ hk K rfl
set_option maxHeartbeats 40000000 in
theorem writes8(hex:bK Tryz.prog 9 [] (.d (.bool true)))(q:Nat)(f:List (List Int))(hf:∀l∈f,pE l)(l:List (Int×Ob))(hl:∀p∈l,vQ 255 q p)(hq:q<70000000)(x:FT)(hx:yT x)(st:Int)(hst:0<=st/\st<=255) :
  bK Tryz.prog 8 [.d (.sl 1 (f.map λl=>[D.sl 1 (d_ l)])),.d (.sl 20 (l.map jM)),.ag (p_ x),.d (.int .u8 st)] (.d (.bool true)):=by
 have h10:=λ{K:Out->H->Prop}=>Qi (K:=K) 255 q f hf l hl (by omega) x hx false;have hm:st.tmod 64=st % 64:=Int.tmod_eq_emod_of_nonneg hst.1;refine s8.go (keep:=false) rfl ?_
 repeat' ((conv=>whnf);first|exact zf|refine zm ?_|refine zc hex ?_|refine(h10 (λim s hi hb=>?_))|intro _)
 have hP:=hi.pr;have hz:Tg false x=x:=rfl;rw[hz]
 repeat' ((conv=>whnf);first|exact zf|refine zm ?_|intro _)
 conv=>whnf
 refine lx_k (body':=wx (Sat Tryz.prog) ow 0 b8) (by kernel_rfl) (λK' hK=>?_);refine bM [(3,.d (.int .u8 st)),(9,.d (.bool true)),(10,.p 1 0)] (λp:Nat×Th×b7=>p.1<=(st % 64).toNat/\WIx (q+10+2*p.1) (10+3*p.1) (100+30*p.1) p.2.1 p.2.2) (λp=>[(11,.d (.int .i64 p.1))]) (λp=>PO im x p.2.1 p.2.2) (λp=>(st % 64).toNat-p.1) (0,oN x,s) ⟨Nat.zero_le _,wi_begin hx hb⟩ ?_ ?_ ?_ (λp hp=>?_)
 .exact(by repeat' (first|exact trivial|exact rfl|exact Or.inl rfl|refine And.intro ?_ ?_|refine Or.inr ?_))
 .exact(by repeat' (first|exact trivial|exact rfl|exact Or.inl rfl|refine And.intro ?_ ?_|refine Or.inr ?_))
 .exact(by kernel_rfl)
 obtain⟨i,t,s⟩:=p;obtain⟨i1,hE⟩:=hp;dsimp only at i1 hE⊢
 by_cases hlt:i<(st % 64).toNat
 .cases hs:t.sc[jD (i:Int) t.sc]? with
  |none=>exact iterN hP hE hlt hst hq hs
  |some sc=>exact iterS hP hE hlt hst hq hs
 .have tx:decide ((i:Int)<st.tmod 64)=false:=by rw[hm];simp;omega
  subst hK
  repeat' ((conv=>whnf);first|exact zf|refine zm ?_|refine(gG tx ?_)|intro _)
end Go.Proofs.YtjpgfgajkjhonaaGreatDoor
