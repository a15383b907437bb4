/- SysFloats. Conditions: as told. -/
import Derived.Test.YtjpgfgajkjhonaaGreatDoorQFBI
namespace Go.Proofs.YtjpgfgajkjhonaaGreatDoor
open Go.Vx
set_option maxRecDepth 100000
theorem G4 {q:Nat} {x:H6} (hx:xc x) {s:bq} (hb:C8 255 q 10 s):FS 255 (q+1) 11 false (K_ x) s:=by
 have hm:x.mz.tmod 4=x.mz % 4:=bC hx.mz.1;exact ⟨(PK 255 x hx (by omega)).mono (by decide),hb.so.mono,λ_=>⟨pT _ _,λy hy=>(by cases hy),λk y hy=>by cases hy⟩⟩
theorem Nt (e:Fx) (d:Bool):decide ((((e.ef d).log.map By).length:Int)>0)=nh e∧(((((e.ef d).log.map By).length:Int)==0) = !nh e):=by
 cases e<;>exact ⟨rfl,rfl⟩
theorem A9 {mx:Int} {n:Nat} {t:Th} (H:FI t) (ht:gj mx n t) {k:Nat} (hk:k<t.sc.length) :
  (t.sc.map ek)[(k:Int).toNat]? = some (ek t.sc[k])∧bJ Tryz.prog 13 [jU t.g.cur,jU t.sc[k].l] (.d (.bool true))∧bJ Tryz.prog 13 [jU t.sc[k].g.cur,jU t.g.cur] (.d (.bool true)):=by
 have hs:=H.seen (aB hk);have hx:=ht.sc _ (cV hk);have h1:=gG t.g.cur t.sc[k].l ht.g.1 hx.l;have h2:=gG t.sc[k].g.cur t.g.cur hx.g.1 ht.g.1;rw [hs.1] at h1;rw [hs.2] at h2;exact ⟨by rw [show (k:Int).toNat=k by omega,aC,aB hk];rfl,h1,h2⟩
set_option maxHeartbeats 4000000 in
theorem KZ (hex:bJ Tryz.prog 9 [] (.d (.bool true))) (q:Nat) (f:List (List Int)) (hf:∀l∈f,oQ l) (l:List (Int×Ob)) (hl:∀p∈l,u4 255 q p) (hq:q<70000000) (x:H6) (hx:xc x) (st:Int) (hst:0≤st∧st≤255) :
  bJ Tryz.prog 3 [.d (.sl 1 (f.map λl=>[D.sl 1 (dz l)])),.d (.sl 20 (l.map jI)),.ag (pX x),.d (.int .u8 st)] (.d (.bool true)):=by
 have h10:=λ{K:Out→H→Prop}=>Na (K:=K) 255 q f hf l hl (by omega) x hx false;have hm:st.tmod 64=st % 64:=bC hst.1;refine s3.go (keep:=false) rfl ?_
 repeat' ((conv=>whnf);first | exact zf | refine zm ?_ | refine zc hex ?_ | refine (h10 (λim s hi hb=>?_)) | intro _)
 have hP:=hi.pr;have hz:R0 false x=x:=rfl;rw [hz]
 conv=>whnf
 refine bV [(3,.d (.int .u8 st)),(9,.d (.bool true)),(10,.p 1 0)] (λp:Nat×Bool×Th×bq=>p.1≤(st % 64).toNat∧FS 255 (q+11+3*p.1) (11+3*p.1) p.2.1 p.2.2.1 p.2.2.2) (λp=>[(12,.d (.int .i64 p.1)),(11,.d (.bool p.2.1))]) (λp=>Px im x p.2.2.1 p.2.2.2) (λp=>(st % 64).toNat - p.1) (0,false,K_ x,s) ⟨aj _,G4 hx hb⟩ ?_ ?_ ?_ (λp hp=>?_)
 ·exact zzz
 ·exact zzz
 ·exact (by kernel_rfl)
 obtain ⟨i,lk,t,s⟩:=p;obtain ⟨i1,hE⟩:=hp;dsimp only at i1 hE ⊢
 by_cases hlt:i<(st % 64).toNat
 ·have tx:decide ((i:Int)<st.tmod 64)=true:=by rw [hm];simp;omega
  have h11:=Lx t (i:Int);unfold Af at h11;have h12:=λ{K:Out→H→Prop}=>JO (K:=K) im t s (i:Int) hP hE.th hE.so (by decide) (by decide) (by omega) (by omega) (by omega);have hdue:(∃k:Nat,(if gQ (i:Int) t.sc<t.sc.length then (gQ (i:Int) t.sc:Int) else -1)=(k:Int))∨((if gQ (i:Int) t.sc<t.sc.length then (gQ (i:Int) t.sc:Int) else -1) = -1∧t.sc[gQ (i:Int) t.sc]? = none):=by
   by_cases hd:gQ (i:Int) t.sc<t.sc.length
   ·exact .inl ⟨_,if_pos hd⟩
   ·exact .inr ⟨if_neg hd,dB (by omega)⟩
  rcases hdue with ⟨k,hd⟩ | ⟨hd,hd2⟩
  all_goals
   rw [hd] at h11
   repeat' ((conv=>whnf);first | exact zf | refine zm ?_ | refine (gZ tx ?_) | refine zc h11 ?_ | refine (.inr ?_:(∃_,_)∨_) | refine (h12 (λb b' r E hr hE2=>?_)) | intro _)
  all_goals
   obtain ⟨hS,hfl⟩:=hE.step (now:=(i:Int)) hP (by decide) (by decide) (by omega) b b';rw [←hr] at hS hfl;have hlg:=Nt r.e r.d;rw [←hE2] at hlg;obtain ⟨tl,tz⟩:=hlg;have hg1:=gG t.g.cur r.t.g.cur hE.th.g.1 hS.th.g.1;have hg2:=gG r.t.g.eo t.g.eo hS.th.g.2 hE.th.g.2;have e1:q+11+3*(i+1)=q+11+3*i+3:=by omega
   have e2:11+3*(i+1)=11+3*i+3:=by omega
   have hfin:∃p:Nat×Bool×Th×bq,(p.1≤(st % 64).toNat∧FS 255 (q+11+3*p.1) (11+3*p.1) p.2.1 p.2.2.1 p.2.2.2)∧p=(i+1,lk||nh r.e,r.t,r.s):=⟨(i+1,lk||nh r.e,r.t,r.s),⟨hlt,by dsimp only;rw [e1,e2];exact hS⟩,rfl⟩
   have hfi:(lk||nh r.e)=false→FI r.t:=hS.f;have hsm:=hS.th;clear hS;obtain ⟨lq,hlq⟩:∃lq,lq=(lk||nh r.e):=⟨_,rfl⟩
   cases lk<;>cases hL:nh r.e
  all_goals
   rw [hL] at tl tz hfi hfin hlq
  all_goals cases hf1:bA t.g.cur r.t.g.cur<;>cases hf2:bA r.t.g.eo t.g.eo
  all_goals try exact absurd (hfl hd2 hL) (by rw [hf1,hf2];decide)
  all_goals
   rw [hf1] at hg1;rw [hf2] at hg2
  all_goals
   repeat' ((conv=>whnf);first | exact zf | refine zm ?_ | refine (gZ tl ?_) | refine (gr tl ?_) | refine (gZ tz ?_) | refine (gr tz ?_) | refine zc hg1 ?_ | refine zc hg2 ?_ | refine aX (λhb=>?_) (λhb=>?_) | intro _)
  all_goals
   conv=>whnf
   refine bV [(3,.d (.int .u8 st)),(9,.d (.bool true)),(10,.p 1 0),(11,.d (.bool lq)),(12,.d (.int .i64 i))] (λk:Nat=>k≤r.t.sc.length) (λk=>[(17,.d (.int .i64 k))]) (λ_=>Px im x r.t r.s) (λk=>r.t.sc.length - k) 0 (aj _) ?_ ?_ ?_ (λk hk=>?_)
   ·exact (by repeat' (first | exact trivial | exact rfl | exact gY (by rw [hlq];first | rfl | exact congrArg (λb=>V.d (D.bool b)) tl) | refine And.intro ?_ ?_))
   ·exact zzz
   ·exact (by kernel_rfl)
  all_goals
   have hlq2:lq=true∨(lq=false∧FI r.t):=by
    rw [hlq]
    first
     |exact .inl rfl
     |exact .inr ⟨rfl,hfi rfl⟩
   by_cases hkl:k<r.t.sc.length
  all_goals
   have tk:decide ((k:Int)<((r.t.sc.map ek).length:Int))=decide (k<r.t.sc.length):=by rw [aK,decide_eq_decide];omega
   first
    |rw [decide_eq_true hkl] at tk
    |rw [decide_eq_false hkl] at tk
  all_goals rcases hlq2 with rfl | ⟨rfl,H⟩
  all_goals try exact absurd hlq (by decide)
  all_goals
   repeat' ((conv=>whnf);first | exact zf | refine zm ?_ | refine (gZ tk ?_) | refine (gr tk ?_) | refine ⟨_,⟨by omega,(A9 H hsm hkl).1,rfl⟩,?_⟩ | refine zc ((A9 H hsm hkl).2.1) ?_ | refine zc ((A9 H hsm hkl).2.2) ?_ | refine (.inl ⟨by unfold eW;omega,?_⟩) | intro _)
  all_goals first
   |exact ⟨k+1,hkl,(by omega),zzz,zzz,rfl⟩
   |skip
  all_goals
   obtain ⟨p,hp1,hp2⟩:=hfin;refine ⟨p,hp1,?_⟩;subst hp2;exact ⟨(by show (st % 64).toNat - (i+1)<(st % 64).toNat - i;omega),zzz,zzz,rfl⟩
 ·have tx:decide ((i:Int)<st.tmod 64)=false:=by rw [hm];simp;omega
  repeat' ((conv=>whnf);first | exact zf | refine zm ?_ | refine (gr tx ?_) | intro _)
end Go.Proofs.YtjpgfgajkjhonaaGreatDoor
