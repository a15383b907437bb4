/- Lemmas. Conditions: none. -/
import Derived.Test.YtjpgfgajkjhonaaGreatDoorQHBF
set_option maxHeartbeats 4000000
set_option maxRecDepth 100000
namespace Go.Proofs.YtjpgfgajkjhonaaGreatDoor
open Go.Vx
set_option maxRecDepth 100000
section
variable {mx:Int} {q n:Nat} {t:Th} {s:b8} {now:Int} {b:Option Nat}
def gM:List Sc→Int
 |[]=>0
 |x :: l=>x.ro+1+gM l
def yB (t:Th):Int:=t.ro+gM t.sc
theorem y9 (l r:List Sc):gM (l++r)=gM l+gM r:=by
 induction l with
 |nil=>show gM r=0+gM r;omega
 |cons x l ih=>show x.ro+1+gM (l++r)=x.ro+1+gM l+gM r;rw [ih];omega
theorem Gp {l:List Sc} (h:∀x∈l,0≤x.ro):0≤gM l:=by
 induction l with
 |nil=>exact dT _
 |cons x l ih=>
  have h1:=h x (by simp);have h2:=ih λy hy=>h y (by simp [hy]);show 0≤x.ro+1+gM l;omega
theorem At {l:List Sc} {k:Nat} {x:Sc} (hx:l[k]? = some x) (h:∀x∈l,0≤x.ro):x.ro+gM (l.take k)+1≤gM l:=by
 obtain ⟨hk,rfl⟩:=aA.1 hx;have e:l=l.take k++l[k] :: l.drop (k+1):=by rw [List.getElem_cons_drop,List.take_append_drop]
 have h2:0≤gM (l.drop (k+1)):=Gp λy hy=>h y (dS hy);have h3:gM l=gM (l.take k)+(l[k].ro+1+gM (l.drop (k+1))):=by
  have:=y9 (l.take k) (l[k] :: l.drop (k+1));rw [←e] at this;exact this
 omega
def names (s:b8):List (List UInt8):=s.th.map (·.1)
def Bg:Fx→Int
 |.fork x=>x.ro
 |_=>0
def rB (nm:List UInt8):Prop:=∃p,nm=cR (3 :: p)∧p≠[]∧gS (3 :: p)
structure Own (t:Th):Prop where
  pa:∃p,t.pa=cR (3 :: p)∧∀x∈3 :: p,x<100
  sc:∀x∈t.sc,rB x.nm∧∃p,x.pa=cR (3 :: p)∧∀x∈3 :: p,x<100
theorem Own.kp {p:List Nat} (h:Own t) (hp:pE p t.pa t.ma t.ro) (hr:1≤t.ro):rB (cR (lI t))∧∃r,lI t=3 :: r∧r≠[]:=by
 obtain ⟨r,hr1,hr2⟩:=h.pa;have:p=3 :: r:=by
  have h1:=hp.un;rw [hr1,pV (by simp) hr2] at h1;exact h1.symm
 have hk:=hp.kp;rw [this] at hk;have hg:=hp.nP hr;refine ⟨⟨r ++ [t.ma.toNat],κ cR hk,by simp,?_⟩,r ++ [t.ma.toNat],hk,by simp⟩;rw [hk] at hg;exact hg
theorem qh {i:Nat} {nm:List UInt8} {o p:Ob} (h:bI nm s.th=some (i,o)):names (jx s i nm p)=names s:=by
 have key:∀{l:List (List UInt8×Ob)} {i:Nat},bI nm l=some (i,o)→(l.set i (nm,p)).map (·.1)=l.map (·.1):=by
  intro l
  induction l with
  |nil=>intro i h;cases h
  |cons x l ih=>
   intro i h;have h':(if nm=x.1 then some (0,x.2) else (bI nm l).map λx=>(x.1+1,x.2))=some (i,o):=h
   by_cases hk:nm=x.1
   ·rw [ζ hk,aE,bW] at h';obtain ⟨rfl,_⟩:=h';simp [hk]
   ·rw [η hk] at h';cases hl:bI nm l with
    |none=>rw [hl] at h';cases h'
    |some y=>
     obtain ⟨j,o'⟩:=y;rw [hl] at h';simp only [bA,aE,bW] at h';obtain ⟨rfl,rfl⟩:=h';simp [ih hl]
 exact key h
theorem qi (s:b8) (kp:List Nat) (o:Ob) (b:Option Nat):names (iE s kp o b)=names s∨names (iE s kp o b)=names s ++ [cR kp]:=by
 unfold iE;cases kf o.l&&(bI (cR kp) s.th).isNone
 ·exact .inl rfl
 ·exact .inr (by unfold names qP;rw [δ,bY];rfl)
structure Made (t t':Th) (s s':b8) (g:Int):Prop where
  ex:∃l,names s'=names s++l∧(l.length:Int)+yB t'+g≤yB t∧∀x∈l,rB x
theorem jJ.made {ma:Int} {e:Fx} {t':Th} {s':b8} (ht:gf mx n t) (ho:Own t) (D:jJ now mx q n t ma s b e t' s') :
  Own t'∧Made t t' s s' (Bg e)∧(∀x,e = .fork x→0≤x.ro∧x.pa=x.id∧rB x.id):=by
 obtain ⟨p,hp⟩:=ht.pa;cases D with
 |go g k st on _ _ _=>exact ⟨⟨ho.pa,ho.sc⟩,⟨[],by simp,(by show (0:Int)+yB t+0≤yB t;omega),λx hx=>by cases hx⟩,λx hx=>by cases hx⟩
 |log x g _ _=>exact ⟨⟨ho.pa,ho.sc⟩,⟨[],by simp,(by show (0:Int)+yB t+0≤yB t;omega),λx hx=>by cases hx⟩,λx hx=>by cases hx⟩
 |out x _ _ _ _=>exact ⟨⟨ho.pa,ho.sc⟩,⟨[],by simp,(by show (0:Int)+yB t+0≤yB t;omega),λx hx=>by cases hx⟩,λx hx=>by cases hx⟩
 |set e g i nm o w k st on h1 _ _ _ _ _ _ _ _ _ he=>
  have hf:Bg e=0:=by rcases he with rfl | ⟨_,rfl,_⟩<;>rfl
  refine ⟨⟨ho.pa,ho.sc⟩,⟨[],by rw [qh h1];simp,(by rw [hf];show (0:Int)+yB t+0≤yB t;omega),λx hx=>by cases hx⟩,λx hx=>?_⟩;rcases he with rfl | ⟨_,rfl,_⟩<;>cases hx
 |make o k _ _ hr _ _ _=>
  refine ⟨⟨ho.pa,ho.sc⟩,?_,λx hx=>by cases hx⟩;rcases qi s (lI t) o b with e | e
  ·exact ⟨[],by rw [e];simp,(by show (0:Int)+(t.ro - 1+gM t.sc)+0≤t.ro+gM t.sc;omega),λx hx=>by cases hx⟩
  ·exact ⟨[cR (lI t)],e,(by show (1:Int)+(t.ro - 1+gM t.sc)+0≤t.ro+gM t.sc;omega),λx hx=>by rw [aM.1 hx];exact (ho.kp hp hr).1⟩
 |fork l ro k d _ _ _ hr0 hr _ _=>
  have hk:=(ho.kp hp (by omega)).1;refine ⟨⟨ho.pa,ho.sc⟩,?_,λx hx=>by cases hx;exact ⟨hr0,rfl,hk⟩⟩;rcases qi s (lI t) { fT with k:=6,l:=l } b with e | e
  ·exact ⟨[],by rw [e];simp,(by show (0:Int)+(t.ro - 1 - ro+gM t.sc)+ro≤t.ro+gM t.sc;omega),λx hx=>by cases hx⟩
  ·exact ⟨[cR (lI t)],e,(by show (1:Int)+(t.ro - 1 - ro+gM t.sc)+ro≤t.ro+gM t.sc;omega),λx hx=>by rw [aM.1 hx];exact hk⟩
 |scope l tk ro k _ _ _ hr0 hr _ _ _=>
  obtain ⟨hk,r,hr1,hr2⟩:=ho.kp hp (by omega);have hg:=hp.nP (by omega);refine ⟨⟨⟨r,κ cR hr1,by rw [←hr1];exact hg.2.2⟩,λx hx=>?_⟩,⟨[],by simp,?_,λx hx=>by cases hx⟩,λx hx=>by cases hx⟩
  ·rcases aS.1 hx with h1 | h1
   ·exact ho.sc x h1
   ·rw [aM.1 h1];exact ⟨hk,ho.pa⟩
  ·show (0:Int)+(ro+gM (t.sc ++ [qq t l tk ro now (cR (lI t))]))+0≤t.ro+gM t.sc;rw [y9];show (0:Int)+(ro+(gM t.sc+(t.ro - 1 - ro+1+0)))+0≤t.ro+gM t.sc;omega
theorem FD (v:Va) (ex:Bool):names (qp t s v ex).2=names s:=by
 unfold qp;split
 ·rfl
 ·cases hl:bI t.id s.th with
  |none=>rfl
  |some p=>
   obtain ⟨i,o⟩:=p;dsimp only;split
   ·exact qh hl
   ·rfl
theorem l7.made {r:Rs} (ht:gf mx n t) (ho:Own t) (T:l7 now mx q n t s b r) :
  Own r.t∧Made t r.t s r.s (Bg r.e)∧(∀x,r.e = .fork x→0≤x.ro∧x.pa=x.id∧rB x.id):=by
 cases T with
 |idle _=>exact ⟨⟨ho.pa,ho.sc⟩,⟨[],by simp,(by show (0:Int)+yB t+0≤yB t;omega),λx hx=>by cases hx⟩,λx hx=>by cases hx⟩
 |core g k _ _ _=>exact ⟨⟨ho.pa,ho.sc⟩,⟨[],by simp,(by show (0:Int)+yB t+0≤yB t;omega),λx hx=>by cases hx⟩,λx hx=>by cases hx⟩
 |fin g k v ex _ _ _ _=>exact ⟨⟨ho.pa,ho.sc⟩,⟨[],by rw [FD];simp,(by show (0:Int)+yB t+0≤yB t;omega),λx hx=>by cases hx⟩,λx hx=>by cases hx⟩
 |FM k ma e t' s' _ hk _ D=>
  have:=jJ.made (t:={ t with c:=k }) ⟨hk,ht.g,ht.pa,ht.sc,ht.sl,ht.v⟩ ⟨ho.pa,ho.sc⟩ D;exact ⟨this.1,⟨this.2.1.ex⟩,this.2.2⟩
theorem BN (ht:gf mx n t) (ho:Own t) (now:Int) (b:Option Nat):Own (dB t s now b).1∧Made t (dB t s now b).1 s (dB t s now b).2 0:=by
 have hr:∀x∈t.sc,0≤x.ro:=λx hx=>by
  obtain ⟨p,hp⟩:=(ht.sc x hx).pa;exact hp.r0
 obtain ⟨p,hp⟩:=ht.pa;have h0:=hp.r0;unfold dB;cases hi:t.sc[jF now t.sc]? with
 |none=>exact ⟨ho,⟨[],by simp,(by show (0:Int)+yB t+0≤yB t;omega),λx hx=>by cases hx⟩⟩
 |some x=>
  have hm:=aH hi;have hs:=At hi hr;obtain ⟨h1,h2⟩:=ho.sc x hm;have hnm:=(ht.sc x hm).SM.nm;refine ⟨⟨h2,λy hy=>ho.sc y (dR hy)⟩,?_⟩;rcases qi s (LH x) (pG t (jF now t.sc) x) b with e | e
  ·exact ⟨[],by rw [e];simp,(by show (0:Int)+(x.ro+gM (t.sc.take _))+0≤t.ro+gM t.sc;omega),λx hx=>by cases hx⟩
  ·exact ⟨[cR (LH x)],e,(by show (1:Int)+(x.ro+gM (t.sc.take _))+0≤t.ro+gM t.sc;omega),λy hy=>by rw [aM.1 hy,←hnm];exact h1⟩
end
structure qS (s:b8):Prop where
  nd:(names s).Nodup
  ld:(s.nm.map (·.1)).Nodup
  up:∀p∈s.th,∃e∈s.nm,e.1=p.2.l∧∃k∈e.2.2,p.1=cR k
  dn:∀e∈s.nm,∀k∈e.2.2,∃p∈s.th,p.1=cR k∧p.2.l=e.1
  gd:∀p∈s.th,∃k,p.1=cR k∧gS k
  ne:∀e∈s.nm,e.2.2≠[]
section
variable {mx:Int} {q n:Nat} {t:Th} {s:b8} {now:Int} {b:Option Nat}
theorem sO {nm:List UInt8} {o:Ob}:∀{l:List (List UInt8×Ob)} {i:Nat},bI nm l=some (i,o)→l[i]? = some (nm,o)
 |[],i,h=>by cases h
 |x :: l,i,h=>by
  have h':(if nm=x.1 then some (0,x.2) else (bI nm l).map λx=>(x.1+1,x.2))=some (i,o):=h
  by_cases hk:nm=x.1
  ·rw [ζ hk,aE,bW] at h';obtain ⟨rfl,rfl⟩:=h';rw [hk];rfl
  ·rw [η hk] at h';cases hl:bI nm l with
   |none=>rw [hl] at h';cases h'
   |some y=>
    obtain ⟨j,o'⟩:=y;rw [hl] at h';simp only [bA,aE,bW] at h';obtain ⟨rfl,rfl⟩:=h';show l[j]? = _;exact sO hl
theorem vg {nm:List UInt8}:∀{l:List (List UInt8×Ob)},bI nm l=none→nm∉l.map (·.1)
 |[],_=>by simp
 |x :: l,h=>by
  have h':(if nm=x.1 then some (0,x.2) else (bI nm l).map λx=>(x.1+1,x.2))=none:=h
  by_cases hk:nm=x.1
  ·rw [ζ hk] at h';cases h'
  ·rw [η hk] at h';cases hl:bI nm l with
   |some y=>rw [hl] at h';cases h'
   |none=>
    have:=vg hl;rw [cH,a8]
    rintro (h | h)
    ·exact hk h
    ·exact this h
theorem rS {nm:List UInt8} {o:Ob}:∀{l:List (List UInt8×Ob)},(l.map (·.1)).Nodup→(nm,o)∈l→∃i,bI nm l=some (i,o)
 |[],_,h=>by cases h
 |x :: l,hd,h=>by
  rw [cH,cr] at hd;show ∃i,(if nm=x.1 then some (0,x.2) else (bI nm l).map λx=>(x.1+1,x.2))=some (i,o);rcases a8.1 h with h1 | h1
  ·subst h1;exact ⟨0,by rw [ζ rfl]⟩
  ·have hne:nm≠x.1:=λe=>hd.1 (by rw [←e];exact bF.2 ⟨(nm,o),h1,rfl⟩);obtain ⟨i,hi⟩:=rS hd.2 h1;exact ⟨i+1,by rw [η hne,hi];rfl⟩
theorem qS.set {i:Nat} {nm:List UInt8} {o p:Ob} (h:qS s) (hl:bI nm s.th=some (i,o)) (hp:p.l=o.l):qS (jx s i nm p):=by
 have hat:=sO hl;have hm:=aH hat;have hin:∀x∈s.th,∃y∈s.th.set i (nm,p),y.1=x.1∧y.2.l=x.2.l:=λx hx=>by
  obtain ⟨j,hj,rfl⟩:=List.mem_iff_getElem.1 hx
  by_cases e:i=j
  ·subst e;rw [aB hj,aE] at hat;exact ⟨(nm,p),List.mem_set hj _,by rw [hat],by rw [hat];exact hp⟩
  ·exact ⟨s.th[j],aH (i:=j) (by rw [eE e];exact aB hj),rfl,rfl⟩
 refine ⟨by rw [qh hl];exact h.nd,h.ld,λx hx=>?_,λe he k hk=>?_,λx hx=>?_,h.ne⟩
 ·rcases fV hx with h1 | h1
  ·exact h.up x h1
  ·rw [h1];have:=h.up _ hm;rw [hp];exact this
 ·obtain ⟨x,hx,h1,h2⟩:=h.dn e he k hk;obtain ⟨y,hy,h3,h4⟩:=hin x hx;exact ⟨y,hy,h3.trans h1,h4.trans h2⟩
 ·rcases fV hx with h1 | h1
  ·exact h.gd x h1
  ·rw [h1];obtain ⟨k,a1,a2⟩:=h.gd _ hm;exact ⟨k,a1,a2⟩
theorem Ng {a l:Lb}:(a.s=l.s∧a.i=l.i)↔a=l:=by
 constructor
 ·rintro ⟨h1,h2⟩
  cases a;cases l;cases h1;cases h2;rfl
 ·rintro rfl;exact ⟨rfl,rfl⟩
theorem qQ (l:Lb) (kp:List Nat) (b:Option Nat):qR [] l kp b = [(l,b,[kp])]:=rfl
theorem l6 (p:Lb×Option Nat×List (List Nat)) (r:kW) (l:Lb) (kp:List Nat) (b:Option Nat):qR (p :: r) l kp b=if p.1=l then (p.1,b,uA p.2.2 kp) :: r else p :: qR r l kp b:=by
 unfold qR;rw [show ru l (p :: r)=if p.1.s=l.s∧p.1.i=l.i then some 0 else (ru l r).map (· + 1) from rfl]
 by_cases h:p.1=l
 ·rw [ζ (Ng.2 h),ζ h];rfl
 ·rw [η (λe=>h (Ng.1 e)),η h];cases ru l r with
  |none=>rfl
  |some i=>rfl
theorem Dg {l:Lb} {kp:List Nat}:∀{nm:kW} {e:Lb×Option Nat×List (List Nat)},e∈nm→∃e'∈qR nm l kp b,e'.1=e.1∧∀k∈e.2.2,k∈e'.2.2
 |[],e,h=>by cases h
 |p :: r,e,h=>by
  rw [l6]
  by_cases hp:p.1=l
  ·rw [ζ hp];rcases a8.1 h with h1 | h1
   ·subst h1;exact ⟨(e.1,b,uA e.2.2 kp),by simp,rfl,λk hk=>qD.2 (.inr hk)⟩
   ·exact ⟨e,by simp [h1],rfl,λk hk=>hk⟩
  ·rw [η hp];rcases a8.1 h with h1 | h1
   ·subst h1;exact ⟨e,by simp,rfl,λk hk=>hk⟩
   ·obtain ⟨e',a1,a2,a3⟩:=Dg (l:=l) (kp:=kp) h1;exact ⟨e',by simp [a1],a2,a3⟩
theorem zy {l:Lb} {kp:List Nat}:∀{nm:kW},∃e'∈qR nm l kp b,e'.1=l∧kp∈e'.2.2
 |[]=>⟨(l,b,[kp]),by rw [qQ];simp,rfl,by simp⟩
 |p :: r=>by
  rw [l6]
  by_cases hp:p.1=l
  ·rw [ζ hp];exact ⟨(p.1,b,uA p.2.2 kp),by simp,hp,qD.2 (.inl rfl)⟩
  ·rw [η hp];obtain ⟨e',a1,a2,a3⟩:=zy (l:=l) (kp:=kp) (nm:=r);exact ⟨e',by simp [a1],a2,a3⟩
theorem Dj {l:Lb} {kp:List Nat}:∀{nm:kW} {e:Lb×Option Nat×List (List Nat)} {k:List Nat},e∈qR nm l kp b→k∈e.2.2→(k=kp∧e.1=l)∨∃e'∈nm,e'.1=e.1∧k∈e'.2.2
  |[],e,k,h,hk=>by
    rw [qQ] at h
    rw [aM.1 h] at hk ⊢
    exact .inl ⟨aM.1 hk,rfl⟩
  |p :: r,e,k,h,hk=>by
    rw [l6] at h
    by_cases hp:p.1=l
    · rw [ζ hp] at h
      rcases a8.1 h with h1 | h1
      · rw [h1] at hk ⊢
        rcases qD.1 hk with h2 | h2
        · exact .inl ⟨h2,hp⟩
        · exact .inr ⟨p,by simp,rfl,h2⟩
      · exact .inr ⟨e,by simp [h1],rfl,hk⟩
    · rw [η hp] at h
      rcases a8.1 h with h1 | h1
      · rw [h1] at hk ⊢
        exact .inr ⟨p,by simp,rfl,hk⟩
      · rcases Dj h1 hk with h2 | ⟨e',h2,h3,h4⟩
        · exact .inl h2
        · exact .inr ⟨e',by simp [h2],h3,h4⟩
theorem Di {l:Lb} {kp:List Nat}:∀{nm:kW},(nm.map (·.1)).Nodup→((qR nm l kp b).map (·.1)).Nodup∧∀x∈(qR nm l kp b).map (·.1),x=l∨x∈nm.map (·.1)
  |[],_=>by rw [qQ];exact ⟨by simp,λx hx=>.inl (by simpa using hx)⟩
  |p :: r,h=>by
    rw [l6]
    by_cases hp:p.1=l
    · rw [ζ hp]
      exact ⟨h,λx hx=>.inr hx⟩
    · rw [η hp]
      rw [cH,cr] at h
      obtain ⟨a,c⟩:=Di (l:=l) (kp:=kp) h.2
      refine ⟨?_,λx hx=>?_⟩
      · rw [cH,cr]
        refine ⟨λhx=>?_,a⟩
        rcases c _ hx with h1 | h1
        · exact hp h1
        · exact h.1 h1
      · rw [cH,a8] at hx ⊢
        rcases hx with h1 | h1
        · exact .inr (.inl h1)
        · rcases c _ h1 with h2 | h2
          · exact .inl h2
          · exact .inr (.inr h2)
theorem Dh {l:Lb} {kp:List Nat}:∀{nm:kW},(∀e∈nm,e.2.2≠[])→∀e∈qR nm l kp b,e.2.2≠[]
 |[],_,e,he=>by rw [qQ] at he;rw [aM.1 he];simp
 |p :: r,h,e,he=>by
  rw [l6] at he
  by_cases hp:p.1=l
  ·rw [ζ hp] at he;rcases a8.1 he with h1 | h1
   ·rw [h1];unfold uA;simp
   ·exact h e (by simp [h1])
  ·rw [η hp] at he;rcases a8.1 he with h1 | h1
   ·rw [h1];exact h p (by simp)
   ·exact Dh (λx hx=>h x (by simp [hx])) e h1
theorem qS.add {kp:List Nat} {o:Ob} (h:qS s) (hk:gS kp) (b:Option Nat):qS (iE s kp o b):=by
 unfold iE;cases hb:kf o.l&&(bI (cR kp) s.th).isNone with
 |false=>exact h
 |true=>
  rw [δ];rw [aP,Option.isNone_iff_eq_none] at hb;have hn:=vg hb.2;unfold qP;refine ⟨?_,(Di h.ld).1,λx hx=>?_,λe he k hk=>?_,λx hx=>?_,Dh h.ne⟩
  ·unfold names;rw [bY,List.nodup_append];refine ⟨h.nd,by simp,λa ha c hc=>?_⟩;have hc:c=cR kp:=by simpa using hc
   rintro rfl
   rw [hc] at ha;exact hn ha
  ·rcases aS.1 hx with h1 | h1
   ·obtain ⟨e,he,a1,k,hk,a2⟩:=h.up x h1;obtain ⟨e',c1,c2,c3⟩:=Dg (l:=o.l) (kp:=kp) (b:=b) he;exact ⟨e',c1,c2.trans a1,k,c3 k hk,a2⟩
   ·rw [aM.1 h1];obtain ⟨e',c1,c2,c3⟩:=zy (l:=o.l) (kp:=kp) (b:=b) (nm:=s.nm);exact ⟨e',c1,c2,kp,c3,rfl⟩
  ·rcases Dj he hk with ⟨rfl,h2⟩ | ⟨e',h1,h2,h3⟩
   ·exact ⟨(cR k,o),by simp,rfl,h2.symm⟩
   ·obtain ⟨x,hx,a1,a2⟩:=h.dn e' h1 k h3;exact ⟨x,by simp [hx],a1,a2.trans h2⟩
  ·rcases aS.1 hx with h1 | h1
   ·exact h.gd x h1
   ·rw [aM.1 h1];exact ⟨kp,rfl,hk⟩
theorem Ma:qS ⟨[],[]⟩:=⟨by simp [names],by simp,λp hp=>(by cases hp),λp hp=>(by cases hp),λp hp=>(by cases hp),λp hp=>by cases hp⟩
theorem jJ.Vc {ma:Int} {e:Fx} {t':Th} {s':b8} (ht:gf mx n t) (h:qS s) (D:jJ now mx q n t ma s b e t' s'):qS s':=by
 obtain ⟨p,hp⟩:=ht.pa;cases D with
 |go | log | out | scope=>exact h
 |set e g j nm o w k st on h1 _ _ hpl=>exact h.set h1 hpl
 |make o k _ _ hr=>exact h.add (hp.nP hr) b
 |fork l ro k d _ _ _ hr0 hr=>exact h.add (hp.nP (by omega)) b
theorem l7.Vc {r:Rs} (ht:gf mx n t) (h:qS s) (T:l7 now mx q n t s b r):qS r.s:=by
 cases T with
 |idle | core=>exact h
 |fin g k v ex _ _ _ _=>
  dsimp only;unfold qp;split
  ·exact h
  ·dsimp only;cases hl:bI t.id s.th with
   |none=>exact h
   |some p=>
    obtain ⟨i,o⟩:=p;dsimp only;split
    ·exact h.set hl rfl
    ·exact h
 |FM k ma e t' s' _ hk _ D=>exact jJ.Vc (t:={ t with c:=k }) ⟨hk,ht.g,ht.pa,ht.sc,ht.sl,ht.v⟩ h D
theorem Eb (ht:gf mx n t) (h:qS s) (now:Int) (b:Option Nat):qS (dB t s now b).2:=by
 unfold dB;cases hi:t.sc[jF now t.sc]? with
 |none=>exact h
 |some x=>exact h.add (ht.sc x (aH hi)).SM.g b
theorem EB {im:Im} (hP:tT im) (ht:gf mx n t) (hs:gN mx q n s) (h:qS s) (h0:0≤mx) (hx:mx≤255) (hn:n<40000000) (b b':Option Nat):qS (nD im now b b' t s).s:=
 l7.Vc (kE (now:=now) ht hs h0 b).1 (Eb ht h now b) (ot hP ht hs h0 hx hn b b')
end
def Rd (c:Int):Option (Int×Int×Int):=(inf c).map λi=>(i.ar,bif c==17 then i.po+1 else i.po,i.pu)
def Rm (c:Int):Bool:=c==15||(c==16||(c==18||(c==19||(c==20||(c==21||(c==24||c==31))))))
def WI (ar a:Int):Bool:=
 bif ar==0 then a==0 else bif ar==1 then decide (0≤a)&&decide (a<16) else bif ar==2 then decide (0≤a)&&decide (a<8) else bif ar==4 then decide (0≤a)&&decide (a<3) else bif ar==5 then decide (0≤a)&&decide (a≤63) else false
inductive NA:Int→List Op→Int→Prop
  |nil (h:Int):NA h [] h
  |cons {c a ar t p h h':Int} {r:List Op} (hk:Rd c=some (ar,t,p)) (hc:Rm c=false) (ha:WI ar a=true) (h1:t≤h) (h2:h - t+p≤8) (hr:NA (h - t+p) r h'):NA h (⟨c,a⟩ :: r) h'
def vJ (d:List Op):Prop:=(NA 0 d 0∧d≠[]∧(d.getLast?.map (·.c))≠some 19∧d.length≤8)∨∃n:Int,0≤n∧n<8∧d = [⟨1,n⟩,⟨19,0⟩]
def xG (l:List Int) (a:Int) (c:List Op):H:=[.cells [.d (.sl 1 (eJ l)),.d (.int .i64 a),.os 1],.rows 2 (c.map dZ)]
def pM (l:List Int):Prop:=∀x∈l,0≤x∧x≤255
theorem BE {K:KT} (l:List Int) (a:Int) (c:List Op) (hl:pM l) (ha:0≤a∧a<1000000) (hk:∀n,0≤n∧n≤255→K (.ret (.d (.int .i64 n))) (xG l (a+1) c)):Z1 82 [.p 0 0] (xG l a c) K:=by
 have hrl:=jA l;refine sh0 Tryz.f82 ?_
 repeat' ((conv=>whnf);first | exact zf | refine zm ?_ | refine zi0 ?_ | intro _)
 refine aX (λhgt=>?_) (λhle=>?_)
 ·skip
  repeat' ((conv=>whnf);first | exact zf | refine zm ?_ | intro _)
  exact hk 0 ⟨by omega,by omega⟩
 ·have hle:a+1≤l.length:=by have:=ι hle;omega
  obtain ⟨x,hx⟩:∃x,l[a.toNat]? = some x:=⟨_,aB (by omega)⟩
  have hb:=hl x (aH hx)
  repeat' ((conv=>whnf);first | exact zf | refine zm ?_ | refine zi0 ?_ | intro _)
  refine ⟨[D.int .u8 x],⟨by omega,by rw [show a+1 - 1=a by omega];simp [eJ,hx],rfl⟩,?_⟩
  repeat' ((conv=>whnf);first | exact zf | refine zm ?_ | refine zi0 ?_ | intro _)
  exact hk x hb
theorem j3 {K:KT} (l:List Int) (a:Int) (c:List Op) (x y:Int) (hc:c.length≤1000000) (hk:K (.ret (.tu [])) (xG l a (c ++ [⟨x,y⟩]))):Z1 81 [.p 0 0,.d (.int .i64 x),.d (.int .i64 y)] (xG l a c) K:=by
 have ib:(c.map dZ).length=c.length:=by simp
 have he:(c ++ [(⟨x,y⟩:Op)]).map dZ=c.map dZ ++ [[.int .i64 x,.int .i64 y]]:=by simp [dZ]
 unfold xG at hk;rw [he] at hk;refine sh0 Tryz.f81 ?_
 exact zh0 hk
theorem NJ {n:Int} (h:0≤n∧n≤255) (k:Int) (hk:0<k):0≤n.tmod k∧n.tmod k<k:=by
 rw [bD h.1];exact ⟨Int.emod_nonneg _ (by omega),Int.emod_lt_of_pos _ hk⟩
theorem E3 {K:KT} (l:List Int) (a:Int) (c:List Op) (hl:pM l) (ha:0≤a∧a<1000000) (hc:c.length≤1000000) (hk:∀n,0≤n∧n<8→K (.ret (.tu [])) (xG l (a+1) (c ++ [⟨1,n⟩]))):Z1 192 [.p 0 0] (xG l a c) K:=by
 refine sh0 Tryz.f192 ?_
 repeat' ((conv=>whnf);first | exact zf | refine zm ?_ | refine zr0 ?_ | refine (BE l _ _ hl ha (λn hn=>?_)) | refine (j3 l _ _ _ _ hc ?_) | intro _)
 exact hk _ (NJ ‹_› 8 (by decide))
theorem Lk {K:KT} (l:List Int) (a:Int) (c:List Op) (hl:pM l) (ha:0≤a∧a<1000000) (hc:c.length≤1000000) (hk:∀n,8≤n∧n<16→K (.ret (.tu [])) (xG l (a+1) (c ++ [⟨1,n⟩]))):Z1 193 [.p 0 0] (xG l a c) K:=by
 refine sh0 Tryz.f193 ?_
 repeat' ((conv=>whnf);first | exact zf | refine zm ?_ | refine zr0 ?_ | refine (BE l _ _ hl ha (λn hn=>?_)) | refine (j3 l _ _ _ _ hc ?_) | refine (.inl ⟨by have:=NJ ‹_› 8 (by decide);unfold e8;omega,?_⟩) | intro _)
 exact hk _ (by have:=NJ hn 8 (by decide);omega)
theorem Cu {K:KT} (l:List Int) (a:Int) (c:List Op) (x:Int) (hc:c.length≤1000000) (hk:K (.ret (.tu [])) (xG l a (c ++ [⟨2,x⟩]))):Z1 126 [.p 0 0,.d (.int .i64 x)] (xG l a c) K:=by
 refine sh0 Tryz.f126 ?_
 repeat' ((conv=>whnf);first | exact zf | refine zm ?_ | refine zr0 ?_ | refine (j3 l _ _ _ _ hc ?_) | intro _)
 exact hk
theorem mE {K:KT} (l:List Int) (a:Int) (c:List Op) (hl:pM l) (ha:0≤a∧a<1000000)
  (hk:∀n,0≤n∧n≤255∧0≤n.tmod 8∧n.tmod 8<8∧0≤n.tmod 7∧n.tmod 7<7∧0≤n.tmod 2∧n.tmod 2<2∧0≤n.tmod 4∧n.tmod 4<4∧0≤n.tmod 32∧n.tmod 32<32→K (.ret (.d (.int .i64 n))) (xG l (a+1) c)):Z1 82 [.p 0 0] (xG l a c) K:=by
 refine BE l a c hl ha λn hn=>hk n ?_;have h8:=NJ hn 8 (by decide);have h7:=NJ hn 7 (by decide);have h2:=NJ hn 2 (by decide);have h4:=NJ hn 4 (by decide);have h32:=NJ hn 32 (by decide);exact ⟨hn.1,hn.2,h8.1,h8.2,h7.1,h7.2,h2.1,h2.2,h4.1,h4.2,h32.1,h32.2⟩
theorem S6 {x0 x1 x2 x3 i:Int} {Q:Prop} (hi:0≤i∧i<4) (h0:0≤x0∧x0<8) (h1:0≤x1∧x1<8) (h2:0≤x2∧x2<8) (h3:0≤x3∧x3<8)
  (hQ:∀x,0≤x∧x<8→[[D.int .i64 x0],[D.int .i64 x1],[D.int .i64 x2],[D.int .i64 x3]][i.toNat]? = some [D.int .i64 x]→Q):Q:=by
 have h:i=0∨i=1∨i=2∨i=3:=by omega
 rcases h with rfl | rfl | rfl | rfl
 ·exact hQ x0 h0 rfl
 ·exact hQ x1 h1 rfl
 ·exact hQ x2 h2 rfl
 ·exact hQ x3 h3 rfl
theorem S5 {x0 x1 x2 x3 i:Int} {K:List D→Prop} (hi:0≤i∧i<4) (h0:0≤x0∧x0<8) (h1:0≤x1∧x1<8) (h2:0≤x2∧x2<8) (h3:0≤x3∧x3<8)
  (hQ:∀x,0≤x∧x<8→K [D.int .i64 x]):∃row,(0≤i∧[[D.int .i64 x0],[D.int .i64 x1],[D.int .i64 x2],[D.int .i64 x3]][i.toNat]? = some row∧Nat.beq 1 1=true)∧K row:=
 S6 hi h0 h1 h2 h3 λx hx hr=>⟨_,⟨hi.1,hr,rfl⟩,hQ x hx⟩
theorem LZ {c:Int} (h:7≤c∧c≤13):Rd c=some (0,2,1)∧Rm c=false:=by
 have:c=7∨c=8∨c=9∨c=10∨c=11∨c=12∨c=13:=by omega
 rcases this with rfl | rfl | rfl | rfl | rfl | rfl | rfl<;>exact ⟨rfl,rfl⟩
theorem QB {c:Int} (h:22≤c∧c≤23):Rd c=some (0,2,1)∧Rm c=false:=by
 have:c=22∨c=23:=by omega
 rcases this with rfl | rfl<;>exact ⟨rfl,rfl⟩
theorem QD {c:Int} (h:25≤c∧c≤26):Rd c=some (0,0,1)∧Rm c=false:=by
 have:c=25∨c=26:=by omega
 rcases this with rfl | rfl<;>exact ⟨rfl,rfl⟩
theorem QC {c:Int} (h:42≤c∧c≤43):Rd c=some (0,1,0)∧Rm c=false:=by
 have:c=42∨c=43:=by omega
 rcases this with rfl | rfl<;>exact ⟨rfl,rfl⟩
theorem NA.via {c a ar t p h h':Int} {r:List Op} (hk:Rd c=some (ar,t,p)∧Rm c=false) (ha:WI ar a=true) (h1:t≤h) (h2:h - t+p≤8) (hr:NA (h - t+p) r h'):NA h (⟨c,a⟩ :: r) h':=.cons hk.1 hk.2 ha h1 h2 hr
theorem int32 {k:Int} (h:0≤k∧k<32):k=0∨k=1∨k=2∨k=3∨k=4∨k=5∨k=6∨k=7∨k=8∨k=9∨k=10∨k=11∨k=12∨k=13∨k=14∨k=15∨k=16∨k=17∨k=18∨k=19∨k=20∨k=21∨k=22∨k=23∨k=24∨k=25∨k=26∨k=27∨k=28∨k=29∨k=30∨k=31:=by omega
theorem Bs {K:KT} (l:List Int) (a:Int) (c:List Op) (ab:Int) (hl:pM l) (ha:0≤a∧a<100000) (hc:c.length≤100000) (hab:0≤ab∧ab<3)
    (hk:∀a' c',(∃d,vJ d∧c'=c++d)→a≤a'∧a'≤a+8→K (.ret (.tu [])) (xG l a' c')):Z1 125 [.p 0 0,.d (.int .i64 ab)] (xG l a c) K:=by
  refine sh0 Tryz.f125 ?_
  repeat' ((conv=>whnf);first | exact zf | refine zm ?_ | refine zr0 ?_ | refine (mE l _ _ hl ⟨by omega,by omega⟩ (λn hn=>?_)) | intro _)
  rename_i n1 hn1
  conv=>whnf
  have h:=int32 (k:=n.tmod 32) ⟨by omega,by omega⟩
  generalize n.tmod 32=k at h ⊢
  replace hn1:0≤n1.tmod 8∧n1.tmod 8<8:=by omega
  clear hn
  rcases h with rfl | rfl | rfl | rfl | rfl | rfl | rfl | rfl | rfl | rfl | rfl | rfl | rfl | rfl | rfl | rfl | rfl | rfl | rfl | rfl | rfl | rfl | rfl | rfl | rfl | rfl | rfl | rfl | rfl | rfl | rfl | rfl
  all_goals
    repeat' ((conv=>whnf);first | exact zf | refine zm ?_ | refine zr0 ?_ | refine (mE l _ _ hl ⟨by omega,by omega⟩ (λn hn=>?_)) | refine (j3 l _ _ _ _ (by (try simp only [aL,aV,ak]);omega) ?_) | refine (E3 l _ _ hl ⟨by omega,by omega⟩ (by (try simp only [aL,aV,ak]);omega) (λn hn=>?_)) | refine (Lk l _ _ hl ⟨by omega,by omega⟩ (by (try simp only [aL,aV,ak]);omega) (λn hn=>?_)) | refine (Cu l _ _ _ (by (try simp only [aL,aV,ak]);omega) ?_) | refine zi0 ?_ | refine (S5 (by omega) (by omega) (by omega) (by omega) (by omega) (λx hx=>?_)) | refine aX (λhb=>?_) (λhb=>?_) | intro _)
  all_goals conv=>whnf
  all_goals first
    | (refine hk _ _ ⟨_, ?_, by first | (simp only [bO]; rfl) | rfl⟩ ⟨by omega, by omega⟩
       refine .inl ⟨?_,by simp,by first | (simp;done) | (simp;omega),by simp⟩
       repeat (first | exact .nil _ | refine .cons rfl rfl (by first | rfl | (simp [WI];omega)) (by decide) (by decide) ?_ | refine .via (LZ (by omega)) rfl (by decide) (by decide) ?_ | refine .via (QB (by omega)) rfl (by decide) (by decide) ?_ | refine .via (QD (by omega)) rfl (by decide) (by decide) ?_ | refine .via (QC (by omega)) rfl (by decide) (by decide) ?_))
    |(refine hk _ _ ⟨[⟨1,_⟩,⟨19,0⟩],.inr ⟨_,?_,?_,rfl⟩,bO c [⟨1,_⟩] [⟨19,0⟩]⟩ ⟨by omega,by omega⟩<;>omega)
    |fail
def Part (b:Int) (p:List Op):Prop:=
 ∃d,vJ d∧(p=d∨p = [⟨2,1⟩,⟨16,b+2+d.length⟩]++d ∨
  (d.getLast?.map (·.c)=some 19∧p = [⟨20,b+1+d.length⟩]++d ++ [⟨3,1⟩]) ∨
  (d.getLast?.map (·.c)≠some 19∧p = [⟨20,b+3+d.length⟩]++d ++ [⟨21,0⟩,⟨15,b+4+d.length⟩,⟨3,1⟩]))
theorem vJ.ne {d:List Op} (h:vJ d):d≠[]:=by
 rcases h with h | ⟨n,_,_,rfl⟩
 ·exact h.2.1
 ·simp
theorem vJ.len {d:List Op} (h:vJ d):0<d.length∧d.length≤8:=by
 refine ⟨gA.2 h.ne,?_⟩;rcases h with h | ⟨n,_,_,rfl⟩
 ·exact h.2.2.2
 ·simp
theorem DN {K:KT} (l:List Int) (a:Int) (c:List Op) (x y:Int) {rows:List (List D)} (hr:rows=c.map dZ) (hc:c.length≤1000000) (hk:K (.ret (.tu [])) (xG l a (c ++ [⟨x,y⟩]))):Z1 81 [.p 0 0,.d (.int .i64 x),.d (.int .i64 y)] [.cells [.d (.sl 1 (eJ l)),.d (.int .i64 a),.os 1],.rows 2 rows] K:=by
 subst hr;exact j3 l a c x y hc hk
theorem vJ.last {d:List Op} (h:vJ d):∃o,d.getLast? = some o∧∀c:List Op,((c++d).map dZ)[(((c++d).map dZ).length - 1:Int).toNat]? = some (dZ o):=by
 have hl:=h.len;refine ⟨d.getLast h.ne,List.getLast?_eq_some_getLast h.ne,λc=>?_⟩;have e:((((c++d).map dZ).length:Int) - 1).toNat=(c++d).length - 1:=by simp only [aI];omega
 rw [e,aC,aY (by rw [aL];omega),aL,show c.length+d.length - 1 - c.length=d.length - 1 by omega,List.getLast_eq_getElem,aB (by omega)];rfl
theorem xR (c d:List Op) (x:Op):((c++([x]++d)).map dZ)[c.length]? = some (dZ x):=by simp
theorem w8 (c d:List Op) (x y:Op):((c++([x]++d)).map dZ).set c.length (dZ y)=(c++([y]++d)).map dZ:=by
 rw [bY,bY,List.set_append_right _ _ (by simp)];simp
theorem nH {K:KT} (l:List Int) (a:Int) (c:List Op) (ab:Int) (hl:pM l) (ha:0≤a∧a<10000) (hc:c.length≤10000) (hab:0≤ab∧ab<3)
    (hk:∀a' c',(∃p,Part c.length p∧c'=c++p)→a≤a'∧a'≤a+20→K (.ret (.tu [])) (xG l a' c')):Z1 80 [.p 0 0,.d (.int .i64 ab)] (xG l a c) K:=by
  have ib:(c.map dZ).length=c.length:=by simp
  refine sh0 Tryz.f80 ?_
  repeat' ((conv=>whnf);first | exact zf | refine zm ?_ | refine zr0 ?_ | refine (mE l _ _ hl ⟨by omega,by omega⟩ (λn hn=>?_)) | intro _)
  refine aX (λhb=>?_) (λhb=>?_)
  · skip
    repeat' ((conv=>whnf);first | exact zf | refine zm ?_ | refine zr0 ?_ | refine (j3 l _ _ _ _ (by (try simp only [aL,aV,ak]);omega) ?_) | refine (Bs l _ _ _ hl ⟨by omega,by omega⟩ (by (try simp only [aL,aV,ak]);omega) hab (λa' c' hd ha'=>?_)) | intro _)
    obtain ⟨d,hd,rfl⟩:=hd
    obtain ⟨hd1,hd2⟩:=hd.len
    obtain ⟨o,ho,hrow⟩:=hd.last
    have hrow:=hrow (c ++ [(⟨20,0⟩:Op)])
    have hlen:((c ++ [(⟨20,0⟩:Op)]++d).map dZ).length=c.length+1+d.length:=by simp only [aI,aL,aV,ak]
    have hX:(((c ++ [(⟨20,0⟩:Op)]++d).map dZ).length:Int)=c.length+1+d.length:=by rw [hlen];omega
    have hci:((((c.map dZ).length:Nat):Int)).toNat=c.length:=by rw [Int.toNat_natCast,ib]
    cases h19:(o.c==19) with
    |true=>
      have hth:d.getLast?.map (·.c)=some 19:=by rw [ho];simpa using h19
      repeat' ((conv=>whnf);first | exact zf | refine zm ?_ | refine zi0 ?_ | intro _)
      refine ⟨dZ o,hrow,?_⟩
      repeat' ((conv=>whnf);first | exact zf | refine zm ?_ | refine (ft h19 ?_) | intro _)
      conv=>whnf
      refine ⟨dZ (⟨20,0⟩:Op),by rw [hci,bO];exact xR c d _,⟨rfl,rfl,rfl⟩,?_⟩
      have hs:((c ++ [(⟨20,0⟩:Op)]++d).map dZ).set (((c.map dZ).length:Nat):Int).toNat (dZ (⟨20,(((c ++ [(⟨20,0⟩:Op)]++d).map dZ).length:Int)⟩:Op))=(c++([(⟨20,(c.length:Int)+1+d.length⟩:Op)]++d)).map dZ:=by
        rw [hci,hX,bO]
        exact w8 c d _ _
      repeat' ((conv=>whnf);first | exact zf | refine zm ?_ | refine zr0 ?_ | refine (DN l _ _ _ _ hs (by (try simp only [aL,aV,ak]);omega) ?_) | intro _)
      conv=>whnf
      exact hk _ _ ⟨_,⟨d,hd,.inr (.inr (.inl ⟨hth,rfl⟩))⟩,by simp only [bO]⟩ ⟨by omega,by omega⟩
    |false=>
      have hth:d.getLast?.map (·.c)≠some 19:=by rw [ho];simpa using h19
      have hlen2:((c ++ [(⟨20,0⟩:Op)]++d ++ [(⟨21,0⟩:Op)]).map dZ).length=c.length+2+d.length:=by simp only [aI,aL,aV,ak];omega
      have hX2:(((c ++ [(⟨20,0⟩:Op)]++d ++ [(⟨21,0⟩:Op)]).map dZ).length:Int)+2=c.length+4+d.length:=by rw [hlen2];omega
      repeat' ((conv=>whnf);first | exact zf | refine zm ?_ | refine zi0 ?_ | intro _)
      refine ⟨dZ o,hrow,?_⟩
      repeat' ((conv=>whnf);first | exact zf | refine zm ?_ | refine (ga h19 ?_) | refine zr0 ?_ | refine (j3 l _ _ _ _ (by (try simp only [aL,aV,ak]);omega) ?_) | refine zi0 ?_ | intro _)
      conv=>whnf
      have hs:((c ++ [(⟨20,0⟩:Op)]++d ++ [(⟨21,0⟩:Op)] ++ [(⟨15,(((c ++ [(⟨20,0⟩:Op)]++d ++ [(⟨21,0⟩:Op)]).map dZ).length:Int)+2⟩:Op)]).map dZ).set (((c.map dZ).length:Nat):Int).toNat (dZ (⟨20,(((c ++ [(⟨20,0⟩:Op)]++d ++ [(⟨21,0⟩:Op)] ++ [(⟨15,(((c ++ [(⟨20,0⟩:Op)]++d ++ [(⟨21,0⟩:Op)]).map dZ).length:Int)+2⟩:Op)]).map dZ).length:Int)⟩:Op))=(c++([(⟨20,(c.length:Int)+3+d.length⟩:Op)]++(d++([(⟨21,0⟩:Op)] ++ [(⟨15,(c.length:Int)+4+d.length⟩:Op)])))).map dZ:=by
        rw [hci,hX2]
        have e:(((c ++ [(⟨20,0⟩:Op)]++d ++ [(⟨21,0⟩:Op)] ++ [(⟨15,(c.length:Int)+4+d.length⟩:Op)]).map dZ).length:Int)=c.length+3+d.length:=by simp only [aI,aL,aV,ak];omega
        rw [e]
        simp only [bO]
        exact w8 c _ _ _
      refine ⟨dZ (⟨20,0⟩:Op),by rw [hci];simp only [bO];exact xR c _ _,⟨rfl,rfl,rfl⟩,?_⟩
      repeat' ((conv=>whnf);first | exact zf | refine zm ?_ | refine zr0 ?_ | refine (DN l _ _ _ _ hs (by (try simp only [aL,aV,ak]);omega) ?_) | intro _)
      conv=>whnf
      exact hk _ _ ⟨_,⟨d,hd,.inr (.inr (.inr ⟨hth,rfl⟩))⟩,by simp only [bO,List.cons_append,List.nil_append]⟩ ⟨by omega,by omega⟩
  · refine aX (λhb2=>?_) (λhb2=>?_)
    · skip
      repeat' ((conv=>whnf);first | exact zf | refine zm ?_ | refine zr0 ?_ | refine (Cu l _ _ _ (by (try simp only [aL,aV,ak]);omega) ?_) | refine (j3 l _ _ _ _ (by (try simp only [aL,aV,ak]);omega) ?_) | refine (Bs l _ _ _ hl ⟨by omega,by omega⟩ (by (try simp only [aL,aV,ak]);omega) hab (λa' c' hd ha'=>?_)) | intro _)
      obtain ⟨d,hd,rfl⟩:=hd
      obtain ⟨hd1,hd2⟩:=hd.len
      have hlen:((c ++ [(⟨2,1⟩:Op)] ++ [(⟨16,0⟩:Op)]++d).map dZ).length=c.length+2+d.length:=by simp only [aI,aL,aV,ak]
      have hX:(((c ++ [(⟨2,1⟩:Op)] ++ [(⟨16,0⟩:Op)]++d).map dZ).length:Int)=c.length+2+d.length:=by rw [hlen];omega
      have hci:((((c.map dZ).length:Nat):Int)+1).toNat=(c ++ [(⟨2,1⟩:Op)]).length:=by rw [ib,aL];simp only [aV,ak];omega
      have hs:((c ++ [(⟨2,1⟩:Op)] ++ [(⟨16,0⟩:Op)]++d).map dZ).set ((((c.map dZ).length:Nat):Int)+1).toNat (dZ (⟨16,(((c ++ [(⟨2,1⟩:Op)] ++ [(⟨16,0⟩:Op)]++d).map dZ).length:Int)⟩:Op))=(c++(([⟨2,1⟩,⟨16,(c.length:Int)+2+d.length⟩]:List Op)++d)).map dZ:=by
        rw [hci,hX,bO (c ++ [(⟨2,1⟩:Op)])]
        rw [w8 (c ++ [(⟨2,1⟩:Op)]) d _ _,bO]
        rfl
      repeat' ((conv=>whnf);first | exact zf | refine zm ?_ | refine zi0 ?_ | intro _)
      conv=>whnf
      refine ⟨dZ (⟨16,0⟩:Op),by rw [hci,bO (c ++ [(⟨2,1⟩:Op)])];exact xR (c ++ [(⟨2,1⟩:Op)]) d _,⟨rfl,rfl,rfl⟩,?_⟩
      repeat' ((conv=>whnf);first | exact zf | refine zm ?_ | intro _)
      conv=>whnf
      have h2:=hk a' (c++(([⟨2,1⟩,⟨16,(c.length:Int)+2+d.length⟩]:List Op)++d)) ⟨_,⟨d,hd,.inr (.inl rfl)⟩,rfl⟩ ⟨by omega,by omega⟩
      unfold xG at h2
      rw [←hs] at h2
      exact h2
    · skip
      repeat' ((conv=>whnf);first | exact zf | refine zm ?_ | refine zr0 ?_ | refine (Bs l _ _ _ hl ⟨by omega,by omega⟩ (by (try simp only [aL,aV,ak]);omega) hab (λa' c' hd ha'=>?_)) | intro _)
      conv=>whnf
      obtain ⟨d,hd,rfl⟩:=hd
      exact hk _ _ ⟨d,⟨d,hd,.inl rfl⟩,rfl⟩ ⟨by omega,by omega⟩
end Go.Proofs.YtjpgfgajkjhonaaGreatDoor