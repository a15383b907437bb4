/- A store is coherent: its things, and the names of each label. Conditions: none. -/
import Derived.Test.YtjpgfgajkjhonaaGreatDoorQEBF
import Derived.Test.YtjpgfgajkjhonaaGreatDoorQEAY
import Derived.Test.YtjpgfgajkjhonaaGreatDoorQEAV
import Derived.Test.YtjpgfgajkjhonaaGreatDoorQEAZ
import Derived.Test.YtjpgfgajkjhonaaGreatDoorQEBA
set_option maxRecDepth 100000
namespace Go.Proofs.YtjpgfgajkjhonaaGreatDoor
open Go.Vx
set_option maxRecDepth 100000
structure R6 (s:bq):Prop where
  nd:(names s).Nodup
  ld:(s.nm.map (·.1)).Nodup
  up:∀p∈s.th,∃e∈s.nm,e.1=p.2.l∧∃k∈e.2.2,p.1=cr k
  dn:∀e∈s.nm,∀k∈e.2.2,∃p∈s.th,p.1=cr k∧p.2.l=e.1
  gd:∀p∈s.th,∃k,p.1=cr k∧gK k
section
variable {mx:Int} {q n:Nat} {t:Th} {s:bq} {now:Int} {b:Option Nat}
theorem BH {nm:List UInt8} {o:Ob}:∀{l:List (List UInt8×Ob)} {i:Nat},bN nm l=some (i,o)→l[i]? = some (nm,o)
 |[],i,h=>by cases h
 |x :: l,i,h=>by
  have h':(if nm=x.1 then some (0,x.2) else (bN nm l).map λx=>(x.1+1,x.2))=some (i,o):=h
  by_cases hk:nm=x.1
  ·rw [if_pos hk,aF,ck] at h';obtain ⟨rfl,rfl⟩:=h';rw [hk];rfl
  ·rw [if_neg hk] at h';cases hl:bN nm l with
   |none=>rw [hl] at h';cases h'
   |some y=>
    obtain ⟨j,o'⟩:=y;rw [hl] at h';simp only [bF,aF,ck] at h';obtain ⟨rfl,rfl⟩:=h';show l[j]? = _;exact BH hl
theorem uL {nm:List UInt8}:∀{l:List (List UInt8×Ob)},bN nm l=none→nm∉l.map (·.1)
 |[],_=>by simp
 |x :: l,h=>by
  have h':(if nm=x.1 then some (0,x.2) else (bN nm l).map λx=>(x.1+1,x.2))=none:=h
  by_cases hk:nm=x.1
  ·rw [if_pos hk] at h';cases h'
  ·rw [if_neg hk] at h';cases hl:bN nm l with
   |some y=>rw [hl] at h';cases h'
   |none=>
    have:=uL hl;rw [cS,ae]
    rintro (h | h)
    ·exact hk h
    ·exact this h
theorem LD {a l:Lb}:(a.s=l.s∧a.i=l.i)↔a=l:=by
 constructor
 ·rintro ⟨h1,h2⟩
  cases a;cases l;cases h1;cases h2;rfl
 ·rintro rfl;exact ⟨rfl,rfl⟩
theorem si (l:Lb) (kp:List Nat) (b:Option Nat):pe [] l kp b = [(l,b,[kp])]:=rfl
theorem nI (p:Lb×Option Nat×List (List Nat)) (r:Bv) (l:Lb) (kp:List Nat) (b:Option Nat):pe (p :: r) l kp b=if p.1=l then (p.1,b,tW p.2.2 kp) :: r else p :: pe r l kp b:=by
 unfold pe;rw [show qS l (p :: r)=if p.1.s=l.s∧p.1.i=l.i then some 0 else (qS l r).map (· + 1) from rfl]
 by_cases h:p.1=l
 ·rw [if_pos (LD.2 h),if_pos h];rfl
 ·rw [if_neg (λe=>h (LD.1 e)),if_neg h];cases qS l r with
  |none=>rfl
  |some i=>rfl
theorem Bq {l:Lb} {kp:List Nat}:∀{nm:Bv} {e:Lb×Option Nat×List (List Nat)},e∈nm→∃e'∈pe nm l kp b,e'.1=e.1∧∀k∈e.2.2,k∈e'.2.2
 |[],e,h=>by cases h
 |p :: r,e,h=>by
  rw [nI]
  by_cases hp:p.1=l
  ·rw [if_pos hp];rcases ae.1 h with h1 | h1
   ·subst h1;exact ⟨(e.1,b,tW e.2.2 kp),by simp,rfl,λk hk=>o6.2 (.inr hk)⟩
   ·exact ⟨e,by simp [h1],rfl,λk hk=>hk⟩
  ·rw [if_neg hp];rcases ae.1 h with h1 | h1
   ·subst h1;exact ⟨e,by simp,rfl,λk hk=>hk⟩
   ·obtain ⟨e',a1,a2,a3⟩:=Bq (l:=l) (kp:=kp) h1;exact ⟨e',by simp [a1],a2,a3⟩
theorem yC {l:Lb} {kp:List Nat}:∀{nm:Bv},∃e'∈pe nm l kp b,e'.1=l∧kp∈e'.2.2
 |[]=>⟨(l,b,[kp]),by rw [si];simp,rfl,by simp⟩
 |p :: r=>by
  rw [nI]
  by_cases hp:p.1=l
  ·rw [if_pos hp];exact ⟨(p.1,b,tW p.2.2 kp),by simp,hp,o6.2 (.inl rfl)⟩
  ·rw [if_neg hp];obtain ⟨e',a1,a2,a3⟩:=yC (l:=l) (kp:=kp) (nm:=r);exact ⟨e',by simp [a1],a2,a3⟩
theorem Bs {l:Lb} {kp:List Nat}:∀{nm:Bv} {e:Lb×Option Nat×List (List Nat)} {k:List Nat},e∈pe nm l kp b→k∈e.2.2→(k=kp∧e.1=l)∨∃e'∈nm,e'.1=e.1∧k∈e'.2.2
  |[],e,k,h,hk=>by
    rw [si] at h
    rw [aO.1 h] at hk ⊢
    exact .inl ⟨aO.1 hk,rfl⟩
  |p :: r,e,k,h,hk=>by
    rw [nI] at h
    by_cases hp:p.1=l
    · rw [if_pos hp] at h
      rcases ae.1 h with h1 | h1
      · rw [h1] at hk ⊢
        rcases o6.1 hk with h2 | h2
        · exact .inl ⟨h2,hp⟩
        · exact .inr ⟨p,by simp,rfl,h2⟩
      · exact .inr ⟨e,by simp [h1],rfl,hk⟩
    · rw [if_neg hp] at h
      rcases ae.1 h with h1 | h1
      · rw [h1] at hk ⊢
        exact .inr ⟨p,by simp,rfl,hk⟩
      · rcases Bs h1 hk with h2 | ⟨e',h2,h3,h4⟩
        · exact .inl h2
        · exact .inr ⟨e',by simp [h2],h3,h4⟩
theorem Br {l:Lb} {kp:List Nat}:∀{nm:Bv},(nm.map (·.1)).Nodup→((pe nm l kp b).map (·.1)).Nodup∧∀x∈(pe nm l kp b).map (·.1),x=l∨x∈nm.map (·.1)
  |[],_=>by rw [si];exact ⟨by simp,λx hx=>.inl (by simpa using hx)⟩
  |p :: r,h=>by
    rw [nI]
    by_cases hp:p.1=l
    · rw [if_pos hp]
      exact ⟨h,λx hx=>.inr hx⟩
    · rw [if_neg hp]
      rw [cS,cw] at h
      obtain ⟨a,c⟩:=Br (l:=l) (kp:=kp) h.2
      refine ⟨?_,λx hx=>?_⟩
      · rw [cS,cw]
        refine ⟨λhx=>?_,a⟩
        rcases c _ hx with h1 | h1
        · exact hp h1
        · exact h.1 h1
      · rw [cS,ae] at hx ⊢
        rcases hx with h1 | h1
        · exact .inr (.inl h1)
        · rcases c _ h1 with h2 | h2
          · exact .inl h2
          · exact .inr (.inr h2)
theorem R6.add {kp:List Nat} {o:Ob} (h:R6 s) (hk:gK kp) (b:Option Nat):R6 (ij s kp o b):=by
 unfold ij;cases hb:jv o.l&&(bN (cr kp) s.th).isNone with
 |false=>exact h
 |true=>
  rw [cond_true];rw [aS,Option.isNone_iff_eq_none] at hb;have hn:=uL hb.2;unfold qZ;refine ⟨?_,(Br h.ld).1,λx hx=>?_,λe he k hk=>?_,λx hx=>?_⟩
  ·unfold names;rw [bn,List.nodup_append];refine ⟨h.nd,by simp,λa ha c hc=>?_⟩;have hc:c=cr kp:=by simpa using hc
   rintro rfl
   rw [hc] at ha;exact hn ha
  ·rcases aT.1 hx with h1 | h1
   ·obtain ⟨e,he,a1,k,hk,a2⟩:=h.up x h1;obtain ⟨e',c1,c2,c3⟩:=Bq (l:=o.l) (kp:=kp) (b:=b) he;exact ⟨e',c1,c2.trans a1,k,c3 k hk,a2⟩
   ·rw [aO.1 h1];obtain ⟨e',c1,c2,c3⟩:=yC (l:=o.l) (kp:=kp) (b:=b) (nm:=s.nm);exact ⟨e',c1,c2,kp,c3,rfl⟩
  ·rcases Bs he hk with ⟨rfl,h2⟩ | ⟨e',h1,h2,h3⟩
   ·exact ⟨(cr k,o),by simp,rfl,h2.symm⟩
   ·obtain ⟨x,hx,a1,a2⟩:=h.dn e' h1 k h3;exact ⟨x,by simp [hx],a1,a2.trans h2⟩
  ·rcases aT.1 hx with h1 | h1
   ·exact h.gd x h1
   ·rw [aO.1 h1];exact ⟨kp,rfl,hk⟩
theorem KC:R6 ⟨[],[]⟩:=⟨by simp [names],by simp,λp hp=>(by cases hp),λp hp=>(by cases hp),λp hp=>by cases hp⟩
end
end Go.Proofs.YtjpgfgajkjhonaaGreatDoor
namespace Go.Proofs.YtjpgfgajkjhonaaGreatDoor
open Go.Vx
set_option maxRecDepth 100000
def Nv (c:Int):Option (Int×Int×Int):=(inf c).map λi=>(i.ar,bif c==17 then i.po+1 else i.po,i.pu)
def PD (c:Int):Bool:=c==15||(c==16||(c==18||(c==19||(c==20||(c==21||(c==24||c==31))))))
def T6 (ar a:Int):Bool:=
 bif ar==0 then a==0 else bif ar==1 then decide (0≤a)&&decide (a<16) else bif ar==2 then decide (0≤a)&&decide (a<8) else bif ar==4 then decide (0≤a)&&decide (a<3) else bif ar==5 then decide (0≤a)&&decide (a≤63) else false
inductive KZ:Int→List Op→Int→Prop
  |nil (h:Int):KZ h [] h
  |cons {c a ar t p h h':Int} {r:List Op} (hk:Nv c=some (ar,t,p)) (hc:PD c=false) (ha:T6 ar a=true) (h1:t≤h) (h2:h - t+p≤8) (hr:KZ (h - t+p) r h'):KZ h (⟨c,a⟩ :: r) h'
def ti (d:List Op):Prop:=(KZ 0 d 0∧d≠[]∧(d.getLast?.map (·.c))≠some 19∧d.length≤8)∨∃n:Int,0≤n∧n<8∧d = [⟨1,n⟩,⟨19,0⟩]
def vT (l:List Int) (a:Int) (c:List Op):H:=[.cells [.d (.sl 1 (dz l)),.d (.int .i64 a),.os 1],.rows 2 (c.map dN)]
def nv (l:List Int):Prop:=∀x∈l,0≤x∧x≤255
theorem zI {K:Out→H→Prop} (l:List Int) (a:Int) (c:List Op) (hl:nv l) (ha:0≤a∧a<1000000) (hk:∀n,0≤n∧n≤255→K (.ret (.d (.int .i64 n))) (vT l (a+1) c)):Sat Tryz.prog 82 [.p 0 0] (vT l a c) K:=by
 have hrl:=iP l;refine s82.go (keep:=false) rfl ?_
 repeat' ((conv=>whnf);first | exact zf | refine zm ?_ | refine (.inl ⟨by unfold eN;omega,?_⟩) | intro _)
 refine aW (λhgt=>?_) (λhle=>?_)
 ·skip
  repeat' ((conv=>whnf);first | exact zf | refine zm ?_ | intro _)
  exact hk 0 ⟨by omega,by omega⟩
 ·have hle:a+1≤l.length:=by have:=of_decide_eq_false hle;omega
  obtain ⟨x,hx⟩:∃x,l[a.toNat]? = some x:=⟨_,aB (by omega)⟩
  have hb:=hl x (aH hx)
  repeat' ((conv=>whnf);first | exact zf | refine zm ?_ | refine (.inl ⟨by unfold eN;omega,?_⟩) | intro _)
  refine ⟨[D.int .u8 x],⟨by omega,by rw [show a+1 - 1=a by omega];simp [dz,hx],rfl⟩,?_⟩
  repeat' ((conv=>whnf);first | exact zf | refine zm ?_ | refine (.inl ⟨by unfold eN;omega,?_⟩) | intro _)
  exact hk x hb
theorem jD {K:Out→H→Prop} (l:List Int) (a:Int) (c:List Op) (x y:Int) (hc:c.length≤1000000) (hk:K (.ret (.tu [])) (vT l a (c ++ [⟨x,y⟩]))):Sat Tryz.prog 81 [.p 0 0,.d (.int .i64 x),.d (.int .i64 y)] (vT l a c) K:=by
 have iH:(c.map dN).length=c.length:=by simp
 have he:(c ++ [(⟨x,y⟩:Op)]).map dN=c.map dN ++ [[.int .i64 x,.int .i64 y]]:=by simp [dN]
 unfold vT at hk;rw [he] at hk;refine s81.go (keep:=false) rfl ?_
 repeat' ((conv=>whnf);first | exact zf | refine zm ?_ | intro _)
 exact hk
theorem K4 {n:Int} (h:0≤n∧n≤255) (k:Int) (hk:0<k):0≤n.tmod k∧n.tmod k<k:=by
 rw [bE h.1];exact ⟨Int.emod_nonneg _ (by omega),Int.emod_lt_of_pos _ hk⟩
theorem C8 {K:Out→H→Prop} (l:List Int) (a:Int) (c:List Op) (hl:nv l) (ha:0≤a∧a<1000000) (hc:c.length≤1000000) (hk:∀n,0≤n∧n<8→K (.ret (.tu [])) (vT l (a+1) (c ++ [⟨1,n⟩]))):Sat Tryz.prog 192 [.p 0 0] (vT l a c) K:=by
 refine s192.go (keep:=false) rfl ?_
 repeat' ((conv=>whnf);first | exact zf | refine zm ?_ | refine (.inr ?_:(∃_,_)∨_) | refine (zI l _ _ hl ha (λn hn=>?_)) | refine (jD l _ _ _ _ hc ?_) | intro _)
 exact hk _ (K4 ‹_› 8 (by decide))
theorem JS {K:Out→H→Prop} (l:List Int) (a:Int) (c:List Op) (hl:nv l) (ha:0≤a∧a<1000000) (hc:c.length≤1000000) (hk:∀n,8≤n∧n<16→K (.ret (.tu [])) (vT l (a+1) (c ++ [⟨1,n⟩]))):Sat Tryz.prog 193 [.p 0 0] (vT l a c) K:=by
 refine s193.go (keep:=false) rfl ?_
 repeat' ((conv=>whnf);first | exact zf | refine zm ?_ | refine (.inr ?_:(∃_,_)∨_) | refine (zI l _ _ hl ha (λn hn=>?_)) | refine (jD l _ _ _ _ hc ?_) | refine (.inl ⟨by have:=K4 ‹_› 8 (by decide);unfold eN;omega,?_⟩) | intro _)
 exact hk _ (by have:=K4 hn 8 (by decide);omega)
theorem BI {K:Out→H→Prop} (l:List Int) (a:Int) (c:List Op) (x:Int) (hc:c.length≤1000000) (hk:K (.ret (.tu [])) (vT l a (c ++ [⟨2,x⟩]))):Sat Tryz.prog 126 [.p 0 0,.d (.int .i64 x)] (vT l a c) K:=by
 refine s126.go (keep:=false) rfl ?_
 repeat' ((conv=>whnf);first | exact zf | refine zm ?_ | refine (.inr ?_:(∃_,_)∨_) | refine (jD l _ _ _ _ hc ?_) | intro _)
 exact hk
theorem lJ {K:Out→H→Prop} (l:List Int) (a:Int) (c:List Op) (hl:nv l) (ha:0≤a∧a<1000000)
  (hk:∀n,0≤n∧n≤255∧0≤n.tmod 8∧n.tmod 8<8∧0≤n.tmod 7∧n.tmod 7<7∧0≤n.tmod 2∧n.tmod 2<2∧0≤n.tmod 4∧n.tmod 4<4∧0≤n.tmod 32∧n.tmod 32<32→K (.ret (.d (.int .i64 n))) (vT l (a+1) c)):Sat Tryz.prog 82 [.p 0 0] (vT l a c) K:=by
 refine zI l a c hl ha λn hn=>hk n ?_;have h8:=K4 hn 8 (by decide);have h7:=K4 hn 7 (by decide);have h2:=K4 hn 2 (by decide);have h4:=K4 hn 4 (by decide);have h32:=K4 hn 32 (by decide);exact ⟨hn.1,hn.2,h8.1,h8.2,h7.1,h7.2,h2.1,h2.2,h4.1,h4.2,h32.1,h32.2⟩
theorem Pn {x0 x1 x2 x3 i:Int} {Q:Prop} (hi:0≤i∧i<4) (h0:0≤x0∧x0<8) (h1:0≤x1∧x1<8) (h2:0≤x2∧x2<8) (h3:0≤x3∧x3<8)
  (hQ:∀x,0≤x∧x<8→[[D.int .i64 x0],[D.int .i64 x1],[D.int .i64 x2],[D.int .i64 x3]][i.toNat]? = some [D.int .i64 x]→Q):Q:=by
 have h:i=0∨i=1∨i=2∨i=3:=by omega
 rcases h with rfl | rfl | rfl | rfl
 ·exact hQ x0 h0 rfl
 ·exact hQ x1 h1 rfl
 ·exact hQ x2 h2 rfl
 ·exact hQ x3 h3 rfl
theorem Pm {x0 x1 x2 x3 i:Int} {K:List D→Prop} (hi:0≤i∧i<4) (h0:0≤x0∧x0<8) (h1:0≤x1∧x1<8) (h2:0≤x2∧x2<8) (h3:0≤x3∧x3<8)
  (hQ:∀x,0≤x∧x<8→K [D.int .i64 x]):∃row,(0≤i∧[[D.int .i64 x0],[D.int .i64 x1],[D.int .i64 x2],[D.int .i64 x3]][i.toNat]? = some row∧Nat.beq 1 1=true)∧K row:=
 Pn hi h0 h1 h2 h3 λx hx hr=>⟨_,⟨hi.1,hr,rfl⟩,hQ x hx⟩
theorem JA {c:Int} (h:7≤c∧c≤13):Nv c=some (0,2,1)∧PD c=false:=by
 have:c=7∨c=8∨c=9∨c=10∨c=11∨c=12∨c=13:=by omega
 rcases this with rfl | rfl | rfl | rfl | rfl | rfl | rfl<;>exact ⟨rfl,rfl⟩
theorem MV {c:Int} (h:22≤c∧c≤23):Nv c=some (0,2,1)∧PD c=false:=by
 have:c=22∨c=23:=by omega
 rcases this with rfl | rfl<;>exact ⟨rfl,rfl⟩
theorem MX {c:Int} (h:25≤c∧c≤26):Nv c=some (0,0,1)∧PD c=false:=by
 have:c=25∨c=26:=by omega
 rcases this with rfl | rfl<;>exact ⟨rfl,rfl⟩
theorem MW {c:Int} (h:42≤c∧c≤43):Nv c=some (0,1,0)∧PD c=false:=by
 have:c=42∨c=43:=by omega
 rcases this with rfl | rfl<;>exact ⟨rfl,rfl⟩
theorem KZ.via {c a ar t p h h':Int} {r:List Op} (hk:Nv c=some (ar,t,p)∧PD c=false) (ha:T6 ar a=true) (h1:t≤h) (h2:h - t+p≤8) (hr:KZ (h - t+p) r h'):KZ h (⟨c,a⟩ :: r) h':=.cons hk.1 hk.2 ha h1 h2 hr
end Go.Proofs.YtjpgfgajkjhonaaGreatDoor
namespace Go.Proofs.YtjpgfgajkjhonaaGreatDoor
open Go.Vx
set_option maxRecDepth 100000
theorem int32 {k:Int} (h:0≤k∧k<32):k=0∨k=1∨k=2∨k=3∨k=4∨k=5∨k=6∨k=7∨k=8∨k=9∨k=10∨k=11∨k=12∨k=13∨k=14∨k=15∨k=16∨k=17∨k=18∨k=19∨k=20∨k=21∨k=22∨k=23∨k=24∨k=25∨k=26∨k=27∨k=28∨k=29∨k=30∨k=31:=by omega
set_option maxHeartbeats 4000000 in
theorem AH {K:Out→H→Prop} (l:List Int) (a:Int) (c:List Op) (ab:Int) (hl:nv l) (ha:0≤a∧a<100000) (hc:c.length≤100000) (hab:0≤ab∧ab<3)
    (hk:∀a' c',(∃d,ti d∧c'=c++d)→a≤a'∧a'≤a+8→K (.ret (.tu [])) (vT l a' c')):Sat Tryz.prog 125 [.p 0 0,.d (.int .i64 ab)] (vT l a c) K:=by
  refine s125.go (keep:=false) rfl ?_
  repeat' ((conv=>whnf);first | exact zf | refine zm ?_ | refine (.inr ?_:(∃_,_)∨_) | refine (lJ l _ _ hl ⟨by omega,by omega⟩ (λn hn=>?_)) | intro _)
  rename_i n1 hn1
  conv=>whnf
  have h:=int32 (k:=n.tmod 32) ⟨by omega,by omega⟩
  generalize n.tmod 32=k at h ⊢
  replace hn1:0≤n1.tmod 8∧n1.tmod 8<8:=by omega
  clear hn
  rcases h with rfl | rfl | rfl | rfl | rfl | rfl | rfl | rfl | rfl | rfl | rfl | rfl | rfl | rfl | rfl | rfl | rfl | rfl | rfl | rfl | rfl | rfl | rfl | rfl | rfl | rfl | rfl | rfl | rfl | rfl | rfl | rfl
  all_goals
    repeat' ((conv=>whnf);first | exact zf | refine zm ?_ | refine (.inr ?_:(∃_,_)∨_) | refine (lJ l _ _ hl ⟨by omega,by omega⟩ (λn hn=>?_)) | refine (jD l _ _ _ _ (by (try simp only [aK,aU,af]);omega) ?_) | refine (C8 l _ _ hl ⟨by omega,by omega⟩ (by (try simp only [aK,aU,af]);omega) (λn hn=>?_)) | refine (JS l _ _ hl ⟨by omega,by omega⟩ (by (try simp only [aK,aU,af]);omega) (λn hn=>?_)) | refine (BI l _ _ _ (by (try simp only [aK,aU,af]);omega) ?_) | refine (.inl ⟨by unfold eN;omega,?_⟩) | refine (Pm (by omega) (by omega) (by omega) (by omega) (by omega) (λx hx=>?_)) | refine aW (λhb=>?_) (λhb=>?_) | intro _)
  all_goals conv=>whnf
  all_goals first
    | (refine hk _ _ ⟨_, ?_, by first | (simp only [bK]; rfl) | rfl⟩ ⟨by omega, by omega⟩
       refine .inl ⟨?_,by simp,by first | (simp;done) | (simp;omega),by simp⟩
       repeat (first | exact .nil _ | refine .cons rfl rfl (by first | rfl | (simp [T6];omega)) (by decide) (by decide) ?_ | refine .via (JA (by omega)) rfl (by decide) (by decide) ?_ | refine .via (MV (by omega)) rfl (by decide) (by decide) ?_ | refine .via (MX (by omega)) rfl (by decide) (by decide) ?_ | refine .via (MW (by omega)) rfl (by decide) (by decide) ?_))
    |(refine hk _ _ ⟨[⟨1,_⟩,⟨19,0⟩],.inr ⟨_,?_,?_,rfl⟩,bK c [⟨1,_⟩] [⟨19,0⟩]⟩ ⟨by omega,by omega⟩<;>omega)
    |fail
end Go.Proofs.YtjpgfgajkjhonaaGreatDoor
namespace Go.Proofs.YtjpgfgajkjhonaaGreatDoor
open Go.Vx
set_option maxRecDepth 100000
def Part (b:Int) (p:List Op):Prop:=
 ∃d,ti d∧(p=d∨p = [⟨2,1⟩,⟨16,b+2+d.length⟩]++d ∨
  (d.getLast?.map (·.c)=some 19∧p = [⟨20,b+1+d.length⟩]++d ++ [⟨3,1⟩]) ∨
  (d.getLast?.map (·.c)≠some 19∧p = [⟨20,b+3+d.length⟩]++d ++ [⟨21,0⟩,⟨15,b+4+d.length⟩,⟨3,1⟩]))
theorem ti.ne {d:List Op} (h:ti d):d≠[]:=by
 rcases h with h | ⟨n,_,_,rfl⟩
 ·exact h.2.1
 ·simp
theorem ti.len {d:List Op} (h:ti d):0<d.length∧d.length≤8:=by
 refine ⟨fi.2 h.ne,?_⟩;rcases h with h | ⟨n,_,_,rfl⟩
 ·exact h.2.2.2
 ·simp
theorem BW {K:Out→H→Prop} (l:List Int) (a:Int) (c:List Op) (x y:Int) {rows:List (List D)} (hr:rows=c.map dN) (hc:c.length≤1000000) (hk:K (.ret (.tu [])) (vT l a (c ++ [⟨x,y⟩]))):Sat Tryz.prog 81 [.p 0 0,.d (.int .i64 x),.d (.int .i64 y)] [.cells [.d (.sl 1 (dz l)),.d (.int .i64 a),.os 1],.rows 2 rows] K:=by
 subst hr;exact jD l a c x y hc hk
theorem ti.last {d:List Op} (h:ti d):∃o,d.getLast? = some o∧∀c:List Op,((c++d).map dN)[(((c++d).map dN).length - 1:Int).toNat]? = some (dN o):=by
 have hl:=h.len;refine ⟨d.getLast h.ne,List.getLast?_eq_some_getLast h.ne,λc=>?_⟩;have e:((((c++d).map dN).length:Int) - 1).toNat=(c++d).length - 1:=by simp only [aL];omega
 rw [e,aC,aX (by rw [aK];omega),aK,show c.length+d.length - 1 - c.length=d.length - 1 by omega,List.getLast_eq_getElem,aB (by omega)];rfl
theorem vf (c d:List Op) (x:Op):((c++([x]++d)).map dN)[c.length]? = some (dN x):=by simp
theorem uz (c d:List Op) (x y:Op):((c++([x]++d)).map dN).set c.length (dN y)=(c++([y]++d)).map dN:=by
 rw [bn,bn,List.set_append_right _ _ (by simp)];simp
set_option maxHeartbeats 4000000 in
theorem mD {K:Out→H→Prop} (l:List Int) (a:Int) (c:List Op) (ab:Int) (hl:nv l) (ha:0≤a∧a<10000) (hc:c.length≤10000) (hab:0≤ab∧ab<3)
    (hk:∀a' c',(∃p,Part c.length p∧c'=c++p)→a≤a'∧a'≤a+20→K (.ret (.tu [])) (vT l a' c')):Sat Tryz.prog 80 [.p 0 0,.d (.int .i64 ab)] (vT l a c) K:=by
  have iH:(c.map dN).length=c.length:=by simp
  refine s80.go (keep:=false) rfl ?_
  repeat' ((conv=>whnf);first | exact zf | refine zm ?_ | refine (.inr ?_:(∃_,_)∨_) | refine (lJ l _ _ hl ⟨by omega,by omega⟩ (λn hn=>?_)) | intro _)
  refine aW (λhb=>?_) (λhb=>?_)
  · skip
    repeat' ((conv=>whnf);first | exact zf | refine zm ?_ | refine (.inr ?_:(∃_,_)∨_) | refine (jD l _ _ _ _ (by (try simp only [aK,aU,af]);omega) ?_) | refine (AH l _ _ _ hl ⟨by omega,by omega⟩ (by (try simp only [aK,aU,af]);omega) hab (λa' c' hd ha'=>?_)) | intro _)
    obtain ⟨d,hd,rfl⟩:=hd
    obtain ⟨hd1,hd2⟩:=hd.len
    obtain ⟨o,ho,hrow⟩:=hd.last
    have hrow:=hrow (c ++ [(⟨20,0⟩:Op)])
    have hlen:((c ++ [(⟨20,0⟩:Op)]++d).map dN).length=c.length+1+d.length:=by simp only [aL,aK,aU,af]
    have hX:(((c ++ [(⟨20,0⟩:Op)]++d).map dN).length:Int)=c.length+1+d.length:=by rw [hlen];omega
    have hci:((((c.map dN).length:Nat):Int)).toNat=c.length:=by rw [Int.toNat_natCast,iH]
    cases h19:(o.c==19) with
    |true=>
      have hth:d.getLast?.map (·.c)=some 19:=by rw [ho];simpa using h19
      repeat' ((conv=>whnf);first | exact zf | refine zm ?_ | refine (.inl ⟨by unfold eN;omega,?_⟩) | intro _)
      refine ⟨dN o,hrow,?_⟩
      repeat' ((conv=>whnf);first | exact zf | refine zm ?_ | refine (gG h19 ?_) | intro _)
      conv=>whnf
      refine ⟨dN (⟨20,0⟩:Op),by rw [hci,bK];exact vf c d _,⟨rfl,rfl,rfl⟩,?_⟩
      have hs:((c ++ [(⟨20,0⟩:Op)]++d).map dN).set (((c.map dN).length:Nat):Int).toNat (dN (⟨20,(((c ++ [(⟨20,0⟩:Op)]++d).map dN).length:Int)⟩:Op))=(c++([(⟨20,(c.length:Int)+1+d.length⟩:Op)]++d)).map dN:=by
        rw [hci,hX,bK]
        exact uz c d _ _
      repeat' ((conv=>whnf);first | exact zf | refine zm ?_ | refine (.inr ?_:(∃_,_)∨_) | refine (BW l _ _ _ _ hs (by (try simp only [aK,aU,af]);omega) ?_) | intro _)
      conv=>whnf
      exact hk _ _ ⟨_,⟨d,hd,.inr (.inr (.inl ⟨hth,rfl⟩))⟩,by simp only [bK]⟩ ⟨by omega,by omega⟩
    |false=>
      have hth:d.getLast?.map (·.c)≠some 19:=by rw [ho];simpa using h19
      have hlen2:((c ++ [(⟨20,0⟩:Op)]++d ++ [(⟨21,0⟩:Op)]).map dN).length=c.length+2+d.length:=by simp only [aL,aK,aU,af];omega
      have hX2:(((c ++ [(⟨20,0⟩:Op)]++d ++ [(⟨21,0⟩:Op)]).map dN).length:Int)+2=c.length+4+d.length:=by rw [hlen2];omega
      repeat' ((conv=>whnf);first | exact zf | refine zm ?_ | refine (.inl ⟨by unfold eN;omega,?_⟩) | intro _)
      refine ⟨dN o,hrow,?_⟩
      repeat' ((conv=>whnf);first | exact zf | refine zm ?_ | refine (gY h19 ?_) | refine (.inr ?_:(∃_,_)∨_) | refine (jD l _ _ _ _ (by (try simp only [aK,aU,af]);omega) ?_) | refine (.inl ⟨by unfold eN;omega,?_⟩) | intro _)
      conv=>whnf
      have hs:((c ++ [(⟨20,0⟩:Op)]++d ++ [(⟨21,0⟩:Op)] ++ [(⟨15,(((c ++ [(⟨20,0⟩:Op)]++d ++ [(⟨21,0⟩:Op)]).map dN).length:Int)+2⟩:Op)]).map dN).set (((c.map dN).length:Nat):Int).toNat (dN (⟨20,(((c ++ [(⟨20,0⟩:Op)]++d ++ [(⟨21,0⟩:Op)] ++ [(⟨15,(((c ++ [(⟨20,0⟩:Op)]++d ++ [(⟨21,0⟩:Op)]).map dN).length:Int)+2⟩:Op)]).map dN).length:Int)⟩:Op))=(c++([(⟨20,(c.length:Int)+3+d.length⟩:Op)]++(d++([(⟨21,0⟩:Op)] ++ [(⟨15,(c.length:Int)+4+d.length⟩:Op)])))).map dN:=by
        rw [hci,hX2]
        have e:(((c ++ [(⟨20,0⟩:Op)]++d ++ [(⟨21,0⟩:Op)] ++ [(⟨15,(c.length:Int)+4+d.length⟩:Op)]).map dN).length:Int)=c.length+3+d.length:=by simp only [aL,aK,aU,af];omega
        rw [e]
        simp only [bK]
        exact uz c _ _ _
      refine ⟨dN (⟨20,0⟩:Op),by rw [hci];simp only [bK];exact vf c _ _,⟨rfl,rfl,rfl⟩,?_⟩
      repeat' ((conv=>whnf);first | exact zf | refine zm ?_ | refine (.inr ?_:(∃_,_)∨_) | refine (BW l _ _ _ _ hs (by (try simp only [aK,aU,af]);omega) ?_) | intro _)
      conv=>whnf
      exact hk _ _ ⟨_,⟨d,hd,.inr (.inr (.inr ⟨hth,rfl⟩))⟩,by simp only [bK,List.cons_append,List.nil_append]⟩ ⟨by omega,by omega⟩
  · refine aW (λhb2=>?_) (λhb2=>?_)
    · skip
      repeat' ((conv=>whnf);first | exact zf | refine zm ?_ | refine (.inr ?_:(∃_,_)∨_) | refine (BI l _ _ _ (by (try simp only [aK,aU,af]);omega) ?_) | refine (jD l _ _ _ _ (by (try simp only [aK,aU,af]);omega) ?_) | refine (AH l _ _ _ hl ⟨by omega,by omega⟩ (by (try simp only [aK,aU,af]);omega) hab (λa' c' hd ha'=>?_)) | intro _)
      obtain ⟨d,hd,rfl⟩:=hd
      obtain ⟨hd1,hd2⟩:=hd.len
      have hlen:((c ++ [(⟨2,1⟩:Op)] ++ [(⟨16,0⟩:Op)]++d).map dN).length=c.length+2+d.length:=by simp only [aL,aK,aU,af]
      have hX:(((c ++ [(⟨2,1⟩:Op)] ++ [(⟨16,0⟩:Op)]++d).map dN).length:Int)=c.length+2+d.length:=by rw [hlen];omega
      have hci:((((c.map dN).length:Nat):Int)+1).toNat=(c ++ [(⟨2,1⟩:Op)]).length:=by rw [iH,aK];simp only [aU,af];omega
      have hs:((c ++ [(⟨2,1⟩:Op)] ++ [(⟨16,0⟩:Op)]++d).map dN).set ((((c.map dN).length:Nat):Int)+1).toNat (dN (⟨16,(((c ++ [(⟨2,1⟩:Op)] ++ [(⟨16,0⟩:Op)]++d).map dN).length:Int)⟩:Op))=(c++(([⟨2,1⟩,⟨16,(c.length:Int)+2+d.length⟩]:List Op)++d)).map dN:=by
        rw [hci,hX,bK (c ++ [(⟨2,1⟩:Op)])]
        rw [uz (c ++ [(⟨2,1⟩:Op)]) d _ _,bK]
        rfl
      repeat' ((conv=>whnf);first | exact zf | refine zm ?_ | refine (.inl ⟨by unfold eN;omega,?_⟩) | intro _)
      conv=>whnf
      refine ⟨dN (⟨16,0⟩:Op),by rw [hci,bK (c ++ [(⟨2,1⟩:Op)])];exact vf (c ++ [(⟨2,1⟩:Op)]) d _,⟨rfl,rfl,rfl⟩,?_⟩
      repeat' ((conv=>whnf);first | exact zf | refine zm ?_ | intro _)
      conv=>whnf
      have h2:=hk a' (c++(([⟨2,1⟩,⟨16,(c.length:Int)+2+d.length⟩]:List Op)++d)) ⟨_,⟨d,hd,.inr (.inl rfl)⟩,rfl⟩ ⟨by omega,by omega⟩
      unfold vT at h2
      rw [←hs] at h2
      exact h2
    · skip
      repeat' ((conv=>whnf);first | exact zf | refine zm ?_ | refine (.inr ?_:(∃_,_)∨_) | refine (AH l _ _ _ hl ⟨by omega,by omega⟩ (by (try simp only [aK,aU,af]);omega) hab (λa' c' hd ha'=>?_)) | intro _)
      conv=>whnf
      obtain ⟨d,hd,rfl⟩:=hd
      exact hk _ _ ⟨d,⟨d,hd,.inl rfl⟩,rfl⟩ ⟨by omega,by omega⟩
end Go.Proofs.YtjpgfgajkjhonaaGreatDoor
namespace Go.Proofs.YtjpgfgajkjhonaaGreatDoor
open Go.Vx
set_option maxRecDepth 100000
structure T9 where
  s:List UInt8
  i:List UInt8
def tT:List T9:=[⟨[],[]⟩,⟨[1],[]⟩,⟨[2],[]⟩,⟨[1,2],[]⟩,⟨[3],[]⟩,⟨[],[1]⟩,⟨[1],[1]⟩,⟨[0],[]⟩]
def P7 (l:T9):List D:=[.str l.s,.str l.i]
def Nz (l:T9):Va:=⟨2,0,[],l.s,l.i⟩
def oW:List Int:=[0,1,2,3,4,5,9,14]
def KA:List Va:=oW.map num++tT.map Nz
theorem FU:bJ Tryz.prog 17 [] (.d (.sl 2 (tT.map P7))):=by
 refine s17.go (keep:=false) rfl ?_
 repeat' ((conv=>whnf);first | exact zf | refine zm ?_ | intro _)
inductive mU:List Op→Nat→Prop
  |nil:mU [] 0
  |snoc {c p:List Op} {k:Nat} (h:mU c k) (hp:Part c.length p):mU (c++p) (k+1)
def Gl (c:List Op):Prop:=∃(p:List Op) (k:Nat) (n:Int),mU p k∧1≤k∧k≤12∧0≤n∧n<8∧c=p ++ [⟨2,n⟩,⟨18,0⟩]
def pf (f:Fn):Prop:=f.args=1∧f.vars=7∧Gl f.code
def wJ (im:Im):Prop:=im.cs=KA∧im.fs.length=3∧∀f∈im.fs,pf f
def g1 (i:Nat):H:=
 match i with
 |0=>[.cells [.nl 5,.nl 3],.cells [.nl 5,.nl 3]]
 |i+1=>[.cells [.nl 5,.nl 3],.cells [.os 2,.nl 3],.rows 5 (((oW.take (i+1)).map num).map cE)]
theorem Part.len {b:Int} {p:List Op} (h:Part b p):p.length≤12:=by
 obtain ⟨d,hd,h⟩:=h;have:=hd.len;rcases h with rfl | rfl | ⟨_,rfl⟩ | ⟨_,rfl⟩<;>simp<;>omega
def cB:B:=.rows 5 (KA.map cE)
def g3 (i:Nat) (fs:List Fn):H:=
 match i with
 |0=>[.cells [.nl 5,.nl 3],.cells [.os 2,.nl 3],cB]
 |_+1=>[.cells [.nl 5,.nl 3],.cells [.os 2,.os 5],cB,.no,.no,.rows 3 (fs.map da)]
theorem Fp (fs:List Fn) (f:Fn) {r:List (List D)} (h:r=fs.map da ++ [da f]):B.rows 3 r=B.rows 3 ((fs ++ [f]).map da):=by
 rw [h,bn];rfl
def T_ (l:List Int) (k:Nat) (a:Int) (c:List Op):H:=
 match k with
 |0=>[.cells [.nl 5,.nl 3],.cells [.os 2,.nl 3],cB,.cells [.d (.sl 1 (dz l)),.d (.int .i64 0),.nl 2]]
 |_+1=>[.cells [.nl 5,.nl 3],.cells [.os 2,.nl 3],cB,.cells [.d (.sl 1 (dz l)),.d (.int .i64 a),.os 4],.rows 2 (c.map dN)]
def Tz (fs:List Fn) (l:List Int) (k:Nat) (a:Int) (c:List Op):H:=
 match k with
 |0=>[.cells [.nl 5,.nl 3],.cells [.os 2,.os 5],cB,.no,.no,.rows 3 (fs.map da),.cells [.d (.sl 1 (dz l)),.d (.int .i64 0),.nl 2]]
 |_+1=>[.cells [.nl 5,.nl 3],.cells [.os 2,.os 5],cB,.no,.no,.rows 3 (fs.map da),.cells [.d (.sl 1 (dz l)),.d (.int .i64 a),.os 7],.rows 2 (c.map dN)]
def PI (q:Nat×Int×List Op):Prop:=mU q.2.2 q.1∧q.1≤12∧0≤q.2.1∧q.2.1≤20*q.1∧q.2.2.length≤12*q.1
theorem PI.step {k:Nat} {a a':Int} {c c':List Op} (h:PI (k,a,c)) (hk:k<12) (hc:∃p,Part c.length p∧c'=c++p) (ha:a≤a'∧a'≤a+20):PI (k+1,a',c'):=by
 obtain ⟨h1,h2,h3,h4,h5⟩:=h;obtain ⟨p,hp,rfl⟩:=hc;have hpl:=hp.len;simp only at h1 h2 h3 h4 h5;exact ⟨.snoc h1 hp,hk,by simp only;omega,by simp only;omega,by simp only [aK];omega⟩
theorem PI.o9 {k:Nat} {a:Int} {c:List Op} (h:PI (k+1,a,c)) {n:Int} (hn:0≤n∧n<8):pf ⟨1,7,c ++ [⟨2,n⟩] ++ [⟨18,0⟩]⟩:=
 ⟨rfl,rfl,c,k+1,n,h.1,Nat.le_add_left 1 k,h.2.1,hn.1,hn.2,by rw [bK];rfl⟩
set_option maxHeartbeats 4000000 in
theorem Mo {K : Out → H → Prop} (L : List (List Int)) (hL : ∀ l ∈ L, nv l) (hk : ∀ im, wJ im → K (.ret (wF im)) []) : Sat Tryz.prog 38 [.d (.sl 1 (L.map fun l => [D.sl 1 (dz l)]))] [] K := by
  generalize hrows:(L.map λl=>[D.sl 1 (dz l)])=rowsL
  refine s38.go (keep:=false) rfl ?_
  repeat' ((conv=>whnf);first | exact zf | refine zm ?_ | intro _)
  conv=>whnf
  refine bV [(0,.d (.sl 1 rowsL)),(2,.p 0 0),(3,.p 1 0),(12,.d (.sl 1 (oW.map λx=>[D.int .i64 x]))),(13,.d (.int .i64 8))] (λi:Nat=>i≤8) (λi=>[(14,.d (.int .i64 i))]) g1 (λi=>8 - i) 0 (ak _) ?_ ?_ ?_ (λi hi=>?_)
  · exact zzz
  · exact ⟨aZ rfl,aZ rfl,trivial⟩
  · exact (by kernel_rfl)
  have hn8:∀i:Nat,i<8→∃x,oW[i]? = some x∧(oW.map λx=>[D.int .i64 x])[i]? = some [D.int .i64 x]:=λi hi=>⟨oW[i]'hi,aB hi,by rw [aC,aB (show i<oW.length from hi)];rfl⟩
  rcases i with _ | i
  · skip
    repeat' ((conv=>whnf);first | exact zf | refine zm ?_ | intro _)
    refine ⟨[.int .i64 0],⟨by omega,rfl,rfl⟩,?_⟩
    repeat' ((conv=>whnf);first | exact zf | refine zm ?_ | refine (.inl ⟨by unfold eN;omega,?_⟩) | intro _)
    exact ⟨1,by omega,by omega,zzz,⟨aZ rfl,aZ rfl,aZ rfl,trivial⟩,rfl⟩
  · have hi:i+1≤8:=hi
    have iH:(((oW.take (i+1)).map num).map cE).length=i+1:=by simp only [aL,ah];exact fJ hi
    repeat' ((conv=>whnf);first | exact zf | refine zm ?_ | intro _)
    refine aW (λhlt=>?_) (λhge=>?_)
    · have hlt:i+1<8:=by have:=of_decide_eq_true hlt;omega
      obtain ⟨x,hx,hrow⟩:=hn8 (i+1) hlt
      have hs:((oW.take (i+2)).map num).map cE=((oW.take (i+1)).map num).map cE ++ [cE (num x)]:=by
        rw [cF,hx]
        simp only [Option.toList,bn,cS,ji]
      repeat' ((conv=>whnf);first | exact zf | refine zm ?_ | intro _)
      refine ⟨[.int .i64 x],⟨by omega,by rw [show ((i+1:Nat):Int).toNat=i+1 by omega];exact hrow,rfl⟩,?_⟩
      repeat' ((conv=>whnf);first | exact zf | refine zm ?_ | refine (.inl ⟨by unfold eN;omega,?_⟩) | intro _)
      exact ⟨i+2,by omega,by omega,zzz,⟨aZ rfl,aZ rfl,aZ (congrArg (B.rows 5) hs.symm),trivial⟩,rfl⟩
    · have hge:i=7:=by have:=of_decide_eq_false hge;omega
      subst hge
      repeat' ((conv=>whnf);first | exact zf | refine zm ?_ | intro _)
      conv=>whnf
      refine bV [(0,.d (.sl 1 rowsL)),(2,.p 0 0),(3,.p 1 0)] (λj:Nat=>j≤8) (λj=>[(6,.d (.int .i64 j))]) (λj=>[.cells [.nl 5,.nl 3],.cells [.os 2,.nl 3],.rows 5 ((oW.map num++(tT.take j).map Nz).map cE)]) (λj=>8 - j) 0 (ak _) ?_ ?_ ?_ (λj hj=>?_)
      · exact zzz
      · exact ⟨aZ rfl,aZ rfl,aZ rfl,trivial⟩
      · exact (by kernel_rfl)
      have hcl2:((oW.map num++(tT.take j).map Nz).map cE).length=8+j:=by
        simp only [aL,aK,ah]
        rw [fJ (show j≤tT.length from hj)]
        rfl
      repeat' ((conv=>whnf);first | exact zf | refine zm ?_ | intro _)
      refine aW (λhlt=>?_) (λhge=>?_)
      · have hlt:j<8:=by have:=of_decide_eq_true hlt;omega
        obtain ⟨x,hx⟩:∃x,tT[j]? = some x:=⟨tT[j]'hlt,aB hlt⟩
        have hs:(oW.map num++(tT.take (j+1)).map Nz).map cE=(oW.map num++(tT.take j).map Nz).map cE ++ [cE (Nz x)]:=by
          rw [cF,hx]
          simp only [Option.toList,bn,cS,ji,bK]
        repeat' ((conv=>whnf);first | exact zf | refine zm ?_ | refine zc FU ?_ | intro _)
        refine ⟨P7 x,⟨by omega,by simp [hx],rfl⟩,?_⟩
        repeat' ((conv=>whnf);first | exact zf | refine zm ?_ | refine (.inl ⟨by unfold eN;omega,?_⟩) | intro _)
        exact ⟨j+1,by omega,by omega,zzz,⟨aZ rfl,aZ rfl,aZ (congrArg (B.rows 5) hs.symm),trivial⟩,rfl⟩
      · have hge:j=8:=by have:=of_decide_eq_false hge;omega
        subst hge
        repeat' ((conv=>whnf);first | exact zf | refine zm ?_ | intro _)
        conv=>whnf
        refine bV [(0,.d (.sl 1 rowsL)),(2,.p 0 0),(3,.p 1 0)] (λp:Nat×List Fn=>p.1≤3∧p.2.length=p.1∧∀f∈p.2,pf f) (λp=>[(7,.d (.int .i64 p.1))]) (λp=>g3 p.1 p.2) (λp=>3 - p.1) (0,[]) ⟨ak _,rfl,λ_ h=>nomatch h⟩ ?_ ?_ ?_ (λp hp=>?_)
        · exact zzz
        · exact ⟨aZ rfl,aZ rfl,aZ rfl,trivial⟩
        · exact (by kernel_rfl)
        obtain ⟨i,fs⟩:=p
        obtain ⟨hi3,hfl,hfs⟩:=hp
        have hi3:i≤3:=hi3
        have hfl:fs.length=i:=hfl
        have hfs:∀f∈fs,pf f:=hfs
        have hrl:rowsL.length=L.length:=by rw [←hrows,aL]
        have hget:∀k,k<L.length→∃l,nv l∧rowsL[k]? = some [D.sl 1 (dz l)]:=λk hk=>⟨L[k],hL _ (cZ hk),by rw [←hrows,aC,aB hk];rfl⟩
        rcases i with _ | i
        · skip
          repeat' ((conv=>whnf);first | exact zf | refine zm ?_ | intro _)
          refine aW (λhin=>?_) (λhout=>?_)
          · have hin:0<L.length:=by have:=of_decide_eq_true hin;omega
            obtain ⟨l,hl,hrow⟩:=hget 0 hin
            repeat' ((conv=>whnf);first | exact zf | refine zm ?_ | intro _)
            refine ⟨[D.sl 1 (dz l)],⟨by omega,hrow,rfl⟩,?_⟩
            repeat' ((conv=>whnf);first | exact zf | refine zm ?_ | refine (.inl ⟨by unfold eN;omega,?_⟩) | intro _)
            conv=>whnf
            refine bV [(0,.d (.sl 1 rowsL)),(2,.p 0 0),(3,.p 1 0),(7,.d (.int .i64 0)),(8,.p 3 0),(9,.d (.int .i64 (1)))] PI (λq=>[(10,.d (.int .i64 q.1))]) (λq=>T_ (l) q.1 q.2.1 q.2.2) (λq=>12 - q.1) (0,0,[]) ⟨.nil,by decide,by decide,by decide,by decide⟩ ?_ ?_ ?_ (λq hq=>?_)
            · exact zzz
            · exact ⟨aZ rfl,aZ rfl,aZ rfl,aZ rfl,trivial⟩
            · exact (by kernel_rfl)
            obtain ⟨k,a,c⟩:=q
            obtain ⟨q1,q2,q3,q4,q5⟩:=hq
            have hul:=iP (l)
            have htd:0≤((dz (l)).length:Int).tdiv 6:=Int.tdiv_nonneg (by omega) (by decide)
            rcases k with _ | k
            · skip
              repeat' ((conv=>whnf);first | exact zf | refine zm ?_ | refine (.inl ⟨by unfold eN;omega,?_⟩) | intro _)
              refine aW (λhb=>?_) (λhb=>absurd (of_decide_eq_false hb) (by omega))
              repeat' ((conv=>whnf);first | exact zf | refine zm ?_ | refine (.inr ?_:(∃_,_)∨_) | refine (Sat.own (by decide) 0 2 rfl rfl ?_) | refine (mD (l) 0 [] _ hl ⟨by omega,by omega⟩ (by decide) ⟨by decide,by decide⟩ (λa' c' hc' ha'=>?_)) | intro _)
              repeat' ((conv=>whnf);first | exact zf | refine zm ?_ | refine (.inl ⟨by unfold eN;omega,?_⟩) | intro _)
              exact ⟨(1,a',c'),PI.step (k:=0) (a:=0) (c:=[]) ⟨.nil,by decide,by decide,by decide,by decide⟩ (by decide) hc' ha',(by show (12 - 1:Nat)<12 - 0;decide),zzz,⟨aZ rfl,aZ rfl,aZ rfl,aZ rfl,aZ rfl,trivial⟩,rfl⟩
            · have q3:0≤a:=q3
              have q4:a≤20*((k+1:Nat):Int):=q4
              have q5:c.length≤12*(k+1):=q5
              have q2:k+1≤12:=q2
              have q1:mU c (k+1):=q1
              have hcl2:(c.map dN).length=c.length:=by simp
              repeat' ((conv=>whnf);first | exact zf | refine (iW [4] ?_) | refine zm ?_ | refine (.inl ⟨by unfold eN;omega,?_⟩) | refine (.inr ?_:(∃_,_)∨_) | refine (mD (l) a c _ hl ⟨by omega,by omega⟩ (by omega) ⟨by decide,by decide⟩ (λa' c' hc' ha'=>?_)) | refine (lJ (l) _ _ hl ⟨by omega,by omega⟩ (λn hn=>?_)) | refine (jD (l) _ _ _ _ (by (try simp only [aK,aU,af]);omega) ?_) | refine aW (λhb=>?_) (λhb=>?_) | intro _)
              · have hk12:k+2≤12:=by have:=of_decide_eq_true (by assumption:decide (((k+1:Nat):Int)<12)=true);omega
                exact ⟨(k+2,a',c'),PI.step ⟨q1,q2,q3,q4,q5⟩ (by omega) hc' ha',(by show 12 - (k+2)<12 - (k+1);omega),zzz,⟨aZ rfl,aZ rfl,aZ rfl,aZ rfl,aZ rfl,trivial⟩,rfl⟩
              all_goals
                exact ⟨(1,[⟨1,7,c ++ [(⟨2,n.tmod 8⟩:Op)] ++ [(⟨18,0⟩:Op)]⟩]),⟨(by show (1:Nat)≤3;decide),rfl,λf hf=>by rw [aO.1 hf];exact PI.o9 ⟨q1,q2,q3,q4,q5⟩ ⟨by omega,by omega⟩⟩,(by show (3 - 1:Nat)<3 - 0;decide),zzz,⟨aZ rfl,aZ rfl,aZ rfl,aZ rfl,trivial⟩,rfl⟩
          · skip
            repeat' ((conv=>whnf);first | exact zf | refine zm ?_ | refine (.inl ⟨by unfold eN;omega,?_⟩) | intro _)
            conv=>whnf
            obtain ⟨l,hl,hl0⟩:∃l:List Int,nv l∧dz l = []:=⟨[],(λ_ h=>nomatch h),rfl⟩
            refine bV [(0,.d (.sl 1 rowsL)),(2,.p 0 0),(3,.p 1 0),(7,.d (.int .i64 0)),(8,.p 3 0),(9,.d (.int .i64 (1)))] PI (λq=>[(10,.d (.int .i64 q.1))]) (λq=>T_ (l) q.1 q.2.1 q.2.2) (λq=>12 - q.1) (0,0,[]) ⟨.nil,by decide,by decide,by decide,by decide⟩ ?_ ?_ ?_ (λq hq=>?_)
            · exact zzz
            · exact ⟨aZ rfl,aZ rfl,aZ rfl,.inr ⟨(by rw [hl0];exact rfl),gg rfl,gg rfl,trivial⟩,trivial⟩
            · exact (by kernel_rfl)
            obtain ⟨k,a,c⟩:=q
            obtain ⟨q1,q2,q3,q4,q5⟩:=hq
            have hul:=iP (l)
            have htd:0≤((dz (l)).length:Int).tdiv 6:=Int.tdiv_nonneg (by omega) (by decide)
            rcases k with _ | k
            · skip
              repeat' ((conv=>whnf);first | exact zf | refine zm ?_ | refine (.inl ⟨by unfold eN;omega,?_⟩) | intro _)
              refine aW (λhb=>?_) (λhb=>absurd (of_decide_eq_false hb) (by omega))
              repeat' ((conv=>whnf);first | exact zf | refine zm ?_ | refine (.inr ?_:(∃_,_)∨_) | refine (Sat.own (by decide) 0 2 rfl rfl ?_) | refine (mD (l) 0 [] _ hl ⟨by omega,by omega⟩ (by decide) ⟨by decide,by decide⟩ (λa' c' hc' ha'=>?_)) | intro _)
              repeat' ((conv=>whnf);first | exact zf | refine zm ?_ | refine (.inl ⟨by unfold eN;omega,?_⟩) | intro _)
              exact ⟨(1,a',c'),PI.step (k:=0) (a:=0) (c:=[]) ⟨.nil,by decide,by decide,by decide,by decide⟩ (by decide) hc' ha',(by show (12 - 1:Nat)<12 - 0;decide),zzz,⟨aZ rfl,aZ rfl,aZ rfl,aZ rfl,aZ rfl,trivial⟩,rfl⟩
            · have q3:0≤a:=q3
              have q4:a≤20*((k+1:Nat):Int):=q4
              have q5:c.length≤12*(k+1):=q5
              have q2:k+1≤12:=q2
              have q1:mU c (k+1):=q1
              have hcl2:(c.map dN).length=c.length:=by simp
              repeat' ((conv=>whnf);first | exact zf | refine (iW [4] ?_) | refine zm ?_ | refine (.inl ⟨by unfold eN;omega,?_⟩) | refine (.inr ?_:(∃_,_)∨_) | refine (mD (l) a c _ hl ⟨by omega,by omega⟩ (by omega) ⟨by decide,by decide⟩ (λa' c' hc' ha'=>?_)) | refine (lJ (l) _ _ hl ⟨by omega,by omega⟩ (λn hn=>?_)) | refine (jD (l) _ _ _ _ (by (try simp only [aK,aU,af]);omega) ?_) | refine aW (λhb=>?_) (λhb=>?_) | intro _)
              · have hk12:k+2≤12:=by have:=of_decide_eq_true (by assumption:decide (((k+1:Nat):Int)<12)=true);omega
                exact ⟨(k+2,a',c'),PI.step ⟨q1,q2,q3,q4,q5⟩ (by omega) hc' ha',(by show 12 - (k+2)<12 - (k+1);omega),zzz,⟨aZ rfl,aZ rfl,aZ rfl,aZ rfl,aZ rfl,trivial⟩,rfl⟩
              all_goals
                exact ⟨(1,[⟨1,7,c ++ [(⟨2,n.tmod 8⟩:Op)] ++ [(⟨18,0⟩:Op)]⟩]),⟨(by show (1:Nat)≤3;decide),rfl,λf hf=>by rw [aO.1 hf];exact PI.o9 ⟨q1,q2,q3,q4,q5⟩ ⟨by omega,by omega⟩⟩,(by show (3 - 1:Nat)<3 - 0;decide),zzz,⟨aZ rfl,aZ rfl,aZ rfl,aZ rfl,trivial⟩,rfl⟩
        · have hfl3:(fs.map da).length=i+1:=by rw [aL,hfl]
          repeat' ((conv=>whnf);first | exact zf | refine zm ?_ | intro _)
          refine aW (λhlt=>?_) (λhge=>?_)
          · have hlt:i+1<3:=by have:=of_decide_eq_true hlt;omega
            have hab:0≤(((i+1:Nat):Int)+1).tmod 3∧(((i+1:Nat):Int)+1).tmod 3<3:=by
              rw [bE (by omega)]
              omega
            repeat' ((conv=>whnf);first | exact zf | refine zm ?_ | intro _)
            refine aW (λhin=>?_) (λhout=>?_)
            · have hin:i+1<L.length:=by have:=of_decide_eq_true hin;omega
              obtain ⟨l,hl,hrow⟩:=hget (i+1) hin
              repeat' ((conv=>whnf);first | exact zf | refine zm ?_ | intro _)
              refine ⟨[D.sl 1 (dz l)],⟨by omega,by rw [show ((i+1:Nat):Int).toNat=i+1 by omega];exact hrow,rfl⟩,?_⟩
              repeat' ((conv=>whnf);first | exact zf | refine zm ?_ | refine (.inl ⟨by unfold eN;omega,?_⟩) | intro _)
              conv=>whnf
              refine bV [(0,.d (.sl 1 rowsL)),(2,.p 0 0),(3,.p 1 0),(7,.d (.int .i64 ((i+1:Nat):Int))),(8,.p 6 0),(9,.d (.int .i64 ((((i+1:Nat):Int)+1).tmod 3)))] PI (λq=>[(10,.d (.int .i64 q.1))]) (λq=>Tz fs (l) q.1 q.2.1 q.2.2) (λq=>12 - q.1) (0,0,[]) ⟨.nil,by decide,by decide,by decide,by decide⟩ ?_ ?_ ?_ (λq hq=>?_)
              · exact zzz
              · exact ⟨aZ rfl,aZ rfl,aZ rfl,aZ rfl,aZ rfl,trivial⟩
              · exact (by kernel_rfl)
              obtain ⟨k,a,c⟩:=q
              obtain ⟨q1,q2,q3,q4,q5⟩:=hq
              have hul:=iP (l)
              have htd:0≤((dz (l)).length:Int).tdiv 6:=Int.tdiv_nonneg (by omega) (by decide)
              rcases k with _ | k
              · skip
                repeat' ((conv=>whnf);first | exact zf | refine zm ?_ | refine (.inl ⟨by unfold eN;omega,?_⟩) | intro _)
                refine aW (λhb=>?_) (λhb=>absurd (of_decide_eq_false hb) (by omega))
                repeat' ((conv=>whnf);first | exact zf | refine zm ?_ | refine (.inr ?_:(∃_,_)∨_) | refine (Sat.own (by decide) 0 2 rfl rfl ?_) | refine (mD (l) 0 [] _ hl ⟨by omega,by omega⟩ (by decide) hab (λa' c' hc' ha'=>?_)) | intro _)
                repeat' ((conv=>whnf);first | exact zf | refine zm ?_ | refine (.inl ⟨by unfold eN;omega,?_⟩) | intro _)
                exact ⟨(1,a',c'),PI.step (k:=0) (a:=0) (c:=[]) ⟨.nil,by decide,by decide,by decide,by decide⟩ (by decide) hc' ha',(by show (12 - 1:Nat)<12 - 0;decide),zzz,⟨aZ rfl,aZ rfl,aZ rfl,aZ rfl,aZ rfl,aZ rfl,trivial⟩,rfl⟩
              · have q3:0≤a:=q3
                have q4:a≤20*((k+1:Nat):Int):=q4
                have q5:c.length≤12*(k+1):=q5
                have q2:k+1≤12:=q2
                have q1:mU c (k+1):=q1
                have hcl2:(c.map dN).length=c.length:=by simp
                repeat' ((conv=>whnf);first | exact zf | refine (iW [7] ?_) | refine zm ?_ | refine (.inl ⟨by unfold eN;omega,?_⟩) | refine (.inr ?_:(∃_,_)∨_) | refine (mD (l) a c _ hl ⟨by omega,by omega⟩ (by omega) hab (λa' c' hc' ha'=>?_)) | refine (lJ (l) _ _ hl ⟨by omega,by omega⟩ (λn hn=>?_)) | refine (jD (l) _ _ _ _ (by (try simp only [aK,aU,af]);omega) ?_) | refine aW (λhb=>?_) (λhb=>?_) | intro _)
                · have hk12:k+2≤12:=by have:=of_decide_eq_true (by assumption:decide (((k+1:Nat):Int)<12)=true);omega
                  exact ⟨(k+2,a',c'),PI.step ⟨q1,q2,q3,q4,q5⟩ (by omega) hc' ha',(by show 12 - (k+2)<12 - (k+1);omega),zzz,⟨aZ rfl,aZ rfl,aZ rfl,aZ rfl,aZ rfl,aZ rfl,trivial⟩,rfl⟩
                all_goals
                  exact ⟨(i+2,fs ++ [⟨1,7,c ++ [(⟨2,n.tmod 8⟩:Op)] ++ [(⟨18,0⟩:Op)]⟩]),⟨(by show i+2≤3;omega),(by simp only [aK,aU,af];omega),λf hf=>(aT.1 hf).elim (hfs f) λhf=>by rw [aO.1 hf];exact PI.o9 ⟨q1,q2,q3,q4,q5⟩ ⟨by omega,by omega⟩⟩,(by show 3 - (i+2)<3 - (i+1);omega),zzz,⟨aZ rfl,aZ rfl,aZ rfl,aZ (Fp fs ⟨1,7,c ++ [(⟨2,n.tmod 8⟩:Op)] ++ [(⟨18,0⟩:Op)]⟩ rfl),trivial⟩,rfl⟩
            · skip
              repeat' ((conv=>whnf);first | exact zf | refine zm ?_ | refine (.inl ⟨by unfold eN;omega,?_⟩) | intro _)
              conv=>whnf
              obtain ⟨l,hl,hl0⟩:∃l:List Int,nv l∧dz l = []:=⟨[],(λ_ h=>nomatch h),rfl⟩
              refine bV [(0,.d (.sl 1 rowsL)),(2,.p 0 0),(3,.p 1 0),(7,.d (.int .i64 ((i+1:Nat):Int))),(8,.p 6 0),(9,.d (.int .i64 ((((i+1:Nat):Int)+1).tmod 3)))] PI (λq=>[(10,.d (.int .i64 q.1))]) (λq=>Tz fs (l) q.1 q.2.1 q.2.2) (λq=>12 - q.1) (0,0,[]) ⟨.nil,by decide,by decide,by decide,by decide⟩ ?_ ?_ ?_ (λq hq=>?_)
              · exact zzz
              · exact ⟨aZ rfl,aZ rfl,aZ rfl,aZ rfl,.inr ⟨(by rw [hl0];exact rfl),gg rfl,gg rfl,trivial⟩,trivial⟩
              · exact (by kernel_rfl)
              obtain ⟨k,a,c⟩:=q
              obtain ⟨q1,q2,q3,q4,q5⟩:=hq
              have hul:=iP (l)
              have htd:0≤((dz (l)).length:Int).tdiv 6:=Int.tdiv_nonneg (by omega) (by decide)
              rcases k with _ | k
              · skip
                repeat' ((conv=>whnf);first | exact zf | refine zm ?_ | refine (.inl ⟨by unfold eN;omega,?_⟩) | intro _)
                refine aW (λhb=>?_) (λhb=>absurd (of_decide_eq_false hb) (by omega))
                repeat' ((conv=>whnf);first | exact zf | refine zm ?_ | refine (.inr ?_:(∃_,_)∨_) | refine (Sat.own (by decide) 0 2 rfl rfl ?_) | refine (mD (l) 0 [] _ hl ⟨by omega,by omega⟩ (by decide) hab (λa' c' hc' ha'=>?_)) | intro _)
                repeat' ((conv=>whnf);first | exact zf | refine zm ?_ | refine (.inl ⟨by unfold eN;omega,?_⟩) | intro _)
                exact ⟨(1,a',c'),PI.step (k:=0) (a:=0) (c:=[]) ⟨.nil,by decide,by decide,by decide,by decide⟩ (by decide) hc' ha',(by show (12 - 1:Nat)<12 - 0;decide),zzz,⟨aZ rfl,aZ rfl,aZ rfl,aZ rfl,aZ rfl,aZ rfl,trivial⟩,rfl⟩
              · have q3:0≤a:=q3
                have q4:a≤20*((k+1:Nat):Int):=q4
                have q5:c.length≤12*(k+1):=q5
                have q2:k+1≤12:=q2
                have q1:mU c (k+1):=q1
                have hcl2:(c.map dN).length=c.length:=by simp
                repeat' ((conv=>whnf);first | exact zf | refine (iW [7] ?_) | refine zm ?_ | refine (.inl ⟨by unfold eN;omega,?_⟩) | refine (.inr ?_:(∃_,_)∨_) | refine (mD (l) a c _ hl ⟨by omega,by omega⟩ (by omega) hab (λa' c' hc' ha'=>?_)) | refine (lJ (l) _ _ hl ⟨by omega,by omega⟩ (λn hn=>?_)) | refine (jD (l) _ _ _ _ (by (try simp only [aK,aU,af]);omega) ?_) | refine aW (λhb=>?_) (λhb=>?_) | intro _)
                · have hk12:k+2≤12:=by have:=of_decide_eq_true (by assumption:decide (((k+1:Nat):Int)<12)=true);omega
                  exact ⟨(k+2,a',c'),PI.step ⟨q1,q2,q3,q4,q5⟩ (by omega) hc' ha',(by show 12 - (k+2)<12 - (k+1);omega),zzz,⟨aZ rfl,aZ rfl,aZ rfl,aZ rfl,aZ rfl,aZ rfl,trivial⟩,rfl⟩
                all_goals
                  exact ⟨(i+2,fs ++ [⟨1,7,c ++ [(⟨2,n.tmod 8⟩:Op)] ++ [(⟨18,0⟩:Op)]⟩]),⟨(by show i+2≤3;omega),(by simp only [aK,aU,af];omega),λf hf=>(aT.1 hf).elim (hfs f) λhf=>by rw [aO.1 hf];exact PI.o9 ⟨q1,q2,q3,q4,q5⟩ ⟨by omega,by omega⟩⟩,(by show 3 - (i+2)<3 - (i+1);omega),zzz,⟨aZ rfl,aZ rfl,aZ rfl,aZ (Fp fs ⟨1,7,c ++ [(⟨2,n.tmod 8⟩:Op)] ++ [(⟨18,0⟩:Op)]⟩ rfl),trivial⟩,rfl⟩
          · have hge:i=2:=by have:=of_decide_eq_false hge;omega
            subst hge
            repeat' ((conv=>whnf);first | exact zf | refine zm ?_ | intro _)
            exact hk ⟨KA,fs⟩ ⟨rfl,hfl,hfs⟩
end Go.Proofs.YtjpgfgajkjhonaaGreatDoor
namespace Go.Proofs.YtjpgfgajkjhonaaGreatDoor
open Go.Vx
set_option maxRecDepth 100000
def yB (s:bq) (kp:List Nat) (o:Ob) (b:Option Nat):bq:=bif decide (3≤o.k)&&decide (o.k≤7) then ij s kp o b else s
theorem N9 {K:Out→H→Prop} (s:bq) (kp:List Nat) (o:Ob) (hn:gK kp) (hs:lW s) (hl:cL o.l) (hq:o.va.q.length<100000000) (hk:∀b n,K (.ret (.d (.int .i64 n))) (jn (yB s kp o b))) :
  Sat Tryz.prog 14 [.p 0 0,.d (.str (cr kp)),fz o] (jn s) K:=by
 unfold yB at hk
 by_cases h:3≤o.k∧o.k≤7
 ·rw [show (decide (3≤o.k)&&decide (o.k≤7))=true by simp [h.1,h.2]] at hk;exact wG s kp o ⟨hn,hs,hl,h.1,h.2,hq⟩ hk
 ·rw [show (decide (3≤o.k)&&decide (o.k≤7))=false by rw [Bool.and_eq_false_iff,decide_eq_false_iff_not,decide_eq_false_iff_not];omega] at hk;exact Bp s kp o hn hl (.inl (by omega)) (hk none 1)
def iw (p:Int×Ob):List D:=.int .u8 p.1 :: fA p.2
structure uG (mx:Int) (q:Nat) (p:Int×Ob):Prop where
  i:0≤p.1∧p.1≤255
  o:ju mx q p.2
def ra (o:Ob):Ob:={ o with l:=ur o.l }
theorem me (l:Lb):(ur l).s.length≤4∧(ur l).i.length≤4:=⟨List.length_take_le _ _,List.length_take_le _ _⟩
theorem FK {mx:Int} {q:Nat} {o:Ob} (h:ju mx q o):ju mx q (ra o):=
 ⟨And.intro (aY (me o.l).1 (by decide)) (aY (me o.l).2 (by decide)),h.v,h.w,h.qs,h.ql,h.m⟩
def p_:List (List Nat):=[[0],[1],[0,0],[0,1],[2],[10],[1,0],[0,0,0]]
theorem GI (n:Nat) (h:n<10):Lib.decDigits n = [UInt8.ofNat (48+n)]:=by
 unfold Lib.decDigits;rw [dif_pos h]
theorem RO:Lib.decDigits 10 = [49,48]:=by
 unfold Lib.decDigits;rw [dif_neg (by decide),GI _ (by decide)];rfl
theorem pS:gS=p_.map cr:=by
 unfold p_;simp only [cS,ji,cr,oG,nU,List.flatMap_nil,cO,RO,GI 0 (by decide),GI 1 (by decide),GI 2 (by decide)];rfl
theorem Cc {i:Int} (h:0≤i∧i<8):∃kp,kp∈p_∧gK kp∧gS[i.toNat]? = some (cr kp):=by
 have hl:i.toNat<p_.length:=by show i.toNat<8;omega
 have hg:∀k∈p_,gK k:=by
  have:∀k∈p_,k≠[]∧k.length≤24∧∀n∈k,n<100:=by decide
  exact this
 exact ⟨p_[i.toNat],cZ hl,hg _ (cZ hl),by rw [pS,aC,aB hl];rfl⟩
structure Bw (mx:Int) (q n:Nat) (s:bq):Prop where
  so:gw mx q n s
  co:R6 s
  nm:∀p∈s.th,p.1∈gS
theorem Bw.yB {mx:Int} {q n:Nat} {s:bq} (h:Bw mx q n s) {kp:List Nat} {o:Ob} (hk:kp∈p_) (hg:gK kp) (ho:ju mx q o) (b:Option Nat):Bw mx (q+1) (n+1) (yB s kp o b):=by
 have hz:Bw mx (q+1) (n+1) s:=⟨h.so.mono,h.co,h.nm⟩
 unfold Go.Proofs.YtjpgfgajkjhonaaGreatDoor.yB;cases decide (3≤o.k)&&decide (o.k≤7) with
 |false=>exact hz
 |true=>
  refine ⟨h.so.add hg ho.mono b,h.co.add hg b,λp hp=>?_⟩;have hp:p∈(ij s kp o b).th:=hp;unfold ij at hp;cases hb:jv o.l&&(bN (cr kp) s.th).isNone with
  |false=>rw [hb] at hp;exact h.nm p hp
  |true=>
   rw [hb] at hp;rcases aT.1 hp with h1 | h1
   ·exact h.nm p h1
   ·rw [aO.1 h1,pS];exact b9.2 ⟨kp,hk,rfl⟩
theorem Bw.gs {mx:Int} {q n:Nat} {s:bq} (h:Bw mx q n s) (hn:n<1000):lW s:=
 ⟨by have:=h.so.nm;omega,λp hp=>⟨by have:=(h.so.ns p hp).1;omega,(h.so.ns p hp).2⟩⟩
theorem KT (mx:Int) (q:Nat):Bw mx q 0 ⟨[],[]⟩:=⟨⟨aQ _,λp hp=>(by cases hp),λp hp=>(by cases hp)⟩,KC,λp hp=>by cases hp⟩
set_option maxHeartbeats 4000000 in
theorem N1 {K:Out→H→Prop} (mx:Int) (q:Nat) (l:List (Int×Ob)) (hl:∀p∈l,uG mx q p) (hq:q<90000000) (hk:∀s r,Bw mx (q+10) 10 s→K (.ret (.tu [.p 0 0,.p 3 0])) (jn s++Kh r)) :
  Sat Tryz.prog 37 [.d (.sl 20 (l.map iw))] [] K:=by
 have hlen:(l.map iw).length=l.length:=aL _;refine s37.go (keep:=false) rfl ?_
 repeat' ((conv=>whnf);first | exact zf | refine zm ?_ | refine (Ky ?_) | intro _)
 conv=>whnf
 refine bV [(0,.d (.sl 20 (l.map iw))),(4,.p 0 0),(5,.p 3 0)] (λp:Nat×bq×List (List UInt8×Ob)=>(p.1≤l.length∧p.1≤10)∧Bw mx (q+p.1) p.1 p.2.1∧Q9 p.2.2∧p.2.2.length≤p.1) (λp=>[(6,.d (.int .i64 p.1))]) (λp=>[.cells [.mp 1,.mp 2],.dm (q8 p.2.1.th),.ms 1 (qA p.2.1.nm) none none,.cells [.d (.sl 20 (p.2.2.map mB))]]) (λp=>l.length - p.1) (0,⟨[],[]⟩,[]) ⟨⟨ak _,ak _⟩,KT _ _,(λp hp=>by cases hp),ak _⟩ ?_ ?_ ?_ (λp hp=>?_)
 ·exact zzz
 ·exact ⟨aZ rfl,aZ rfl,aZ rfl,.inr ⟨(show D3 (.nl 20) (.d (.sl 20 [])) from rfl),trivial⟩,trivial⟩
 ·exact (by kernel_rfl)
 obtain ⟨i,s,r⟩:=p;obtain ⟨⟨i1,i2⟩,hs,hr,hrl⟩:=hp;dsimp only at i1 i2 hs hr hrl ⊢
 by_cases hlt:i<l.length∧i<10
 ·have tx:decide ((i:Int)<((l.map iw).length:Int))=true:=by simp;omega
  have ty:decide ((i:Int)<10)=true:=by simp;omega
  have hlt:=hlt.1;have hg:(l.map iw)[(i:Int).toNat]? = some (.int .u8 l[i].1 :: fA l[i].2):=by rw [show (i:Int).toNat=i by omega,aC,aB hlt];rfl
  have ht:=hl _ (cZ hlt);have h76:=Hf l[i].2.l;have hid:l[i].1.tmod 8=l[i].1 % 8:=bE ht.i.1;obtain ⟨kp,hkp,hkg,hnm⟩:=Cc (i:=l[i].1.tmod 8) (by have:=ht.i;omega);have rn:(gS.map λs=>[D.str s])[(l[i].1.tmod 8).toNat]? = some [.str (cr kp)]:=by rw [aC,hnm];rfl
  have ho:=FK ht.o;have hql:(ra l[i].2).va.q.length<100000000:=by have:=ho.ql;omega
  have h14:=λ{K:Out→H→Prop}=>N9 (K:=K) s kp (ra l[i].2) hkg (hs.gs (by omega)) ho.l hql;have h79:=MJ (ra l[i].2) hql;have h78:=λ{K:Out→H→Prop}=>R3 (K:=K) r (cr kp) (ra l[i].2) hr (by rw [pS];exact b9.2 ⟨kp,hkp,rfl⟩) (aY (me _).1 (by decide)) (aY (me _).2 (by decide)) (by omega);have hz:=λb=>hs.yB hkp hkg ⟨ho.l,ho.v,ho.w,ho.qs,aY ho.ql (Nat.le_add_right _ _),ho.m⟩ b
  repeat' ((conv=>whnf);first | exact zf | refine zm ?_ | refine (gG tx ?_) | refine (gG ty ?_) | refine ⟨_,⟨by omega,hg,rfl⟩,?_⟩ | refine zc h76 ?_ | refine zc Ay ?_ | refine ⟨_,⟨by omega,rn,rfl⟩,?_⟩ | refine (.inr ?_:(∃_,_)∨_) | refine (h14 (λb n=>?_)) | refine zc h79 ?_ | refine (h78 (λe=>?_) (λr' hr' hl'=>?_)) | refine (.inl ⟨by unfold eN;omega,?_⟩) | intro _)
  ·exact ⟨(i+1,yB s kp (ra l[i].2) b,r),⟨⟨hlt,(by show i+1≤10;omega)⟩,hz b,hr,(by show r.length≤i+1;omega)⟩,(by show l.length - (i+1)<l.length - i;omega),zzz,zzz,rfl⟩
  ·exact ⟨(i+1,yB s kp (ra l[i].2) b,r'),⟨⟨hlt,(by show i+1≤10;omega)⟩,hz b,hr',(by show r'.length≤i+1;omega)⟩,(by show l.length - (i+1)<l.length - i;omega),zzz,zzz,rfl⟩
 ·have fin:Bw mx (q+10) 10 s:=by
   obtain ⟨d,hd⟩:∃d,i+d=10:=⟨10 - i,by omega⟩
   have key:∀d q i,Bw mx q i s→Bw mx (q+d) (i+d) s:=by
    intro d
    induction d with
    |zero=>intro q i h;exact h
    |succ d ih=>intro q i h;exact ih (q+1) (i+1) ⟨h.so.mono,h.co,h.nm⟩ |> λh=>by rw [db,db,Nat.add_comm 1 d] at h;exact h
   have h1:=key d _ _ hs;rw [db,hd] at h1;exact h1
  by_cases h1:i<l.length
  ·have tx:decide ((i:Int)<((l.map iw).length:Int))=true:=by simp;omega
   have ty:decide ((i:Int)<10)=false:=by simp;omega
   repeat' ((conv=>whnf);first | exact zf | refine zm ?_ | refine (gG tx ?_) | refine (gY ty ?_) | intro _)
   exact hk s r fin
  ·have tx:decide ((i:Int)<((l.map iw).length:Int))=false:=by simp;omega
   repeat' ((conv=>whnf);first | exact zf | refine zm ?_ | refine (gY tx ?_) | intro _)
   exact hk s r fin
structure Gk where
  l:Int
  c:Int
  mz:Int
  fn:Int
  ar:Int
  ro:Int
def pC (x:Gk):List V:=[.d (.int .u8 x.l),.d (.int .u8 x.c),.d (.int .u8 x.mz),.d (.int .u8 x.fn),.d (.int .u8 x.ar),.d (.int .u8 x.ro)]
structure xH (x:Gk):Prop where
  l:0≤x.l∧x.l≤255
  c:0≤x.c∧x.c≤255
  mz:0≤x.mz∧x.mz≤255
  fn:0≤x.fn∧x.fn≤255
  ar:0≤x.ar∧x.ar≤255
  ro:0≤x.ro∧x.ro≤255
def td (x:Gk):Th:=Ga x.l x.c x.mz x.fn x.ar x.ro
def Qd (b:Bool) (x:Gk):Gk:=bif b then { x with mz:=0 } else x
set_option maxHeartbeats 4000000 in
theorem Mt {K:Out→H→Prop} (mx:Int) (q:Nat) (f:List (List Int)) (hf:∀l∈f,nv l) (l:List (Int×Ob)) (hl:∀p∈l,uG mx q p) (hq:q<90000000) (x:Gk) (hx:xH x) (b:Bool)
  (hk:∀im s,wJ im→Bw mx (q+10) 10 s→K (.ret (.p 0 0)) (yQ im (td (Qd b x)) s)) :
  Sat Tryz.prog 10 [.d (.sl 1 (f.map λl=>[D.sl 1 (dz l)])),.d (.sl 20 (l.map iw)),.ag (pC x),.d (.bool b)] [] K:=by
 have h37:=λ{K:Out→H→Prop}=>N1 (K:=K) mx q l hl hq;have h38:=λ{K:Out→H→Prop}=>Mo (K:=K) f hf;have h39:=λim=>Bh x.l x.c x.mz x.fn x.ar x.ro im hx.l hx.c hx.mz hx.fn hx.ar hx.ro;have h39':=λim=>Bh x.l x.c 0 x.fn x.ar x.ro im hx.l hx.c ⟨by decide,by decide⟩ hx.fn hx.ar hx.ro;cases b with
 |false=>
  refine s10.go (keep:=false) rfl ?_
  repeat' ((conv=>whnf);first | exact zf | refine zm ?_ | refine (h37 (λs r hs=>?_)) | refine (h38 (λim hi=>?_)) | refine zc (h39 im) ?_ | intro _)
  all_goals exact hk im s hi hs
 |true=>
  refine s10.go (keep:=false) rfl ?_
  repeat' ((conv=>whnf);first | exact zf | refine zm ?_ | refine (h37 (λs r hs=>?_)) | refine (h38 (λim hi=>?_)) | refine zc (h39' im) ?_ | intro _)
  all_goals exact hk im s hi hs
end Go.Proofs.YtjpgfgajkjhonaaGreatDoor
