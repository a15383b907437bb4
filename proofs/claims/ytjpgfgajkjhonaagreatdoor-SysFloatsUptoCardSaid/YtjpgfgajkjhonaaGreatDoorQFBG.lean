/- A store is coherent: its things, and the names of each label. Conditions: none. -/
import Derived.Test.YtjpgfgajkjhonaaGreatDoorQFBF
import Derived.Test.YtjpgfgajkjhonaaGreatDoorQFAY
import Derived.Test.YtjpgfgajkjhonaaGreatDoorQFAV
import Derived.Test.YtjpgfgajkjhonaaGreatDoorQFAZ
import Derived.Test.YtjpgfgajkjhonaaGreatDoorQFBA
set_option maxRecDepth 100000
namespace Go.Proofs.YtjpgfgajkjhonaaGreatDoor
open Go.Vx
set_option maxRecDepth 100000
structure SN (s:bq):Prop where
  nd:(names s).Nodup
  ld:(s.nm.map (·.1)).Nodup
  up:∀p∈s.th,∃e∈s.nm,e.1=p.2.l∧∃k∈e.2.2,p.1=cr k
  dn:∀e∈s.nm,∀k∈e.2.2,∃p∈s.th,p.1=cr k∧p.2.l=e.1
  gd:∀p∈s.th,∃k,p.1=cr k∧gP k
section
variable {mx:Int} {q n:Nat} {t:Th} {s:bq} {now:Int} {b:Option Nat}
theorem ub {nm:List UInt8}:∀{l:List (List UInt8×Ob)},cD nm l=none→nm∉l.map (·.1)
 |[],_=>by simp
 |x :: l,h=>by
  have h':(if nm=x.1 then some (0,x.2) else (cD nm l).map λx=>(x.1+1,x.2))=none:=h
  by_cases hk:nm=x.1
  ·rw [if_pos hk] at h';cases h'
  ·rw [if_neg hk] at h';cases hl:cD nm l with
   |some y=>rw [hl] at h';cases h'
   |none=>
    have:=ub hl;rw [cN,ae]
    rintro (h | h)
    ·exact hk h
    ·exact this h
theorem Lm {a l:Lb}:(a.s=l.s∧a.i=l.i)↔a=l:=by
 constructor
 ·rintro ⟨h1,h2⟩
  cases a;cases l;cases h1;cases h2;rfl
 ·rintro rfl;exact ⟨rfl,rfl⟩
theorem tN (l:Lb) (kp:List Nat) (b:Option Nat):qI [] l kp b = [(l,b,[kp])]:=rfl
theorem nV (p:Lb×Option Nat×List (List Nat)) (r:C7) (l:Lb) (kp:List Nat) (b:Option Nat):qI (p :: r) l kp b=if p.1=l then (p.1,b,uD p.2.2 kp) :: r else p :: qI r l kp b:=by
 unfold qI;rw [show qi l (p :: r)=if p.1.s=l.s∧p.1.i=l.i then some 0 else (qi l r).map (· + 1) from rfl]
 by_cases h:p.1=l
 ·rw [if_pos (Lm.2 h),if_pos h];rfl
 ·rw [if_neg (λe=>h (Lm.1 e)),if_neg h];cases qi l r with
  |none=>rfl
  |some i=>rfl
theorem C2 {l:Lb} {kp:List Nat}:∀{nm:C7} {e:Lb×Option Nat×List (List Nat)},e∈nm→∃e'∈qI nm l kp b,e'.1=e.1∧∀k∈e.2.2,k∈e'.2.2
 |[],e,h=>by cases h
 |p :: r,e,h=>by
  rw [nV]
  by_cases hp:p.1=l
  ·rw [if_pos hp];rcases ae.1 h with h1 | h1
   ·subst h1;exact ⟨(e.1,b,uD e.2.2 kp),by simp,rfl,λk hk=>pM.2 (.inr hk)⟩
   ·exact ⟨e,by simp [h1],rfl,λk hk=>hk⟩
  ·rw [if_neg hp];rcases ae.1 h with h1 | h1
   ·subst h1;exact ⟨e,by simp,rfl,λk hk=>hk⟩
   ·obtain ⟨e',a1,a2,a3⟩:=C2 (l:=l) (kp:=kp) h1;exact ⟨e',by simp [a1],a2,a3⟩
theorem y8 {l:Lb} {kp:List Nat}:∀{nm:C7},∃e'∈qI nm l kp b,e'.1=l∧kp∈e'.2.2
 |[]=>⟨(l,b,[kp]),by rw [tN];simp,rfl,by simp⟩
 |p :: r=>by
  rw [nV]
  by_cases hp:p.1=l
  ·rw [if_pos hp];exact ⟨(p.1,b,uD p.2.2 kp),by simp,hp,pM.2 (.inl rfl)⟩
  ·rw [if_neg hp];obtain ⟨e',a1,a2,a3⟩:=y8 (l:=l) (kp:=kp) (nm:=r);exact ⟨e',by simp [a1],a2,a3⟩
theorem C4 {l:Lb} {kp:List Nat}:∀{nm:C7} {e:Lb×Option Nat×List (List Nat)} {k:List Nat},e∈qI nm l kp b→k∈e.2.2→(k=kp∧e.1=l)∨∃e'∈nm,e'.1=e.1∧k∈e'.2.2
  |[],e,k,h,hk=>by
    rw [tN] at h
    rw [aP.1 h] at hk ⊢
    exact .inl ⟨aP.1 hk,rfl⟩
  |p :: r,e,k,h,hk=>by
    rw [nV] at h
    by_cases hp:p.1=l
    · rw [if_pos hp] at h
      rcases ae.1 h with h1 | h1
      · rw [h1] at hk ⊢
        rcases pM.1 hk with h2 | h2
        · exact .inl ⟨h2,hp⟩
        · exact .inr ⟨p,by simp,rfl,h2⟩
      · exact .inr ⟨e,by simp [h1],rfl,hk⟩
    · rw [if_neg hp] at h
      rcases ae.1 h with h1 | h1
      · rw [h1] at hk ⊢
        exact .inr ⟨p,by simp,rfl,hk⟩
      · rcases C4 h1 hk with h2 | ⟨e',h2,h3,h4⟩
        · exact .inl h2
        · exact .inr ⟨e',by simp [h2],h3,h4⟩
theorem C3 {l:Lb} {kp:List Nat}:∀{nm:C7},(nm.map (·.1)).Nodup→((qI nm l kp b).map (·.1)).Nodup∧∀x∈(qI nm l kp b).map (·.1),x=l∨x∈nm.map (·.1)
  |[],_=>by rw [tN];exact ⟨by simp,λx hx=>.inl (by simpa using hx)⟩
  |p :: r,h=>by
    rw [nV]
    by_cases hp:p.1=l
    · rw [if_pos hp]
      exact ⟨h,λx hx=>.inr hx⟩
    · rw [if_neg hp]
      rw [cN,cw] at h
      obtain ⟨a,c⟩:=C3 (l:=l) (kp:=kp) h.2
      refine ⟨?_,λx hx=>?_⟩
      · rw [cN,cw]
        refine ⟨λhx=>?_,a⟩
        rcases c _ hx with h1 | h1
        · exact hp h1
        · exact h.1 h1
      · rw [cN,ae] at hx ⊢
        rcases hx with h1 | h1
        · exact .inr (.inl h1)
        · rcases c _ h1 with h2 | h2
          · exact .inl h2
          · exact .inr (.inr h2)
theorem SN.add {kp:List Nat} {o:Ob} (h:SN s) (hk:gP kp) (b:Option Nat):SN (kZ s kp o b):=by
 unfold kZ;cases hb:kq o.l&&(cD (cr kp) s.th).isNone with
 |false=>exact h
 |true=>
  rw [cond_true];rw [aS,Option.isNone_iff_eq_none] at hb;have hn:=ub hb.2;unfold qq;refine ⟨?_,(C3 h.ld).1,λx hx=>?_,λe he k hk=>?_,λx hx=>?_⟩
  ·unfold names;rw [bm,List.nodup_append];refine ⟨h.nd,by simp,λa ha c hc=>?_⟩;have hc:c=cr kp:=by simpa using hc
   rintro rfl
   rw [hc] at ha;exact hn ha
  ·rcases aR.1 hx with h1 | h1
   ·obtain ⟨e,he,a1,k,hk,a2⟩:=h.up x h1;obtain ⟨e',c1,c2,c3⟩:=C2 (l:=o.l) (kp:=kp) (b:=b) he;exact ⟨e',c1,c2.trans a1,k,c3 k hk,a2⟩
   ·rw [aP.1 h1];obtain ⟨e',c1,c2,c3⟩:=y8 (l:=o.l) (kp:=kp) (b:=b) (nm:=s.nm);exact ⟨e',c1,c2,kp,c3,rfl⟩
  ·rcases C4 he hk with ⟨rfl,h2⟩ | ⟨e',h1,h2,h3⟩
   ·exact ⟨(cr k,o),by simp,rfl,h2.symm⟩
   ·obtain ⟨x,hx,a1,a2⟩:=h.dn e' h1 k h3;exact ⟨x,by simp [hx],a1,a2.trans h2⟩
  ·rcases aR.1 hx with h1 | h1
   ·exact h.gd x h1
   ·rw [aP.1 h1];exact ⟨kp,rfl,hk⟩
theorem Ki:SN ⟨[],[]⟩:=⟨by simp [names],by simp,λp hp=>(by cases hp),λp hp=>(by cases hp),λp hp=>by cases hp⟩
end
end Go.Proofs.YtjpgfgajkjhonaaGreatDoor
namespace Go.Proofs.YtjpgfgajkjhonaaGreatDoor
open Go.Vx
set_option maxRecDepth 100000
def Pg (c:Int):Option (Int×Int×Int):=(inf c).map λi=>(i.ar,bif c==17 then i.po+1 else i.po,i.pu)
def Pq (c:Int):Bool:=c==15||(c==16||(c==18||(c==19||(c==20||(c==21||(c==24||c==31))))))
def UM (ar a:Int):Bool:=
 bif ar==0 then a==0 else bif ar==1 then decide (0≤a)&&decide (a<16) else bif ar==2 then decide (0≤a)&&decide (a<8) else bif ar==4 then decide (0≤a)&&decide (a<3) else bif ar==5 then decide (0≤a)&&decide (a≤63) else false
inductive LG:Int→List Op→Int→Prop
  |nil (h:Int):LG h [] h
  |cons {c a ar t p h h':Int} {r:List Op} (hk:Pg c=some (ar,t,p)) (hc:Pq c=false) (ha:UM ar a=true) (h1:t≤h) (h2:h - t+p≤8) (hr:LG (h - t+p) r h'):LG h (⟨c,a⟩ :: r) h'
def uK (d:List Op):Prop:=(LG 0 d 0∧d≠[]∧(d.getLast?.map (·.c))≠some 19∧d.length≤8)∨∃n:Int,0≤n∧n<8∧d = [⟨1,n⟩,⟨19,0⟩]
def vu (l:List Int) (a:Int) (c:List Op):H:=[.cells [.d (.sl 1 (dz l)),.d (.int .i64 a),.os 1],.rows 2 (c.map dO)]
def oQ (l:List Int):Prop:=∀x∈l,0≤x∧x≤255
theorem zx {K:Out→H→Prop} (l:List Int) (a:Int) (c:List Op) (hl:oQ l) (ha:0≤a∧a<1000000) (hk:∀n,0≤n∧n≤255→K (.ret (.d (.int .i64 n))) (vu l (a+1) c)):Sat Tryz.prog 82 [.p 0 0] (vu l a c) K:=by
 have hrl:=iX l;refine s82.go (keep:=false) rfl ?_
 repeat' ((conv=>whnf);first | exact zf | refine zm ?_ | refine (.inl ⟨by unfold eW;omega,?_⟩) | intro _)
 refine aX (λhgt=>?_) (λhle=>?_)
 ·skip
  repeat' ((conv=>whnf);first | exact zf | refine zm ?_ | intro _)
  exact hk 0 ⟨by omega,by omega⟩
 ·have hle:a+1≤l.length:=by have:=of_decide_eq_false hle;omega
  obtain ⟨x,hx⟩:∃x,l[a.toNat]? = some x:=⟨_,aB (by omega)⟩
  have hb:=hl x (aH hx)
  repeat' ((conv=>whnf);first | exact zf | refine zm ?_ | refine (.inl ⟨by unfold eW;omega,?_⟩) | intro _)
  refine ⟨[D.int .u8 x],⟨by omega,by rw [show a+1 - 1=a by omega];simp [dz,hx],rfl⟩,?_⟩
  repeat' ((conv=>whnf);first | exact zf | refine zm ?_ | refine (.inl ⟨by unfold eW;omega,?_⟩) | intro _)
  exact hk x hb
theorem jO {K:Out→H→Prop} (l:List Int) (a:Int) (c:List Op) (x y:Int) (hc:c.length≤1000000) (hk:K (.ret (.tu [])) (vu l a (c ++ [⟨x,y⟩]))):Sat Tryz.prog 81 [.p 0 0,.d (.int .i64 x),.d (.int .i64 y)] (vu l a c) K:=by
 have iP:(c.map dO).length=c.length:=by simp
 have he:(c ++ [(⟨x,y⟩:Op)]).map dO=c.map dO ++ [[.int .i64 x,.int .i64 y]]:=by simp [dO]
 unfold vu at hk;rw [he] at hk;refine s81.go (keep:=false) rfl ?_
 repeat' ((conv=>whnf);first | exact zf | refine zm ?_ | intro _)
 exact hk
theorem LM {n:Int} (h:0≤n∧n≤255) (k:Int) (hk:0<k):0≤n.tmod k∧n.tmod k<k:=by
 rw [bC h.1];exact ⟨Int.emod_nonneg _ (by omega),Int.emod_lt_of_pos _ hk⟩
theorem DN {K:Out→H→Prop} (l:List Int) (a:Int) (c:List Op) (hl:oQ l) (ha:0≤a∧a<1000000) (hc:c.length≤1000000) (hk:∀n,0≤n∧n<8→K (.ret (.tu [])) (vu l (a+1) (c ++ [⟨1,n⟩]))):Sat Tryz.prog 192 [.p 0 0] (vu l a c) K:=by
 refine s192.go (keep:=false) rfl ?_
 repeat' ((conv=>whnf);first | exact zf | refine zm ?_ | refine (.inr ?_:(∃_,_)∨_) | refine (zx l _ _ hl ha (λn hn=>?_)) | refine (jO l _ _ _ _ hc ?_) | intro _)
 exact hk _ (LM ‹_› 8 (by decide))
theorem Jt {K:Out→H→Prop} (l:List Int) (a:Int) (c:List Op) (hl:oQ l) (ha:0≤a∧a<1000000) (hc:c.length≤1000000) (hk:∀n,8≤n∧n<16→K (.ret (.tu [])) (vu l (a+1) (c ++ [⟨1,n⟩]))):Sat Tryz.prog 193 [.p 0 0] (vu l a c) K:=by
 refine s193.go (keep:=false) rfl ?_
 repeat' ((conv=>whnf);first | exact zf | refine zm ?_ | refine (.inr ?_:(∃_,_)∨_) | refine (zx l _ _ hl ha (λn hn=>?_)) | refine (jO l _ _ _ _ hc ?_) | refine (.inl ⟨by have:=LM ‹_› 8 (by decide);unfold eW;omega,?_⟩) | intro _)
 exact hk _ (by have:=LM hn 8 (by decide);omega)
theorem Bk {K:Out→H→Prop} (l:List Int) (a:Int) (c:List Op) (x:Int) (hc:c.length≤1000000) (hk:K (.ret (.tu [])) (vu l a (c ++ [⟨2,x⟩]))):Sat Tryz.prog 126 [.p 0 0,.d (.int .i64 x)] (vu l a c) K:=by
 refine s126.go (keep:=false) rfl ?_
 repeat' ((conv=>whnf);first | exact zf | refine zm ?_ | refine (.inr ?_:(∃_,_)∨_) | refine (jO l _ _ _ _ hc ?_) | intro _)
 exact hk
theorem lV {K:Out→H→Prop} (l:List Int) (a:Int) (c:List Op) (hl:oQ l) (ha:0≤a∧a<1000000)
  (hk:∀n,0≤n∧n≤255∧0≤n.tmod 8∧n.tmod 8<8∧0≤n.tmod 7∧n.tmod 7<7∧0≤n.tmod 2∧n.tmod 2<2∧0≤n.tmod 4∧n.tmod 4<4∧0≤n.tmod 32∧n.tmod 32<32→K (.ret (.d (.int .i64 n))) (vu l (a+1) c)):Sat Tryz.prog 82 [.p 0 0] (vu l a c) K:=by
 refine zx l a c hl ha λn hn=>hk n ?_;have h8:=LM hn 8 (by decide);have h7:=LM hn 7 (by decide);have h2:=LM hn 2 (by decide);have h4:=LM hn 4 (by decide);have h32:=LM hn 32 (by decide);exact ⟨hn.1,hn.2,h8.1,h8.2,h7.1,h7.2,h2.1,h2.2,h4.1,h4.2,h32.1,h32.2⟩
theorem Q7 {x0 x1 x2 x3 i:Int} {Q:Prop} (hi:0≤i∧i<4) (h0:0≤x0∧x0<8) (h1:0≤x1∧x1<8) (h2:0≤x2∧x2<8) (h3:0≤x3∧x3<8)
  (hQ:∀x,0≤x∧x<8→[[D.int .i64 x0],[D.int .i64 x1],[D.int .i64 x2],[D.int .i64 x3]][i.toNat]? = some [D.int .i64 x]→Q):Q:=by
 have h:i=0∨i=1∨i=2∨i=3:=by omega
 rcases h with rfl | rfl | rfl | rfl
 ·exact hQ x0 h0 rfl
 ·exact hQ x1 h1 rfl
 ·exact hQ x2 h2 rfl
 ·exact hQ x3 h3 rfl
theorem Q6 {x0 x1 x2 x3 i:Int} {K:List D→Prop} (hi:0≤i∧i<4) (h0:0≤x0∧x0<8) (h1:0≤x1∧x1<8) (h2:0≤x2∧x2<8) (h3:0≤x3∧x3<8)
  (hQ:∀x,0≤x∧x<8→K [D.int .i64 x]):∃row,(0≤i∧[[D.int .i64 x0],[D.int .i64 x1],[D.int .i64 x2],[D.int .i64 x3]][i.toNat]? = some row∧Nat.beq 1 1=true)∧K row:=
 Q7 hi h0 h1 h2 h3 λx hx hr=>⟨_,⟨hi.1,hr,rfl⟩,hQ x hx⟩
theorem Jb {c:Int} (h:7≤c∧c≤13):Pg c=some (0,2,1)∧Pq c=false:=by
 have:c=7∨c=8∨c=9∨c=10∨c=11∨c=12∨c=13:=by omega
 rcases this with rfl | rfl | rfl | rfl | rfl | rfl | rfl<;>exact ⟨rfl,rfl⟩
theorem ND {c:Int} (h:22≤c∧c≤23):Pg c=some (0,2,1)∧Pq c=false:=by
 have:c=22∨c=23:=by omega
 rcases this with rfl | rfl<;>exact ⟨rfl,rfl⟩
theorem NG {c:Int} (h:25≤c∧c≤26):Pg c=some (0,0,1)∧Pq c=false:=by
 have:c=25∨c=26:=by omega
 rcases this with rfl | rfl<;>exact ⟨rfl,rfl⟩
theorem NF {c:Int} (h:42≤c∧c≤43):Pg c=some (0,1,0)∧Pq c=false:=by
 have:c=42∨c=43:=by omega
 rcases this with rfl | rfl<;>exact ⟨rfl,rfl⟩
theorem LG.via {c a ar t p h h':Int} {r:List Op} (hk:Pg c=some (ar,t,p)∧Pq c=false) (ha:UM ar a=true) (h1:t≤h) (h2:h - t+p≤8) (hr:LG (h - t+p) r h'):LG h (⟨c,a⟩ :: r) h':=.cons hk.1 hk.2 ha h1 h2 hr
end Go.Proofs.YtjpgfgajkjhonaaGreatDoor
namespace Go.Proofs.YtjpgfgajkjhonaaGreatDoor
open Go.Vx
set_option maxRecDepth 100000
theorem int32 {k:Int} (h:0≤k∧k<32):k=0∨k=1∨k=2∨k=3∨k=4∨k=5∨k=6∨k=7∨k=8∨k=9∨k=10∨k=11∨k=12∨k=13∨k=14∨k=15∨k=16∨k=17∨k=18∨k=19∨k=20∨k=21∨k=22∨k=23∨k=24∨k=25∨k=26∨k=27∨k=28∨k=29∨k=30∨k=31:=by omega
set_option maxHeartbeats 4000000 in
theorem Ah {K:Out→H→Prop} (l:List Int) (a:Int) (c:List Op) (ab:Int) (hl:oQ l) (ha:0≤a∧a<100000) (hc:c.length≤100000) (hab:0≤ab∧ab<3)
    (hk:∀a' c',(∃d,uK d∧c'=c++d)→a≤a'∧a'≤a+8→K (.ret (.tu [])) (vu l a' c')):Sat Tryz.prog 125 [.p 0 0,.d (.int .i64 ab)] (vu l a c) K:=by
  refine s125.go (keep:=false) rfl ?_
  repeat' ((conv=>whnf);first | exact zf | refine zm ?_ | refine (.inr ?_:(∃_,_)∨_) | refine (lV l _ _ hl ⟨by omega,by omega⟩ (λn hn=>?_)) | intro _)
  rename_i n1 hn1
  conv=>whnf
  have h:=int32 (k:=n.tmod 32) ⟨by omega,by omega⟩
  generalize n.tmod 32=k at h ⊢
  replace hn1:0≤n1.tmod 8∧n1.tmod 8<8:=by omega
  clear hn
  rcases h with rfl | rfl | rfl | rfl | rfl | rfl | rfl | rfl | rfl | rfl | rfl | rfl | rfl | rfl | rfl | rfl | rfl | rfl | rfl | rfl | rfl | rfl | rfl | rfl | rfl | rfl | rfl | rfl | rfl | rfl | rfl | rfl
  all_goals
    repeat' ((conv=>whnf);first | exact zf | refine zm ?_ | refine (.inr ?_:(∃_,_)∨_) | refine (lV l _ _ hl ⟨by omega,by omega⟩ (λn hn=>?_)) | refine (jO l _ _ _ _ (by (try simp only [aL,aU,af]);omega) ?_) | refine (DN l _ _ hl ⟨by omega,by omega⟩ (by (try simp only [aL,aU,af]);omega) (λn hn=>?_)) | refine (Jt l _ _ hl ⟨by omega,by omega⟩ (by (try simp only [aL,aU,af]);omega) (λn hn=>?_)) | refine (Bk l _ _ _ (by (try simp only [aL,aU,af]);omega) ?_) | refine (.inl ⟨by unfold eW;omega,?_⟩) | refine (Q6 (by omega) (by omega) (by omega) (by omega) (by omega) (λx hx=>?_)) | refine aX (λhb=>?_) (λhb=>?_) | intro _)
  all_goals conv=>whnf
  all_goals first
    | (refine hk _ _ ⟨_, ?_, by first | (simp only [bM]; rfl) | rfl⟩ ⟨by omega, by omega⟩
       refine .inl ⟨?_,by simp,by first | (simp;done) | (simp;omega),by simp⟩
       repeat (first | exact .nil _ | refine .cons rfl rfl (by first | rfl | (simp [UM];omega)) (by decide) (by decide) ?_ | refine .via (Jb (by omega)) rfl (by decide) (by decide) ?_ | refine .via (ND (by omega)) rfl (by decide) (by decide) ?_ | refine .via (NG (by omega)) rfl (by decide) (by decide) ?_ | refine .via (NF (by omega)) rfl (by decide) (by decide) ?_))
    |(refine hk _ _ ⟨[⟨1,_⟩,⟨19,0⟩],.inr ⟨_,?_,?_,rfl⟩,bM c [⟨1,_⟩] [⟨19,0⟩]⟩ ⟨by omega,by omega⟩<;>omega)
    |fail
end Go.Proofs.YtjpgfgajkjhonaaGreatDoor
namespace Go.Proofs.YtjpgfgajkjhonaaGreatDoor
open Go.Vx
set_option maxRecDepth 100000
def Part (b:Int) (p:List Op):Prop:=
 ∃d,uK d∧(p=d∨p = [⟨2,1⟩,⟨16,b+2+d.length⟩]++d ∨
  (d.getLast?.map (·.c)=some 19∧p = [⟨20,b+1+d.length⟩]++d ++ [⟨3,1⟩]) ∨
  (d.getLast?.map (·.c)≠some 19∧p = [⟨20,b+3+d.length⟩]++d ++ [⟨21,0⟩,⟨15,b+4+d.length⟩,⟨3,1⟩]))
theorem uK.ne {d:List Op} (h:uK d):d≠[]:=by
 rcases h with h | ⟨n,_,_,rfl⟩
 ·exact h.2.1
 ·simp
theorem uK.len {d:List Op} (h:uK d):0<d.length∧d.length≤8:=by
 refine ⟨fp.2 h.ne,?_⟩;rcases h with h | ⟨n,_,_,rfl⟩
 ·exact h.2.2.2
 ·simp
theorem Bz {K:Out→H→Prop} (l:List Int) (a:Int) (c:List Op) (x y:Int) {rows:List (List D)} (hr:rows=c.map dO) (hc:c.length≤1000000) (hk:K (.ret (.tu [])) (vu l a (c ++ [⟨x,y⟩]))):Sat Tryz.prog 81 [.p 0 0,.d (.int .i64 x),.d (.int .i64 y)] [.cells [.d (.sl 1 (dz l)),.d (.int .i64 a),.os 1],.rows 2 rows] K:=by
 subst hr;exact jO l a c x y hc hk
theorem uK.last {d:List Op} (h:uK d):∃o,d.getLast? = some o∧∀c:List Op,((c++d).map dO)[(((c++d).map dO).length - 1:Int).toNat]? = some (dO o):=by
 have hl:=h.len;refine ⟨d.getLast h.ne,List.getLast?_eq_some_getLast h.ne,λc=>?_⟩;have e:((((c++d).map dO).length:Int) - 1).toNat=(c++d).length - 1:=by simp only [aK];omega
 rw [e,aC,aW (by rw [aL];omega),aL,show c.length+d.length - 1 - c.length=d.length - 1 by omega,List.getLast_eq_getElem,aB (by omega)];rfl
theorem wI (c d:List Op) (x:Op):((c++([x]++d)).map dO)[c.length]? = some (dO x):=by simp
theorem vV (c d:List Op) (x y:Op):((c++([x]++d)).map dO).set c.length (dO y)=(c++([y]++d)).map dO:=by
 rw [bm,bm,List.set_append_right _ _ (by simp)];simp
set_option maxHeartbeats 4000000 in
theorem mR {K:Out→H→Prop} (l:List Int) (a:Int) (c:List Op) (ab:Int) (hl:oQ l) (ha:0≤a∧a<10000) (hc:c.length≤10000) (hab:0≤ab∧ab<3)
    (hk:∀a' c',(∃p,Part c.length p∧c'=c++p)→a≤a'∧a'≤a+20→K (.ret (.tu [])) (vu l a' c')):Sat Tryz.prog 80 [.p 0 0,.d (.int .i64 ab)] (vu l a c) K:=by
  have iP:(c.map dO).length=c.length:=by simp
  refine s80.go (keep:=false) rfl ?_
  repeat' ((conv=>whnf);first | exact zf | refine zm ?_ | refine (.inr ?_:(∃_,_)∨_) | refine (lV l _ _ hl ⟨by omega,by omega⟩ (λn hn=>?_)) | intro _)
  refine aX (λhb=>?_) (λhb=>?_)
  · skip
    repeat' ((conv=>whnf);first | exact zf | refine zm ?_ | refine (.inr ?_:(∃_,_)∨_) | refine (jO l _ _ _ _ (by (try simp only [aL,aU,af]);omega) ?_) | refine (Ah l _ _ _ hl ⟨by omega,by omega⟩ (by (try simp only [aL,aU,af]);omega) hab (λa' c' hd ha'=>?_)) | intro _)
    obtain ⟨d,hd,rfl⟩:=hd
    obtain ⟨hd1,hd2⟩:=hd.len
    obtain ⟨o,ho,hrow⟩:=hd.last
    have hrow:=hrow (c ++ [(⟨20,0⟩:Op)])
    have hlen:((c ++ [(⟨20,0⟩:Op)]++d).map dO).length=c.length+1+d.length:=by simp only [aK,aL,aU,af]
    have hX:(((c ++ [(⟨20,0⟩:Op)]++d).map dO).length:Int)=c.length+1+d.length:=by rw [hlen];omega
    have hci:((((c.map dO).length:Nat):Int)).toNat=c.length:=by rw [Int.toNat_natCast,iP]
    cases h19:(o.c==19) with
    |true=>
      have hth:d.getLast?.map (·.c)=some 19:=by rw [ho];simpa using h19
      repeat' ((conv=>whnf);first | exact zf | refine zm ?_ | refine (.inl ⟨by unfold eW;omega,?_⟩) | intro _)
      refine ⟨dO o,hrow,?_⟩
      repeat' ((conv=>whnf);first | exact zf | refine zm ?_ | refine (gZ h19 ?_) | intro _)
      conv=>whnf
      refine ⟨dO (⟨20,0⟩:Op),by rw [hci,bM];exact wI c d _,⟨rfl,rfl,rfl⟩,?_⟩
      have hs:((c ++ [(⟨20,0⟩:Op)]++d).map dO).set (((c.map dO).length:Nat):Int).toNat (dO (⟨20,(((c ++ [(⟨20,0⟩:Op)]++d).map dO).length:Int)⟩:Op))=(c++([(⟨20,(c.length:Int)+1+d.length⟩:Op)]++d)).map dO:=by
        rw [hci,hX,bM]
        exact vV c d _ _
      repeat' ((conv=>whnf);first | exact zf | refine zm ?_ | refine (.inr ?_:(∃_,_)∨_) | refine (Bz l _ _ _ _ hs (by (try simp only [aL,aU,af]);omega) ?_) | intro _)
      conv=>whnf
      exact hk _ _ ⟨_,⟨d,hd,.inr (.inr (.inl ⟨hth,rfl⟩))⟩,by simp only [bM]⟩ ⟨by omega,by omega⟩
    |false=>
      have hth:d.getLast?.map (·.c)≠some 19:=by rw [ho];simpa using h19
      have hlen2:((c ++ [(⟨20,0⟩:Op)]++d ++ [(⟨21,0⟩:Op)]).map dO).length=c.length+2+d.length:=by simp only [aK,aL,aU,af];omega
      have hX2:(((c ++ [(⟨20,0⟩:Op)]++d ++ [(⟨21,0⟩:Op)]).map dO).length:Int)+2=c.length+4+d.length:=by rw [hlen2];omega
      repeat' ((conv=>whnf);first | exact zf | refine zm ?_ | refine (.inl ⟨by unfold eW;omega,?_⟩) | intro _)
      refine ⟨dO o,hrow,?_⟩
      repeat' ((conv=>whnf);first | exact zf | refine zm ?_ | refine (gr h19 ?_) | refine (.inr ?_:(∃_,_)∨_) | refine (jO l _ _ _ _ (by (try simp only [aL,aU,af]);omega) ?_) | refine (.inl ⟨by unfold eW;omega,?_⟩) | intro _)
      conv=>whnf
      have hs:((c ++ [(⟨20,0⟩:Op)]++d ++ [(⟨21,0⟩:Op)] ++ [(⟨15,(((c ++ [(⟨20,0⟩:Op)]++d ++ [(⟨21,0⟩:Op)]).map dO).length:Int)+2⟩:Op)]).map dO).set (((c.map dO).length:Nat):Int).toNat (dO (⟨20,(((c ++ [(⟨20,0⟩:Op)]++d ++ [(⟨21,0⟩:Op)] ++ [(⟨15,(((c ++ [(⟨20,0⟩:Op)]++d ++ [(⟨21,0⟩:Op)]).map dO).length:Int)+2⟩:Op)]).map dO).length:Int)⟩:Op))=(c++([(⟨20,(c.length:Int)+3+d.length⟩:Op)]++(d++([(⟨21,0⟩:Op)] ++ [(⟨15,(c.length:Int)+4+d.length⟩:Op)])))).map dO:=by
        rw [hci,hX2]
        have e:(((c ++ [(⟨20,0⟩:Op)]++d ++ [(⟨21,0⟩:Op)] ++ [(⟨15,(c.length:Int)+4+d.length⟩:Op)]).map dO).length:Int)=c.length+3+d.length:=by simp only [aK,aL,aU,af];omega
        rw [e]
        simp only [bM]
        exact vV c _ _ _
      refine ⟨dO (⟨20,0⟩:Op),by rw [hci];simp only [bM];exact wI c _ _,⟨rfl,rfl,rfl⟩,?_⟩
      repeat' ((conv=>whnf);first | exact zf | refine zm ?_ | refine (.inr ?_:(∃_,_)∨_) | refine (Bz l _ _ _ _ hs (by (try simp only [aL,aU,af]);omega) ?_) | intro _)
      conv=>whnf
      exact hk _ _ ⟨_,⟨d,hd,.inr (.inr (.inr ⟨hth,rfl⟩))⟩,by simp only [bM,List.cons_append,List.nil_append]⟩ ⟨by omega,by omega⟩
  · refine aX (λhb2=>?_) (λhb2=>?_)
    · skip
      repeat' ((conv=>whnf);first | exact zf | refine zm ?_ | refine (.inr ?_:(∃_,_)∨_) | refine (Bk l _ _ _ (by (try simp only [aL,aU,af]);omega) ?_) | refine (jO l _ _ _ _ (by (try simp only [aL,aU,af]);omega) ?_) | refine (Ah l _ _ _ hl ⟨by omega,by omega⟩ (by (try simp only [aL,aU,af]);omega) hab (λa' c' hd ha'=>?_)) | intro _)
      obtain ⟨d,hd,rfl⟩:=hd
      obtain ⟨hd1,hd2⟩:=hd.len
      have hlen:((c ++ [(⟨2,1⟩:Op)] ++ [(⟨16,0⟩:Op)]++d).map dO).length=c.length+2+d.length:=by simp only [aK,aL,aU,af]
      have hX:(((c ++ [(⟨2,1⟩:Op)] ++ [(⟨16,0⟩:Op)]++d).map dO).length:Int)=c.length+2+d.length:=by rw [hlen];omega
      have hci:((((c.map dO).length:Nat):Int)+1).toNat=(c ++ [(⟨2,1⟩:Op)]).length:=by rw [iP,aL];simp only [aU,af];omega
      have hs:((c ++ [(⟨2,1⟩:Op)] ++ [(⟨16,0⟩:Op)]++d).map dO).set ((((c.map dO).length:Nat):Int)+1).toNat (dO (⟨16,(((c ++ [(⟨2,1⟩:Op)] ++ [(⟨16,0⟩:Op)]++d).map dO).length:Int)⟩:Op))=(c++(([⟨2,1⟩,⟨16,(c.length:Int)+2+d.length⟩]:List Op)++d)).map dO:=by
        rw [hci,hX,bM (c ++ [(⟨2,1⟩:Op)])]
        rw [vV (c ++ [(⟨2,1⟩:Op)]) d _ _,bM]
        rfl
      repeat' ((conv=>whnf);first | exact zf | refine zm ?_ | refine (.inl ⟨by unfold eW;omega,?_⟩) | intro _)
      conv=>whnf
      refine ⟨dO (⟨16,0⟩:Op),by rw [hci,bM (c ++ [(⟨2,1⟩:Op)])];exact wI (c ++ [(⟨2,1⟩:Op)]) d _,⟨rfl,rfl,rfl⟩,?_⟩
      repeat' ((conv=>whnf);first | exact zf | refine zm ?_ | intro _)
      conv=>whnf
      have h2:=hk a' (c++(([⟨2,1⟩,⟨16,(c.length:Int)+2+d.length⟩]:List Op)++d)) ⟨_,⟨d,hd,.inr (.inl rfl)⟩,rfl⟩ ⟨by omega,by omega⟩
      unfold vu at h2
      rw [←hs] at h2
      exact h2
    · skip
      repeat' ((conv=>whnf);first | exact zf | refine zm ?_ | refine (.inr ?_:(∃_,_)∨_) | refine (Ah l _ _ _ hl ⟨by omega,by omega⟩ (by (try simp only [aL,aU,af]);omega) hab (λa' c' hd ha'=>?_)) | intro _)
      conv=>whnf
      obtain ⟨d,hd,rfl⟩:=hd
      exact hk _ _ ⟨d,⟨d,hd,.inl rfl⟩,rfl⟩ ⟨by omega,by omega⟩
end Go.Proofs.YtjpgfgajkjhonaaGreatDoor
namespace Go.Proofs.YtjpgfgajkjhonaaGreatDoor
open Go.Vx
set_option maxRecDepth 100000
structure UO where
  s:List UInt8
  i:List UInt8
def uA:List UO:=[⟨[],[]⟩,⟨[1],[]⟩,⟨[2],[]⟩,⟨[1,2],[]⟩,⟨[3],[]⟩,⟨[],[1]⟩,⟨[1],[1]⟩,⟨[0],[]⟩]
def QT (l:UO):List D:=[.str l.s,.str l.i]
def Pl (l:UO):Va:=⟨2,0,[],l.s,l.i⟩
def pE:List Int:=[0,1,2,3,4,5,9,14]
def Kh:List Va:=pE.map num++uA.map Pl
theorem GA:bJ Tryz.prog 17 [] (.d (.sl 2 (uA.map QT))):=by
 refine s17.go (keep:=false) rfl ?_
 repeat' ((conv=>whnf);first | exact zf | refine zm ?_ | intro _)
inductive my:List Op→Nat→Prop
  |nil:my [] 0
  |snoc {c p:List Op} {k:Nat} (h:my c k) (hp:Part c.length p):my (c++p) (k+1)
def H7 (c:List Op):Prop:=∃(p:List Op) (k:Nat) (n:Int),my p k∧1≤k∧k≤12∧0≤n∧n<8∧c=p ++ [⟨2,n⟩,⟨18,0⟩]
def qJ (f:Fn):Prop:=f.args=1∧f.vars=7∧H7 f.code
def wh (im:Im):Prop:=im.cs=Kh∧im.fs.length=3∧∀f∈im.fs,qJ f
def g1 (i:Nat):H:=
 match i with
 |0=>[.cells [.nl 5,.nl 3],.cells [.nl 5,.nl 3]]
 |i+1=>[.cells [.nl 5,.nl 3],.cells [.os 2,.nl 3],.rows 5 (((pE.take (i+1)).map num).map cE)]
theorem Part.len {b:Int} {p:List Op} (h:Part b p):p.length≤12:=by
 obtain ⟨d,hd,h⟩:=h;have:=hd.len;rcases h with rfl | rfl | ⟨_,rfl⟩ | ⟨_,rfl⟩<;>simp<;>omega
def cB:B:=.rows 5 (Kh.map cE)
def g3 (i:Nat) (fs:List Fn):H:=
 match i with
 |0=>[.cells [.nl 5,.nl 3],.cells [.os 2,.nl 3],cB]
 |_+1=>[.cells [.nl 5,.nl 3],.cells [.os 2,.os 5],cB,.no,.no,.rows 3 (fs.map db)]
theorem G8 (fs:List Fn) (f:Fn) {r:List (List D)} (h:r=fs.map db ++ [db f]):B.rows 3 r=B.rows 3 ((fs ++ [f]).map db):=by
 rw [h,bm];rfl
def Ud (l:List Int) (k:Nat) (a:Int) (c:List Op):H:=
 match k with
 |0=>[.cells [.nl 5,.nl 3],.cells [.os 2,.nl 3],cB,.cells [.d (.sl 1 (dz l)),.d (.int .i64 0),.nl 2]]
 |_+1=>[.cells [.nl 5,.nl 3],.cells [.os 2,.nl 3],cB,.cells [.d (.sl 1 (dz l)),.d (.int .i64 a),.os 4],.rows 2 (c.map dO)]
def Uc (fs:List Fn) (l:List Int) (k:Nat) (a:Int) (c:List Op):H:=
 match k with
 |0=>[.cells [.nl 5,.nl 3],.cells [.os 2,.os 5],cB,.no,.no,.rows 3 (fs.map db),.cells [.d (.sl 1 (dz l)),.d (.int .i64 0),.nl 2]]
 |_+1=>[.cells [.nl 5,.nl 3],.cells [.os 2,.os 5],cB,.no,.no,.rows 3 (fs.map db),.cells [.d (.sl 1 (dz l)),.d (.int .i64 a),.os 7],.rows 2 (c.map dO)]
def PI (q:Nat×Int×List Op):Prop:=my q.2.2 q.1∧q.1≤12∧0≤q.2.1∧q.2.1≤20*q.1∧q.2.2.length≤12*q.1
theorem PI.step {k:Nat} {a a':Int} {c c':List Op} (h:PI (k,a,c)) (hk:k<12) (hc:∃p,Part c.length p∧c'=c++p) (ha:a≤a'∧a'≤a+20):PI (k+1,a',c'):=by
 obtain ⟨h1,h2,h3,h4,h5⟩:=h;obtain ⟨p,hp,rfl⟩:=hc;have hpl:=hp.len;simp only at h1 h2 h3 h4 h5;exact ⟨.snoc h1 hp,hk,by simp only;omega,by simp only;omega,by simp only [aL];omega⟩
theorem PI.pQ {k:Nat} {a:Int} {c:List Op} (h:PI (k+1,a,c)) {n:Int} (hn:0≤n∧n<8):qJ ⟨1,7,c ++ [⟨2,n⟩] ++ [⟨18,0⟩]⟩:=
 ⟨rfl,rfl,c,k+1,n,h.1,Nat.le_add_left 1 k,h.2.1,hn.1,hn.2,by rw [bM];rfl⟩
set_option maxHeartbeats 4000000 in
theorem N5 {K : Out → H → Prop} (L : List (List Int)) (hL : ∀ l ∈ L, oQ l) (hk : ∀ im, wh im → K (.ret (wb im)) []) : Sat Tryz.prog 38 [.d (.sl 1 (L.map fun l => [D.sl 1 (dz l)]))] [] K := by
  generalize hrows:(L.map λl=>[D.sl 1 (dz l)])=rowsL
  refine s38.go (keep:=false) rfl ?_
  repeat' ((conv=>whnf);first | exact zf | refine zm ?_ | intro _)
  conv=>whnf
  refine bV [(0,.d (.sl 1 rowsL)),(2,.p 0 0),(3,.p 1 0),(12,.d (.sl 1 (pE.map λx=>[D.int .i64 x]))),(13,.d (.int .i64 8))] (λi:Nat=>i≤8) (λi=>[(14,.d (.int .i64 i))]) g1 (λi=>8 - i) 0 (aj _) ?_ ?_ ?_ (λi hi=>?_)
  · exact zzz
  · exact ⟨a8 rfl,a8 rfl,trivial⟩
  · exact (by kernel_rfl)
  have hn8:∀i:Nat,i<8→∃x,pE[i]? = some x∧(pE.map λx=>[D.int .i64 x])[i]? = some [D.int .i64 x]:=λi hi=>⟨pE[i]'hi,aB hi,by rw [aC,aB (show i<pE.length from hi)];rfl⟩
  rcases i with _ | i
  · skip
    repeat' ((conv=>whnf);first | exact zf | refine zm ?_ | intro _)
    refine ⟨[.int .i64 0],⟨by omega,rfl,rfl⟩,?_⟩
    repeat' ((conv=>whnf);first | exact zf | refine zm ?_ | refine (.inl ⟨by unfold eW;omega,?_⟩) | intro _)
    exact ⟨1,by omega,by omega,zzz,⟨a8 rfl,a8 rfl,a8 rfl,trivial⟩,rfl⟩
  · have hi:i+1≤8:=hi
    have iP:(((pE.take (i+1)).map num).map cE).length=i+1:=by simp only [aK,ah];exact eZ hi
    repeat' ((conv=>whnf);first | exact zf | refine zm ?_ | intro _)
    refine aX (λhlt=>?_) (λhge=>?_)
    · have hlt:i+1<8:=by have:=of_decide_eq_true hlt;omega
      obtain ⟨x,hx,hrow⟩:=hn8 (i+1) hlt
      have hs:((pE.take (i+2)).map num).map cE=((pE.take (i+1)).map num).map cE ++ [cE (num x)]:=by
        rw [cF,hx]
        simp only [Option.toList,bm,cN,jy]
      repeat' ((conv=>whnf);first | exact zf | refine zm ?_ | intro _)
      refine ⟨[.int .i64 x],⟨by omega,by rw [show ((i+1:Nat):Int).toNat=i+1 by omega];exact hrow,rfl⟩,?_⟩
      repeat' ((conv=>whnf);first | exact zf | refine zm ?_ | refine (.inl ⟨by unfold eW;omega,?_⟩) | intro _)
      exact ⟨i+2,by omega,by omega,zzz,⟨a8 rfl,a8 rfl,a8 (congrArg (B.rows 5) hs.symm),trivial⟩,rfl⟩
    · have hge:i=7:=by have:=of_decide_eq_false hge;omega
      subst hge
      repeat' ((conv=>whnf);first | exact zf | refine zm ?_ | intro _)
      conv=>whnf
      refine bV [(0,.d (.sl 1 rowsL)),(2,.p 0 0),(3,.p 1 0)] (λj:Nat=>j≤8) (λj=>[(6,.d (.int .i64 j))]) (λj=>[.cells [.nl 5,.nl 3],.cells [.os 2,.nl 3],.rows 5 ((pE.map num++(uA.take j).map Pl).map cE)]) (λj=>8 - j) 0 (aj _) ?_ ?_ ?_ (λj hj=>?_)
      · exact zzz
      · exact ⟨a8 rfl,a8 rfl,a8 rfl,trivial⟩
      · exact (by kernel_rfl)
      have hcl2:((pE.map num++(uA.take j).map Pl).map cE).length=8+j:=by
        simp only [aK,aL,ah]
        rw [eZ (show j≤uA.length from hj)]
        rfl
      repeat' ((conv=>whnf);first | exact zf | refine zm ?_ | intro _)
      refine aX (λhlt=>?_) (λhge=>?_)
      · have hlt:j<8:=by have:=of_decide_eq_true hlt;omega
        obtain ⟨x,hx⟩:∃x,uA[j]? = some x:=⟨uA[j]'hlt,aB hlt⟩
        have hs:(pE.map num++(uA.take (j+1)).map Pl).map cE=(pE.map num++(uA.take j).map Pl).map cE ++ [cE (Pl x)]:=by
          rw [cF,hx]
          simp only [Option.toList,bm,cN,jy,bM]
        repeat' ((conv=>whnf);first | exact zf | refine zm ?_ | refine zc GA ?_ | intro _)
        refine ⟨QT x,⟨by omega,by simp [hx],rfl⟩,?_⟩
        repeat' ((conv=>whnf);first | exact zf | refine zm ?_ | refine (.inl ⟨by unfold eW;omega,?_⟩) | intro _)
        exact ⟨j+1,by omega,by omega,zzz,⟨a8 rfl,a8 rfl,a8 (congrArg (B.rows 5) hs.symm),trivial⟩,rfl⟩
      · have hge:j=8:=by have:=of_decide_eq_false hge;omega
        subst hge
        repeat' ((conv=>whnf);first | exact zf | refine zm ?_ | intro _)
        conv=>whnf
        refine bV [(0,.d (.sl 1 rowsL)),(2,.p 0 0),(3,.p 1 0)] (λp:Nat×List Fn=>p.1≤3∧p.2.length=p.1∧∀f∈p.2,qJ f) (λp=>[(7,.d (.int .i64 p.1))]) (λp=>g3 p.1 p.2) (λp=>3 - p.1) (0,[]) ⟨aj _,rfl,λ_ h=>nomatch h⟩ ?_ ?_ ?_ (λp hp=>?_)
        · exact zzz
        · exact ⟨a8 rfl,a8 rfl,a8 rfl,trivial⟩
        · exact (by kernel_rfl)
        obtain ⟨i,fs⟩:=p
        obtain ⟨hi3,hfl,hfs⟩:=hp
        have hi3:i≤3:=hi3
        have hfl:fs.length=i:=hfl
        have hfs:∀f∈fs,qJ f:=hfs
        have hrl:rowsL.length=L.length:=by rw [←hrows,aK]
        have hget:∀k,k<L.length→∃l,oQ l∧rowsL[k]? = some [D.sl 1 (dz l)]:=λk hk=>⟨L[k],hL _ (cV hk),by rw [←hrows,aC,aB hk];rfl⟩
        rcases i with _ | i
        · skip
          repeat' ((conv=>whnf);first | exact zf | refine zm ?_ | intro _)
          refine aX (λhin=>?_) (λhout=>?_)
          · have hin:0<L.length:=by have:=of_decide_eq_true hin;omega
            obtain ⟨l,hl,hrow⟩:=hget 0 hin
            repeat' ((conv=>whnf);first | exact zf | refine zm ?_ | intro _)
            refine ⟨[D.sl 1 (dz l)],⟨by omega,hrow,rfl⟩,?_⟩
            repeat' ((conv=>whnf);first | exact zf | refine zm ?_ | refine (.inl ⟨by unfold eW;omega,?_⟩) | intro _)
            conv=>whnf
            refine bV [(0,.d (.sl 1 rowsL)),(2,.p 0 0),(3,.p 1 0),(7,.d (.int .i64 0)),(8,.p 3 0),(9,.d (.int .i64 (1)))] PI (λq=>[(10,.d (.int .i64 q.1))]) (λq=>Ud (l) q.1 q.2.1 q.2.2) (λq=>12 - q.1) (0,0,[]) ⟨.nil,by decide,by decide,by decide,by decide⟩ ?_ ?_ ?_ (λq hq=>?_)
            · exact zzz
            · exact ⟨a8 rfl,a8 rfl,a8 rfl,a8 rfl,trivial⟩
            · exact (by kernel_rfl)
            obtain ⟨k,a,c⟩:=q
            obtain ⟨q1,q2,q3,q4,q5⟩:=hq
            have hul:=iX (l)
            have htd:0≤((dz (l)).length:Int).tdiv 6:=Int.tdiv_nonneg (by omega) (by decide)
            rcases k with _ | k
            · skip
              repeat' ((conv=>whnf);first | exact zf | refine zm ?_ | refine (.inl ⟨by unfold eW;omega,?_⟩) | intro _)
              refine aX (λhb=>?_) (λhb=>absurd (of_decide_eq_false hb) (by omega))
              repeat' ((conv=>whnf);first | exact zf | refine zm ?_ | refine (.inr ?_:(∃_,_)∨_) | refine (Sat.own (by decide) 0 2 rfl rfl ?_) | refine (mR (l) 0 [] _ hl ⟨by omega,by omega⟩ (by decide) ⟨by decide,by decide⟩ (λa' c' hc' ha'=>?_)) | intro _)
              repeat' ((conv=>whnf);first | exact zf | refine zm ?_ | refine (.inl ⟨by unfold eW;omega,?_⟩) | intro _)
              exact ⟨(1,a',c'),PI.step (k:=0) (a:=0) (c:=[]) ⟨.nil,by decide,by decide,by decide,by decide⟩ (by decide) hc' ha',(by show (12 - 1:Nat)<12 - 0;decide),zzz,⟨a8 rfl,a8 rfl,a8 rfl,a8 rfl,a8 rfl,trivial⟩,rfl⟩
            · have q3:0≤a:=q3
              have q4:a≤20*((k+1:Nat):Int):=q4
              have q5:c.length≤12*(k+1):=q5
              have q2:k+1≤12:=q2
              have q1:my c (k+1):=q1
              have hcl2:(c.map dO).length=c.length:=by simp
              repeat' ((conv=>whnf);first | exact zf | refine (iw [4] ?_) | refine zm ?_ | refine (.inl ⟨by unfold eW;omega,?_⟩) | refine (.inr ?_:(∃_,_)∨_) | refine (mR (l) a c _ hl ⟨by omega,by omega⟩ (by omega) ⟨by decide,by decide⟩ (λa' c' hc' ha'=>?_)) | refine (lV (l) _ _ hl ⟨by omega,by omega⟩ (λn hn=>?_)) | refine (jO (l) _ _ _ _ (by (try simp only [aL,aU,af]);omega) ?_) | refine aX (λhb=>?_) (λhb=>?_) | intro _)
              · have hk12:k+2≤12:=by have:=of_decide_eq_true (by assumption:decide (((k+1:Nat):Int)<12)=true);omega
                exact ⟨(k+2,a',c'),PI.step ⟨q1,q2,q3,q4,q5⟩ (by omega) hc' ha',(by show 12 - (k+2)<12 - (k+1);omega),zzz,⟨a8 rfl,a8 rfl,a8 rfl,a8 rfl,a8 rfl,trivial⟩,rfl⟩
              all_goals
                exact ⟨(1,[⟨1,7,c ++ [(⟨2,n.tmod 8⟩:Op)] ++ [(⟨18,0⟩:Op)]⟩]),⟨(by show (1:Nat)≤3;decide),rfl,λf hf=>by rw [aP.1 hf];exact PI.pQ ⟨q1,q2,q3,q4,q5⟩ ⟨by omega,by omega⟩⟩,(by show (3 - 1:Nat)<3 - 0;decide),zzz,⟨a8 rfl,a8 rfl,a8 rfl,a8 rfl,trivial⟩,rfl⟩
          · skip
            repeat' ((conv=>whnf);first | exact zf | refine zm ?_ | refine (.inl ⟨by unfold eW;omega,?_⟩) | intro _)
            conv=>whnf
            obtain ⟨l,hl,hl0⟩:∃l:List Int,oQ l∧dz l = []:=⟨[],(λ_ h=>nomatch h),rfl⟩
            refine bV [(0,.d (.sl 1 rowsL)),(2,.p 0 0),(3,.p 1 0),(7,.d (.int .i64 0)),(8,.p 3 0),(9,.d (.int .i64 (1)))] PI (λq=>[(10,.d (.int .i64 q.1))]) (λq=>Ud (l) q.1 q.2.1 q.2.2) (λq=>12 - q.1) (0,0,[]) ⟨.nil,by decide,by decide,by decide,by decide⟩ ?_ ?_ ?_ (λq hq=>?_)
            · exact zzz
            · exact ⟨a8 rfl,a8 rfl,a8 rfl,.inr ⟨(by rw [hl0];exact rfl),gY rfl,gY rfl,trivial⟩,trivial⟩
            · exact (by kernel_rfl)
            obtain ⟨k,a,c⟩:=q
            obtain ⟨q1,q2,q3,q4,q5⟩:=hq
            have hul:=iX (l)
            have htd:0≤((dz (l)).length:Int).tdiv 6:=Int.tdiv_nonneg (by omega) (by decide)
            rcases k with _ | k
            · skip
              repeat' ((conv=>whnf);first | exact zf | refine zm ?_ | refine (.inl ⟨by unfold eW;omega,?_⟩) | intro _)
              refine aX (λhb=>?_) (λhb=>absurd (of_decide_eq_false hb) (by omega))
              repeat' ((conv=>whnf);first | exact zf | refine zm ?_ | refine (.inr ?_:(∃_,_)∨_) | refine (Sat.own (by decide) 0 2 rfl rfl ?_) | refine (mR (l) 0 [] _ hl ⟨by omega,by omega⟩ (by decide) ⟨by decide,by decide⟩ (λa' c' hc' ha'=>?_)) | intro _)
              repeat' ((conv=>whnf);first | exact zf | refine zm ?_ | refine (.inl ⟨by unfold eW;omega,?_⟩) | intro _)
              exact ⟨(1,a',c'),PI.step (k:=0) (a:=0) (c:=[]) ⟨.nil,by decide,by decide,by decide,by decide⟩ (by decide) hc' ha',(by show (12 - 1:Nat)<12 - 0;decide),zzz,⟨a8 rfl,a8 rfl,a8 rfl,a8 rfl,a8 rfl,trivial⟩,rfl⟩
            · have q3:0≤a:=q3
              have q4:a≤20*((k+1:Nat):Int):=q4
              have q5:c.length≤12*(k+1):=q5
              have q2:k+1≤12:=q2
              have q1:my c (k+1):=q1
              have hcl2:(c.map dO).length=c.length:=by simp
              repeat' ((conv=>whnf);first | exact zf | refine (iw [4] ?_) | refine zm ?_ | refine (.inl ⟨by unfold eW;omega,?_⟩) | refine (.inr ?_:(∃_,_)∨_) | refine (mR (l) a c _ hl ⟨by omega,by omega⟩ (by omega) ⟨by decide,by decide⟩ (λa' c' hc' ha'=>?_)) | refine (lV (l) _ _ hl ⟨by omega,by omega⟩ (λn hn=>?_)) | refine (jO (l) _ _ _ _ (by (try simp only [aL,aU,af]);omega) ?_) | refine aX (λhb=>?_) (λhb=>?_) | intro _)
              · have hk12:k+2≤12:=by have:=of_decide_eq_true (by assumption:decide (((k+1:Nat):Int)<12)=true);omega
                exact ⟨(k+2,a',c'),PI.step ⟨q1,q2,q3,q4,q5⟩ (by omega) hc' ha',(by show 12 - (k+2)<12 - (k+1);omega),zzz,⟨a8 rfl,a8 rfl,a8 rfl,a8 rfl,a8 rfl,trivial⟩,rfl⟩
              all_goals
                exact ⟨(1,[⟨1,7,c ++ [(⟨2,n.tmod 8⟩:Op)] ++ [(⟨18,0⟩:Op)]⟩]),⟨(by show (1:Nat)≤3;decide),rfl,λf hf=>by rw [aP.1 hf];exact PI.pQ ⟨q1,q2,q3,q4,q5⟩ ⟨by omega,by omega⟩⟩,(by show (3 - 1:Nat)<3 - 0;decide),zzz,⟨a8 rfl,a8 rfl,a8 rfl,a8 rfl,trivial⟩,rfl⟩
        · have hfl3:(fs.map db).length=i+1:=by rw [aK,hfl]
          repeat' ((conv=>whnf);first | exact zf | refine zm ?_ | intro _)
          refine aX (λhlt=>?_) (λhge=>?_)
          · have hlt:i+1<3:=by have:=of_decide_eq_true hlt;omega
            have hab:0≤(((i+1:Nat):Int)+1).tmod 3∧(((i+1:Nat):Int)+1).tmod 3<3:=by
              rw [bC (by omega)]
              omega
            repeat' ((conv=>whnf);first | exact zf | refine zm ?_ | intro _)
            refine aX (λhin=>?_) (λhout=>?_)
            · have hin:i+1<L.length:=by have:=of_decide_eq_true hin;omega
              obtain ⟨l,hl,hrow⟩:=hget (i+1) hin
              repeat' ((conv=>whnf);first | exact zf | refine zm ?_ | intro _)
              refine ⟨[D.sl 1 (dz l)],⟨by omega,by rw [show ((i+1:Nat):Int).toNat=i+1 by omega];exact hrow,rfl⟩,?_⟩
              repeat' ((conv=>whnf);first | exact zf | refine zm ?_ | refine (.inl ⟨by unfold eW;omega,?_⟩) | intro _)
              conv=>whnf
              refine bV [(0,.d (.sl 1 rowsL)),(2,.p 0 0),(3,.p 1 0),(7,.d (.int .i64 ((i+1:Nat):Int))),(8,.p 6 0),(9,.d (.int .i64 ((((i+1:Nat):Int)+1).tmod 3)))] PI (λq=>[(10,.d (.int .i64 q.1))]) (λq=>Uc fs (l) q.1 q.2.1 q.2.2) (λq=>12 - q.1) (0,0,[]) ⟨.nil,by decide,by decide,by decide,by decide⟩ ?_ ?_ ?_ (λq hq=>?_)
              · exact zzz
              · exact ⟨a8 rfl,a8 rfl,a8 rfl,a8 rfl,a8 rfl,trivial⟩
              · exact (by kernel_rfl)
              obtain ⟨k,a,c⟩:=q
              obtain ⟨q1,q2,q3,q4,q5⟩:=hq
              have hul:=iX (l)
              have htd:0≤((dz (l)).length:Int).tdiv 6:=Int.tdiv_nonneg (by omega) (by decide)
              rcases k with _ | k
              · skip
                repeat' ((conv=>whnf);first | exact zf | refine zm ?_ | refine (.inl ⟨by unfold eW;omega,?_⟩) | intro _)
                refine aX (λhb=>?_) (λhb=>absurd (of_decide_eq_false hb) (by omega))
                repeat' ((conv=>whnf);first | exact zf | refine zm ?_ | refine (.inr ?_:(∃_,_)∨_) | refine (Sat.own (by decide) 0 2 rfl rfl ?_) | refine (mR (l) 0 [] _ hl ⟨by omega,by omega⟩ (by decide) hab (λa' c' hc' ha'=>?_)) | intro _)
                repeat' ((conv=>whnf);first | exact zf | refine zm ?_ | refine (.inl ⟨by unfold eW;omega,?_⟩) | intro _)
                exact ⟨(1,a',c'),PI.step (k:=0) (a:=0) (c:=[]) ⟨.nil,by decide,by decide,by decide,by decide⟩ (by decide) hc' ha',(by show (12 - 1:Nat)<12 - 0;decide),zzz,⟨a8 rfl,a8 rfl,a8 rfl,a8 rfl,a8 rfl,a8 rfl,trivial⟩,rfl⟩
              · have q3:0≤a:=q3
                have q4:a≤20*((k+1:Nat):Int):=q4
                have q5:c.length≤12*(k+1):=q5
                have q2:k+1≤12:=q2
                have q1:my c (k+1):=q1
                have hcl2:(c.map dO).length=c.length:=by simp
                repeat' ((conv=>whnf);first | exact zf | refine (iw [7] ?_) | refine zm ?_ | refine (.inl ⟨by unfold eW;omega,?_⟩) | refine (.inr ?_:(∃_,_)∨_) | refine (mR (l) a c _ hl ⟨by omega,by omega⟩ (by omega) hab (λa' c' hc' ha'=>?_)) | refine (lV (l) _ _ hl ⟨by omega,by omega⟩ (λn hn=>?_)) | refine (jO (l) _ _ _ _ (by (try simp only [aL,aU,af]);omega) ?_) | refine aX (λhb=>?_) (λhb=>?_) | intro _)
                · have hk12:k+2≤12:=by have:=of_decide_eq_true (by assumption:decide (((k+1:Nat):Int)<12)=true);omega
                  exact ⟨(k+2,a',c'),PI.step ⟨q1,q2,q3,q4,q5⟩ (by omega) hc' ha',(by show 12 - (k+2)<12 - (k+1);omega),zzz,⟨a8 rfl,a8 rfl,a8 rfl,a8 rfl,a8 rfl,a8 rfl,trivial⟩,rfl⟩
                all_goals
                  exact ⟨(i+2,fs ++ [⟨1,7,c ++ [(⟨2,n.tmod 8⟩:Op)] ++ [(⟨18,0⟩:Op)]⟩]),⟨(by show i+2≤3;omega),(by simp only [aL,aU,af];omega),λf hf=>(aR.1 hf).elim (hfs f) λhf=>by rw [aP.1 hf];exact PI.pQ ⟨q1,q2,q3,q4,q5⟩ ⟨by omega,by omega⟩⟩,(by show 3 - (i+2)<3 - (i+1);omega),zzz,⟨a8 rfl,a8 rfl,a8 rfl,a8 (G8 fs ⟨1,7,c ++ [(⟨2,n.tmod 8⟩:Op)] ++ [(⟨18,0⟩:Op)]⟩ rfl),trivial⟩,rfl⟩
            · skip
              repeat' ((conv=>whnf);first | exact zf | refine zm ?_ | refine (.inl ⟨by unfold eW;omega,?_⟩) | intro _)
              conv=>whnf
              obtain ⟨l,hl,hl0⟩:∃l:List Int,oQ l∧dz l = []:=⟨[],(λ_ h=>nomatch h),rfl⟩
              refine bV [(0,.d (.sl 1 rowsL)),(2,.p 0 0),(3,.p 1 0),(7,.d (.int .i64 ((i+1:Nat):Int))),(8,.p 6 0),(9,.d (.int .i64 ((((i+1:Nat):Int)+1).tmod 3)))] PI (λq=>[(10,.d (.int .i64 q.1))]) (λq=>Uc fs (l) q.1 q.2.1 q.2.2) (λq=>12 - q.1) (0,0,[]) ⟨.nil,by decide,by decide,by decide,by decide⟩ ?_ ?_ ?_ (λq hq=>?_)
              · exact zzz
              · exact ⟨a8 rfl,a8 rfl,a8 rfl,a8 rfl,.inr ⟨(by rw [hl0];exact rfl),gY rfl,gY rfl,trivial⟩,trivial⟩
              · exact (by kernel_rfl)
              obtain ⟨k,a,c⟩:=q
              obtain ⟨q1,q2,q3,q4,q5⟩:=hq
              have hul:=iX (l)
              have htd:0≤((dz (l)).length:Int).tdiv 6:=Int.tdiv_nonneg (by omega) (by decide)
              rcases k with _ | k
              · skip
                repeat' ((conv=>whnf);first | exact zf | refine zm ?_ | refine (.inl ⟨by unfold eW;omega,?_⟩) | intro _)
                refine aX (λhb=>?_) (λhb=>absurd (of_decide_eq_false hb) (by omega))
                repeat' ((conv=>whnf);first | exact zf | refine zm ?_ | refine (.inr ?_:(∃_,_)∨_) | refine (Sat.own (by decide) 0 2 rfl rfl ?_) | refine (mR (l) 0 [] _ hl ⟨by omega,by omega⟩ (by decide) hab (λa' c' hc' ha'=>?_)) | intro _)
                repeat' ((conv=>whnf);first | exact zf | refine zm ?_ | refine (.inl ⟨by unfold eW;omega,?_⟩) | intro _)
                exact ⟨(1,a',c'),PI.step (k:=0) (a:=0) (c:=[]) ⟨.nil,by decide,by decide,by decide,by decide⟩ (by decide) hc' ha',(by show (12 - 1:Nat)<12 - 0;decide),zzz,⟨a8 rfl,a8 rfl,a8 rfl,a8 rfl,a8 rfl,a8 rfl,trivial⟩,rfl⟩
              · have q3:0≤a:=q3
                have q4:a≤20*((k+1:Nat):Int):=q4
                have q5:c.length≤12*(k+1):=q5
                have q2:k+1≤12:=q2
                have q1:my c (k+1):=q1
                have hcl2:(c.map dO).length=c.length:=by simp
                repeat' ((conv=>whnf);first | exact zf | refine (iw [7] ?_) | refine zm ?_ | refine (.inl ⟨by unfold eW;omega,?_⟩) | refine (.inr ?_:(∃_,_)∨_) | refine (mR (l) a c _ hl ⟨by omega,by omega⟩ (by omega) hab (λa' c' hc' ha'=>?_)) | refine (lV (l) _ _ hl ⟨by omega,by omega⟩ (λn hn=>?_)) | refine (jO (l) _ _ _ _ (by (try simp only [aL,aU,af]);omega) ?_) | refine aX (λhb=>?_) (λhb=>?_) | intro _)
                · have hk12:k+2≤12:=by have:=of_decide_eq_true (by assumption:decide (((k+1:Nat):Int)<12)=true);omega
                  exact ⟨(k+2,a',c'),PI.step ⟨q1,q2,q3,q4,q5⟩ (by omega) hc' ha',(by show 12 - (k+2)<12 - (k+1);omega),zzz,⟨a8 rfl,a8 rfl,a8 rfl,a8 rfl,a8 rfl,a8 rfl,trivial⟩,rfl⟩
                all_goals
                  exact ⟨(i+2,fs ++ [⟨1,7,c ++ [(⟨2,n.tmod 8⟩:Op)] ++ [(⟨18,0⟩:Op)]⟩]),⟨(by show i+2≤3;omega),(by simp only [aL,aU,af];omega),λf hf=>(aR.1 hf).elim (hfs f) λhf=>by rw [aP.1 hf];exact PI.pQ ⟨q1,q2,q3,q4,q5⟩ ⟨by omega,by omega⟩⟩,(by show 3 - (i+2)<3 - (i+1);omega),zzz,⟨a8 rfl,a8 rfl,a8 rfl,a8 (G8 fs ⟨1,7,c ++ [(⟨2,n.tmod 8⟩:Op)] ++ [(⟨18,0⟩:Op)]⟩ rfl),trivial⟩,rfl⟩
          · have hge:i=2:=by have:=of_decide_eq_false hge;omega
            subst hge
            repeat' ((conv=>whnf);first | exact zf | refine zm ?_ | intro _)
            exact hk ⟨Kh,fs⟩ ⟨rfl,hfl,hfs⟩
end Go.Proofs.YtjpgfgajkjhonaaGreatDoor
namespace Go.Proofs.YtjpgfgajkjhonaaGreatDoor
open Go.Vx
set_option maxRecDepth 100000
def y7 (s:bq) (kp:List Nat) (o:Ob) (b:Option Nat):bq:=bif decide (3≤o.k)&&decide (o.k≤7) then kZ s kp o b else s
theorem PT {K:Out→H→Prop} (s:bq) (kp:List Nat) (o:Ob) (hn:gP kp) (hs:lu s) (hl:cO o.l) (hq:o.va.q.length<100000000) (hk:∀b n,K (.ret (.d (.int .i64 n))) (kH (y7 s kp o b))) :
  Sat Tryz.prog 14 [.p 0 0,.d (.str (cr kp)),gH o] (kH s) K:=by
 unfold y7 at hk
 by_cases h:3≤o.k∧o.k≤7
 ·rw [show (decide (3≤o.k)&&decide (o.k≤7))=true by simp [h.1,h.2]] at hk;exact Ap s kp o ⟨hn,hs,hl,h.1,h.2,hq⟩ hk
 ·rw [show (decide (3≤o.k)&&decide (o.k≤7))=false by rw [Bool.and_eq_false_iff,decide_eq_false_iff_not,decide_eq_false_iff_not];omega] at hk;exact C1 s kp o hn hl (.inl (by omega)) (hk none 1)
def jI (p:Int×Ob):List D:=.int .u8 p.1 :: fF p.2
structure u4 (mx:Int) (q:Nat) (p:Int×Ob):Prop where
  i:0≤p.1∧p.1≤255
  o:kE mx q p.2
def sI (o:Ob):Ob:={ o with l:=vQ o.l }
theorem nE (l:Lb):(vQ l).s.length≤4∧(vQ l).i.length≤4:=⟨List.length_take_le _ _,List.length_take_le _ _⟩
theorem Fp {mx:Int} {q:Nat} {o:Ob} (h:kE mx q o):kE mx q (sI o):=
 ⟨And.intro (aY (nE o.l).1 (by decide)) (aY (nE o.l).2 (by decide)),h.v,h.w,h.qs,h.ql,h.m⟩
def qS:List (List Nat):=[[0],[1],[0,0],[0,1],[2],[10],[1,0],[0,0,0]]
theorem Gn (n:Nat) (h:n<10):Lib.decDigits n = [UInt8.ofNat (48+n)]:=by
 unfold Lib.decDigits;rw [dif_pos h]
theorem Rw:Lib.decDigits 10 = [49,48]:=by
 unfold Lib.decDigits;rw [dif_neg (by decide),Gn _ (by decide)];rfl
theorem px:iY=qS.map cr:=by
 unfold qS;simp only [cN,jy,cr,o5,nr,List.flatMap_nil,cQ,Rw,Gn 0 (by decide),Gn 1 (by decide),Gn 2 (by decide)];rfl
theorem DQ {i:Int} (h:0≤i∧i<8):∃kp,kp∈qS∧gP kp∧iY[i.toNat]? = some (cr kp):=by
 have hl:i.toNat<qS.length:=by show i.toNat<8;omega
 have hg:∀k∈qS,gP k:=by
  have:∀k∈qS,k≠[]∧k.length≤24∧∀n∈k,n<100:=by decide
  exact this
 exact ⟨qS[i.toNat],cV hl,hg _ (cV hl),by rw [px,aC,aB hl];rfl⟩
structure C8 (mx:Int) (q n:Nat) (s:bq):Prop where
  so:gb mx q n s
  co:SN s
  nm:∀p∈s.th,p.1∈iY
theorem C8.y7 {mx:Int} {q n:Nat} {s:bq} (h:C8 mx q n s) {kp:List Nat} {o:Ob} (hk:kp∈qS) (hg:gP kp) (ho:kE mx q o) (b:Option Nat):C8 mx (q+1) (n+1) (y7 s kp o b):=by
 have hz:C8 mx (q+1) (n+1) s:=⟨h.so.mono,h.co,h.nm⟩
 unfold Go.Proofs.YtjpgfgajkjhonaaGreatDoor.y7;cases decide (3≤o.k)&&decide (o.k≤7) with
 |false=>exact hz
 |true=>
  refine ⟨h.so.add hg ho.mono b,h.co.add hg b,λp hp=>?_⟩;have hp:p∈(kZ s kp o b).th:=hp;unfold kZ at hp;cases hb:kq o.l&&(cD (cr kp) s.th).isNone with
  |false=>rw [hb] at hp;exact h.nm p hp
  |true=>
   rw [hb] at hp;rcases aR.1 hp with h1 | h1
   ·exact h.nm p h1
   ·rw [aP.1 h1,px];exact bL.2 ⟨kp,hk,rfl⟩
theorem C8.gs {mx:Int} {q n:Nat} {s:bq} (h:C8 mx q n s) (hn:n<1000):lu s:=
 ⟨by have:=h.so.nm;omega,λp hp=>⟨by have:=(h.so.ns p hp).1;omega,(h.so.ns p hp).2⟩⟩
theorem Ky (mx:Int) (q:Nat):C8 mx q 0 ⟨[],[]⟩:=⟨⟨aQ _,λp hp=>(by cases hp),λp hp=>(by cases hp)⟩,Ki,λp hp=>by cases hp⟩
set_option maxHeartbeats 4000000 in
theorem PJ {K:Out→H→Prop} (mx:Int) (q:Nat) (l:List (Int×Ob)) (hl:∀p∈l,u4 mx q p) (hq:q<90000000) (hk:∀s r,C8 mx (q+10) 10 s→K (.ret (.tu [.p 0 0,.p 3 0])) (kH s++LX r)) :
  Sat Tryz.prog 37 [.d (.sl 20 (l.map jI))] [] K:=by
 have hlen:(l.map jI).length=l.length:=aK _;refine s37.go (keep:=false) rfl ?_
 repeat' ((conv=>whnf);first | exact zf | refine zm ?_ | refine (Lf ?_) | intro _)
 conv=>whnf
 refine bV [(0,.d (.sl 20 (l.map jI))),(4,.p 0 0),(5,.p 3 0)] (λp:Nat×bq×List (List UInt8×Ob)=>(p.1≤l.length∧p.1≤10)∧C8 mx (q+p.1) p.1 p.2.1∧RW p.2.2∧p.2.2.length≤p.1) (λp=>[(6,.d (.int .i64 p.1))]) (λp=>[.cells [.mp 1,.mp 2],.dm (qw p.2.1.th),.ms 1 (qT p.2.1.nm) none none,.cells [.d (.sl 20 (p.2.2.map mP))]]) (λp=>l.length - p.1) (0,⟨[],[]⟩,[]) ⟨⟨aj _,aj _⟩,Ky _ _,(λp hp=>by cases hp),aj _⟩ ?_ ?_ ?_ (λp hp=>?_)
 ·exact zzz
 ·exact ⟨a8 rfl,a8 rfl,a8 rfl,.inr ⟨(show EH (.nl 20) (.d (.sl 20 [])) from rfl),trivial⟩,trivial⟩
 ·exact (by kernel_rfl)
 obtain ⟨i,s,r⟩:=p;obtain ⟨⟨i1,i2⟩,hs,hr,hrl⟩:=hp;dsimp only at i1 i2 hs hr hrl ⊢
 by_cases hlt:i<l.length∧i<10
 ·have tx:decide ((i:Int)<((l.map jI).length:Int))=true:=by simp;omega
  have ty:decide ((i:Int)<10)=true:=by simp;omega
  have hlt:=hlt.1;have hg:(l.map jI)[(i:Int).toNat]? = some (.int .u8 l[i].1 :: fF l[i].2):=by rw [show (i:Int).toNat=i by omega,aC,aB hlt];rfl
  have ht:=hl _ (cV hlt);have h76:=JR l[i].2.l;have hid:l[i].1.tmod 8=l[i].1 % 8:=bC ht.i.1;obtain ⟨kp,hkp,hkg,hnm⟩:=DQ (i:=l[i].1.tmod 8) (by have:=ht.i;omega);have rn:(iY.map λs=>[D.str s])[(l[i].1.tmod 8).toNat]? = some [.str (cr kp)]:=by rw [aC,hnm];rfl
  have ho:=Fp ht.o;have hql:(sI l[i].2).va.q.length<100000000:=by have:=ho.ql;omega
  have h14:=λ{K:Out→H→Prop}=>PT (K:=K) s kp (sI l[i].2) hkg (hs.gs (by omega)) ho.l hql;have h79:=Mr (sI l[i].2) hql;have h78:=λ{K:Out→H→Prop}=>SK (K:=K) r (cr kp) (sI l[i].2) hr (by rw [px];exact bL.2 ⟨kp,hkp,rfl⟩) (aY (nE _).1 (by decide)) (aY (nE _).2 (by decide)) (by omega);have hz:=λb=>hs.y7 hkp hkg ⟨ho.l,ho.v,ho.w,ho.qs,aY ho.ql (Nat.le_add_right _ _),ho.m⟩ b
  repeat' ((conv=>whnf);first | exact zf | refine zm ?_ | refine (gZ tx ?_) | refine (gZ ty ?_) | refine ⟨_,⟨by omega,hg,rfl⟩,?_⟩ | refine zc h76 ?_ | refine zc Ba ?_ | refine ⟨_,⟨by omega,rn,rfl⟩,?_⟩ | refine (.inr ?_:(∃_,_)∨_) | refine (h14 (λb n=>?_)) | refine zc h79 ?_ | refine (h78 (λe=>?_) (λr' hr' hl'=>?_)) | refine (.inl ⟨by unfold eW;omega,?_⟩) | intro _)
  ·exact ⟨(i+1,y7 s kp (sI l[i].2) b,r),⟨⟨hlt,(by show i+1≤10;omega)⟩,hz b,hr,(by show r.length≤i+1;omega)⟩,(by show l.length - (i+1)<l.length - i;omega),zzz,zzz,rfl⟩
  ·exact ⟨(i+1,y7 s kp (sI l[i].2) b,r'),⟨⟨hlt,(by show i+1≤10;omega)⟩,hz b,hr',(by show r'.length≤i+1;omega)⟩,(by show l.length - (i+1)<l.length - i;omega),zzz,zzz,rfl⟩
 ·have fin:C8 mx (q+10) 10 s:=by
   obtain ⟨d,hd⟩:∃d,i+d=10:=⟨10 - i,by omega⟩
   have key:∀d q i,C8 mx q i s→C8 mx (q+d) (i+d) s:=by
    intro d
    induction d with
    |zero=>intro q i h;exact h
    |succ d ih=>intro q i h;exact ih (q+1) (i+1) ⟨h.so.mono,h.co,h.nm⟩ |> λh=>by rw [dc,dc,Nat.add_comm 1 d] at h;exact h
   have h1:=key d _ _ hs;rw [dc,hd] at h1;exact h1
  by_cases h1:i<l.length
  ·have tx:decide ((i:Int)<((l.map jI).length:Int))=true:=by simp;omega
   have ty:decide ((i:Int)<10)=false:=by simp;omega
   repeat' ((conv=>whnf);first | exact zf | refine zm ?_ | refine (gZ tx ?_) | refine (gr ty ?_) | intro _)
   exact hk s r fin
  ·have tx:decide ((i:Int)<((l.map jI).length:Int))=false:=by simp;omega
   repeat' ((conv=>whnf);first | exact zf | refine zm ?_ | refine (gr tx ?_) | intro _)
   exact hk s r fin
structure H6 where
  l:Int
  c:Int
  mz:Int
  fn:Int
  ar:Int
  ro:Int
def pX (x:H6):List V:=[.d (.int .u8 x.l),.d (.int .u8 x.c),.d (.int .u8 x.mz),.d (.int .u8 x.fn),.d (.int .u8 x.ar),.d (.int .u8 x.ro)]
structure xc (x:H6):Prop where
  l:0≤x.l∧x.l≤255
  c:0≤x.c∧x.c≤255
  mz:0≤x.mz∧x.mz≤255
  fn:0≤x.fn∧x.fn≤255
  ar:0≤x.ar∧x.ar≤255
  ro:0≤x.ro∧x.ro≤255
def K_ (x:H6):Th:=HU x.l x.c x.mz x.fn x.ar x.ro
def R0 (b:Bool) (x:H6):H6:=bif b then { x with mz:=0 } else x
set_option maxHeartbeats 4000000 in
theorem Na {K:Out→H→Prop} (mx:Int) (q:Nat) (f:List (List Int)) (hf:∀l∈f,oQ l) (l:List (Int×Ob)) (hl:∀p∈l,u4 mx q p) (hq:q<90000000) (x:H6) (hx:xc x) (b:Bool)
  (hk:∀im s,wh im→C8 mx (q+10) 10 s→K (.ret (.p 0 0)) (yt im (K_ (R0 b x)) s)) :
  Sat Tryz.prog 10 [.d (.sl 1 (f.map λl=>[D.sl 1 (dz l)])),.d (.sl 20 (l.map jI)),.ag (pX x),.d (.bool b)] [] K:=by
 have h37:=λ{K:Out→H→Prop}=>PJ (K:=K) mx q l hl hq;have h38:=λ{K:Out→H→Prop}=>N5 (K:=K) f hf;have h39:=λim=>CT x.l x.c x.mz x.fn x.ar x.ro im hx.l hx.c hx.mz hx.fn hx.ar hx.ro;have h39':=λim=>CT x.l x.c 0 x.fn x.ar x.ro im hx.l hx.c ⟨by decide,by decide⟩ hx.fn hx.ar hx.ro;cases b with
 |false=>
  refine s10.go (keep:=false) rfl ?_
  repeat' ((conv=>whnf);first | exact zf | refine zm ?_ | refine (h37 (λs r hs=>?_)) | refine (h38 (λim hi=>?_)) | refine zc (h39 im) ?_ | intro _)
  all_goals exact hk im s hi hs
 |true=>
  refine s10.go (keep:=false) rfl ?_
  repeat' ((conv=>whnf);first | exact zf | refine zm ?_ | refine (h37 (λs r hs=>?_)) | refine (h38 (λim hi=>?_)) | refine zc (h39' im) ?_ | intro _)
  all_goals exact hk im s hi hs
end Go.Proofs.YtjpgfgajkjhonaaGreatDoor
