/- Ways to use the conditions: a test is parted; a loop keeps what it does not write. Conditions: none; lemmas on the definitions before. -/
import Derived.Test.YtjpgfgajkjhonaaGreatDoorQFAP
namespace Go.Vx
theorem aX {b:Bool} {p q:Prop} (h1:b=true→p) (h2:b=false→q):sp b p q:=by
 cases b
 ·exact h2 rfl
 ·exact h1 rfl
theorem gZ {b:Bool} {p q:Prop} (h:b=true) (hp:p):sp b p q:=by subst h;exact hp
theorem gr {b:Bool} {p q:Prop} (h:b=false) (hq:q):sp b p q:=by subst h;exact hq
theorem cR {x y:V} (h:x=y):Out.ret x=Out.ret y:=by rw [h]
def n8:List Nat→T→T
 |_,[]=>[]
 |ws,p :: r=>bif has ws p.1 then n8 ws r else p :: n8 (p.1 :: ws) r
theorem sS (t:T):∀(r:T) (ws:List Nat),(∀i,has ws i=false→gs t i=gs r i)→kh t (n8 ws r):=by
 intro r
 induction r with
 |nil=>intro ws _;exact trivial
 |cons p r ih=>
  intro ws hw;simp only [n8];cases hp:has ws p.1 with
  |true=>
   refine ih ws λi hi=>?_;rw [hw i hi,gF,fm (λe=>by rw [e] at hp;rw [hp] at hi;cases hi)];rfl
  |false=>
   refine ⟨?_,ih _ λi hi=>?_⟩
   ·rw [hw _ hp,gF,ev];exact rR _
   ·simp only [has,List.any_cons,iK] at hi;have hne:p.1≠i:=λe=>by
     have:=hi.1;rw [e,ev] at this;cases this
    have hi2:has ws i=false:=hi.2;rw [hw i hi2,gF,fm hne];rfl
theorem qP {t:T}:∀{a b:T},kh t a→kh t b→kh t (a++b)
 |[],_,_,h=>h
 |_ :: _,_,h1,h2=>⟨h1.1,qP h1.2 h2⟩
theorem xm {t:T} {h:H} {n0:Nat} {body:T→H→(Ex→T→H→Prop)→Prop} {K:Ex→T→H→Prop}
  (hx:∃(A:Type) (I:A→Prop) (S1:A→T) (S2:A→H) (m:A→Nat) (x:A),
   (I x∧kh t (S1 x)∧ki h (S2 x)∧xn n0 (S1 x) (S2 x)=true)∧∀x,I x→body (S1 x) (S2 x) λe t h=>match e with
    |.pF=>fl (R5 h) λl=>xN l t h λt h=>∃y,I y∧m y<m x∧kh t (S1 y)∧ki h (S2 y)∧xn n0 (S1 y) (S2 y)=true
    |.ext i=>K (.ext i) t h
    |.ret=>K .ret t h
    |.ff v=>K (.ff v) t h):lx n0 body t h K:=by
 unfold lx;exact hx
theorem Fq {t:T} {h:H} {n0:Nat} {body:T→H→(Ex→T→H→Prop)→Prop} {K:Ex→T→H→Prop} (ws:List Nat) {A:Type} (I:A→Prop) (f:A→T) (g:A→H) (m:A→Nat) (x:A)
  (h1:I x) (h2:kh t (f x)) (h3:ki h (g x)) (h4:xn n0 (f x++n8 ws t) (g x)=true)
  (hr:∀x,I x→fl (f x++n8 ws t) λs=>body s (g x) λe t' h'=>match e with
   |.pF=>fl (R5 h') λl=>xN l t' h' λt' h'=>∃y,I y∧m y<m x∧kh t' (f y++n8 ws t)∧ki h' (g y)∧xn n0 (f y++n8 ws t) (g y)=true
   |.ext i=>K (.ext i) t' h'
   |.ret=>K .ret t' h'
   |.ff v=>K (.ff v) t' h') :
  lx n0 body t h K:=by
 unfold lx;refine ⟨A,I,λa=>f a++n8 ws t,g,m,x,⟨h1,qP h2 (sS t t ws λ_ _=>rfl),h3,h4⟩,λa ha=>?_⟩;have:=hr a ha;rwa [bf] at this
theorem gY {a b:V} (h:a=b):EH a b:=h ▸ rR a
theorem a8 {a b:B} (h:a=b):Hv a b:=by
 subst h;cases a<;>first | exact rfl | exact Or.inl rfl
theorem bV {t:T} {h:H} {n0:Nat} {body:T→H→(Ex→T→H→Prop)→Prop} {K:Ex→T→H→Prop} (rest:T) {A:Type} (I:A→Prop) (f:A→T) (g:A→H) (m:A→Nat) (x:A)
  (h1:I x) (h2:kh t (f x++rest)) (h3:ki h (g x)) (h4:xn n0 (f x++rest) (g x)=true)
  (hr:∀x,I x→fl (f x++rest) λs=>body s (g x) λe t' h'=>match e with
   |.pF=>fl (R5 h') λl=>xN l t' h' λt' h'=>∃y,I y∧m y<m x∧kh t' (f y++rest)∧ki h' (g y)∧xn n0 (f y++rest) (g y)=true
   |.ext i=>K (.ext i) t' h'
   |.ret=>K .ret t' h'
   |.ff v=>K (.ff v) t' h') :
  lx n0 body t h K:=by
 unfold lx;refine ⟨A,I,λa=>f a++rest,g,m,x,⟨h1,h2,h3,h4⟩,λa ha=>?_⟩;have:=hr a ha;rwa [bf] at this
end Go.Vx
namespace Go.Vx
abbrev iS (d:Nat) (x:X):I:=⟨some d,x,none⟩
abbrev iG (d:Nat) (x:X) (g:Nat) (b:Bool):I:=⟨some d,x,some (g,b)⟩
abbrev iN (x:X):I:=⟨none,x,none⟩
abbrev iM (d m:Nat):I:=⟨some d,.mv (.s m),none⟩
abbrev iL (d m:Nat):I:=⟨some d,.ld (.s m) none,none⟩
abbrev iD (d m k:Nat):I:=⟨some d,.ld (.s m) (some k),none⟩
abbrev iF (d m k:Nat):I:=⟨some d,.fa (.s m) k,none⟩
abbrev iC (d m:Nat):I:=⟨some d,.nc (.s m),none⟩
abbrev iz:V:=.d (.int .i64 0)
abbrev sz:V:=.d (.str [])
class ZA (p:Prop) (q:outParam Prop):Prop where
  go:q→p
instance {p q:Prop}:ZA (MD p q) p:=⟨LC⟩
instance {p q:Prop}:ZA (Hj p q) q:=⟨yV⟩
instance {K:List Nat×Nat→Prop}:ZA (Dc K) (K ([],0)):=⟨KU⟩
instance {p q:Prop}:ZA (eQ p q) p:=⟨bu⟩
instance {p q:Prop}:ZA (Lj p q) p:=⟨Bl⟩
instance {p q:Prop}:ZA (HA p q) p:=⟨wP⟩
theorem za {p q:Prop} [h:ZA p q] (k:q):p:=h.go k
class ZS (p:Prop):Prop where
  w:True
instance {α:Sort _} {a b:α}:ZS (a=b):=⟨trivial⟩
instance {α:Sort _} {a b:α}:ZS (a≠b):=⟨trivial⟩
instance {α:Type _} [LE α] {a b:α}:ZS (a≤b):=⟨trivial⟩
instance {α:Type _} [LT α] {a b:α}:ZS (a<b):=⟨trivial⟩
instance {k n}:ZS (eW k n):=⟨trivial⟩
instance {p:Prop}:ZS (¬p):=⟨trivial⟩
instance {p q:Prop} [ZS p] [ZS q]:ZS (p∧q):=⟨trivial⟩
instance {p q:Prop} [ZS p] [ZS q]:ZS (p∨q):=⟨trivial⟩
instance {α:Sort _} {p:α→Prop} [∀x,ZS (p x)]:ZS (∀x,p x):=⟨trivial⟩
class ZL (p:Prop) (a b:outParam Prop):Prop where
  go:a→b→p
instance {a b:Prop} [ZS a]:ZL (a∧b) a b:=⟨And.intro⟩
instance {a b q:Prop} [ZS a]:ZL ((a∧b)∨q) a b:=⟨λx y=>.inl ⟨x,y⟩⟩
theorem zl {p a b:Prop} [h:ZL p a b] (y:b) (x:a:=by (repeat' apply And.intro)<;>first | rfl | omega | (unfold eW;omega) | (simp;done) | (unfold eW;simp at *;omega) | (simp at *;omega) | (intros;contradiction)):p:=h.go x y
class ZF (p:Prop) (a b:outParam Prop):Prop where
  go:a→b→p
instance {a b:Out} {h k:H}:ZF (a=b∧h=k) (a=b) (h=k):=⟨And.intro⟩
theorem zf {p a b:Prop} [h:ZF p a b] (x:a:=by exact rfl) (y:b:=by exact rfl):p:=h.go x y
theorem zg {p a b:Prop} [h:ZF p a b] (x:a) (y:b:=by exact rfl):p:=h.go x y
theorem zzz {p:Prop} (h:p:=by repeat' (first | exact trivial | exact rfl | exact Or.inl rfl | refine And.intro ?_ ?_ | refine Or.inr ?_)):p:=h
theorem zm {p q:Prop} (k:q) (h:q→p:=by first | exact λk=>zg k | exact And.intro rfl | exact za | exact λk=>zl k | fail):p:=h k
theorem zc {p q a:Prop} (c:a) (k:q) (h:a→q→p:=by first | exact λc k=>⟨_,c,k⟩ | exact λc k=>c.use k | fail):p:=h c k
theorem zt {x:Bool} {a b:Prop} (y:a) (h:x=true:=by first | (simp;done) | (simp;omega) | (simp at *;omega) | (exact beq_eq_false_iff_ne.2 (by (try dsimp only);omega)) | (exact beq_iff_eq.2 (by (try dsimp only);omega))):sp x a b:=gZ h y
theorem zu {x:Bool} {a b:Prop} (y:b) (h:x=false:=by first | (simp;done) | (simp;omega) | (simp at *;omega) | (exact beq_eq_false_iff_ne.2 (by (try dsimp only);omega)) | (exact beq_iff_eq.2 (by (try dsimp only);omega))):sp x a b:=gr h y
end Go.Vx
