/- Lemmas. Conditions: none. -/
import Derived.Test.YtjpgfgajkjhonaaGreatDoorQHAP
namespace Go.Vx
theorem aX {b:Bool} {p q:Prop} (h1:b=true→p) (h2:b=false→q):sp b p q:=by
 cases b
 ·exact h2 rfl
 ·exact h1 rfl
theorem ft {b:Bool} {p q:Prop} (h:b=true) (hp:p):sp b p q:=by subst h;exact hp
theorem ga {b:Bool} {p q:Prop} (h:b=false) (hq:q):sp b p q:=by subst h;exact hq
theorem cS {x y:V} (h:x=y):Out.ret x=Out.ret y:=by rw [h]
def oX:List Nat→T→T
 |_,[]=>[]
 |ws,p :: r=>bif has ws p.1 then oX ws r else p :: oX (p.1 :: ws) r
theorem tv (t:T):∀(r:T) (ws:List Nat),(∀i,has ws i=false→gs t i=gs r i)→lM t (oX ws r):=by
 intro r
 induction r with
 |nil=>intro ws _;exact trivial
 |cons p r ih=>
  intro ws hw;simp only [oX];cases hp:has ws p.1 with
  |true=>
   refine ih ws λi hi=>?_;rw [hw i hi,gP,fy (λe=>by rw [e] at hp;rw [hp] at hi;cases hi)];rfl
  |false=>
   refine ⟨?_,ih _ λi hi=>?_⟩
   ·rw [hw _ hp,gP,fG];exact sa _
   ·simp only [has,List.any_cons,lh] at hi;have hne:p.1≠i:=λe=>by
     have:=hi.1;rw [e,fG] at this;cases this
    have hi2:has ws i=false:=hi.2;rw [hw i hi2,gP,fy hne];rfl
theorem rL {t:T}:∀{a b:T},lM t a→lM t b→lM t (a++b)
 |[],_,_,h=>h
 |_ :: _,_,h1,h2=>⟨h1.1,rL h1.2 h2⟩
theorem yv {t:T} {h:H} {n0:Nat} {body:T→H→(Ex→T→H→Prop)→Prop} {K:Ex→T→H→Prop}
  (hx:∃(A:Type) (I:A→Prop) (S1:A→T) (S2:A→H) (m:A→Nat) (x:A),
   (I x∧lM t (S1 x)∧lN h (S2 x)∧yw n0 (S1 x) (S2 x)=true)∧∀x,I x→body (S1 x) (S2 x) λe t h=>match e with
    |.pj=>fl (T2 h) λl=>Tc l t h λt h=>∃y,I y∧m y<m x∧lM t (S1 y)∧lN h (S2 y)∧yw n0 (S1 y) (S2 y)=true
    |.ext i=>K (.ext i) t h
    |.ret=>K .ret t h
    |.fm v=>K (.fm v) t h):lx n0 body t h K:=by
 unfold lx;exact hx
theorem H8 {t:T} {h:H} {n0:Nat} {body:T→H→(Ex→T→H→Prop)→Prop} {K:Ex→T→H→Prop} (ws:List Nat) {A:Type} (I:A→Prop) (f:A→T) (g:A→H) (m:A→Nat) (x:A)
  (h1:I x) (h2:lM t (f x)) (h3:lN h (g x)) (h4:yw n0 (f x++oX ws t) (g x)=true)
  (hr:∀x,I x→fl (f x++oX ws t) λs=>body s (g x) λe t' h'=>match e with
   |.pj=>fl (T2 h') λl=>Tc l t' h' λt' h'=>∃y,I y∧m y<m x∧lM t' (f y++oX ws t)∧lN h' (g y)∧yw n0 (f y++oX ws t) (g y)=true
   |.ext i=>K (.ext i) t' h'
   |.ret=>K .ret t' h'
   |.fm v=>K (.fm v) t' h') :
  lx n0 body t h K:=by
 unfold lx;refine ⟨A,I,λa=>f a++oX ws t,g,m,x,⟨h1,rL h2 (tv t t ws λ_ _=>rfl),h3,h4⟩,λa ha=>?_⟩;have:=hr a ha;rwa [bo] at this
theorem iH {a b:V} (h:a=b):Fa a b:=h ▸ sa a
theorem aU {a b:B} (h:a=b):Ke a b:=by
 subst h;cases a<;>first | exact rfl | exact Or.inl rfl
theorem bN {t:T} {h:H} {n0:Nat} {body:T→H→(Ex→T→H→Prop)→Prop} {K:Ex→T→H→Prop} (rest:T) {A:Type} (I:A→Prop) (f:A→T) (g:A→H) (m:A→Nat) (x:A)
  (h1:I x) (h2:lM t (f x++rest)) (h3:lN h (g x)) (h4:yw n0 (f x++rest) (g x)=true)
  (hr:∀x,I x→fl (f x++rest) λs=>body s (g x) λe t' h'=>match e with
   |.pj=>fl (T2 h') λl=>Tc l t' h' λt' h'=>∃y,I y∧m y<m x∧lM t' (f y++rest)∧lN h' (g y)∧yw n0 (f y++rest) (g y)=true
   |.ext i=>K (.ext i) t' h'
   |.ret=>K .ret t' h'
   |.fm v=>K (.fm v) t' h') :
  lx n0 body t h K:=by
 unfold lx;refine ⟨A,I,λa=>f a++rest,g,m,x,⟨h1,h2,h3,h4⟩,λa ha=>?_⟩;have:=hr a ha;rwa [bo] at this
abbrev iS (d:Nat) (x:X):I:=⟨some d,x,none⟩
abbrev iG (d:Nat) (x:X) (g:Nat) (b:Bool):I:=⟨some d,x,some (g,b)⟩
abbrev iN (x:X):I:=⟨none,x,none⟩
abbrev iM (d m:Nat):I:=⟨some d,.mv (.s m),none⟩
abbrev iL (d m:Nat):I:=⟨some d,.ld (.s m) none,none⟩
abbrev iD (d m k:Nat):I:=⟨some d,.ld (.s m) (some k),none⟩
abbrev iF (d m k:Nat):I:=⟨some d,.fa (.s m) k,none⟩
abbrev iC (d m:Nat):I:=⟨some d,.nc (.s m),none⟩
abbrev iz:V:=.d (.int .i64 0)
abbrev sz:V:=.d (.str [])
class ZA (p:Prop) (q:outParam Prop):Prop where
  go:q→p
instance {p q:Prop}:ZA (Nx p q) p:=⟨Mx⟩
instance {p q:Prop}:ZA (K3 p q) q:=⟨zj⟩
instance {K:List Nat×Nat→Prop}:ZA (Ey K) (K ([],0)):=⟨MM⟩
instance {p q:Prop}:ZA (eZ p q) p:=⟨cC⟩
instance {p q:Prop}:ZA (Nc p q) p:=⟨Cv⟩
instance {p q:Prop}:ZA (Jq p q) p:=⟨xZ⟩
theorem za {p q:Prop} [h:ZA p q] (k:q):p:=h.go k
class ZS (p:Prop):Prop where
  w:True
instance {α:Sort _} {a b:α}:ZS (a=b):=⟨trivial⟩
instance {α:Sort _} {a b:α}:ZS (a≠b):=⟨trivial⟩
instance {α:Type _} [LE α] {a b:α}:ZS (a≤b):=⟨trivial⟩
instance {α:Type _} [LT α] {a b:α}:ZS (a<b):=⟨trivial⟩
instance {k n}:ZS (e8 k n):=⟨trivial⟩
instance {p:Prop}:ZS (¬p):=⟨trivial⟩
instance {p q:Prop} [ZS p] [ZS q]:ZS (p∧q):=⟨trivial⟩
instance {p q:Prop} [ZS p] [ZS q]:ZS (p∨q):=⟨trivial⟩
instance {α:Sort _} {p:α→Prop} [∀x,ZS (p x)]:ZS (∀x,p x):=⟨trivial⟩
class ZL (p:Prop) (a b:outParam Prop):Prop where
  go:a→b→p
instance {a b:Prop} [ZS a]:ZL (a∧b) a b:=⟨And.intro⟩
instance {a b q:Prop} [ZS a]:ZL ((a∧b)∨q) a b:=⟨λx y=>.inl ⟨x,y⟩⟩
theorem zl {p a b:Prop} [h:ZL p a b] (y:b) (x:a:=by (repeat' apply And.intro)<;>first | rfl | omega | (unfold e8;omega) | (simp;done) | (unfold e8;simp at *;omega) | (simp at *;omega) | (intros;contradiction)):p:=h.go x y
class ZF (p:Prop) (a b:outParam Prop):Prop where
  go:a→b→p
instance {a b:Out} {h k:H}:ZF (a=b∧h=k) (a=b) (h=k):=⟨And.intro⟩
theorem zf {p a b:Prop} [h:ZF p a b] (x:a:=by exact rfl) (y:b:=by exact rfl):p:=h.go x y
theorem zg {p a b:Prop} [h:ZF p a b] (x:a) (y:b:=by exact rfl):p:=h.go x y
theorem zzz {p:Prop} (h:p:=by repeat' (first | exact trivial | exact rfl | exact Or.inl rfl | refine And.intro ?_ ?_ | refine Or.inr ?_)):p:=h
theorem zm {p q:Prop} (k:q) (h:q→p:=by first | exact λk=>zg k | exact And.intro rfl | exact za | exact λk=>zl k | fail):p:=h k
theorem zc {p q a:Prop} (c:a) (k:q) (h:a→q→p:=by first | exact λc k=>⟨_,c,k⟩ | exact λc k=>c.use k | fail):p:=h c k
theorem zj0 {p:Prop} (h:p:=by repeat' ((conv=>whnf);first | exact zf | refine zm ?_ | intro _)):p:=h
theorem zj1 {p a:Prop} (u:a) (h:a→p:=by intro u;repeat' ((conv=>whnf);first | exact zf | refine zm ?_ | refine zc u ?_ | intro _)):p:=h u
theorem zj2 {p a b:Prop} (u:a) (v:b) (h:a→b→p:=by intro u v;repeat' ((conv=>whnf);first | exact zf | refine zm ?_ | refine zc u ?_ | refine zc v ?_ | intro _)):p:=h u v
theorem zj3 {p a b c:Prop} (u:a) (v:b) (w:c) (h:a→b→c→p:=by intro u v w;repeat' ((conv=>whnf);first | exact zf | refine zm ?_ | refine zc u ?_ | refine zc v ?_ | refine zc w ?_ | intro _)):p:=h u v w
theorem zh0 {p q:Prop} (k:q) (h:q→p:=by intro k;repeat' ((conv=>whnf);first | exact zf | refine zm ?_ | intro _ | exact k)):p:=h k
theorem zh1 {p q a:Prop} (k:q) (u:a) (h:q→a→p:=by intro k u;repeat' ((conv=>whnf);first | exact zf | refine zm ?_ | refine zc u ?_ | intro _ | exact k)):p:=h k u
theorem zh2 {p q a b:Prop} (k:q) (u:a) (v:b) (h:q→a→b→p:=by intro k u v;repeat' ((conv=>whnf);first | exact zf | refine zm ?_ | refine zc u ?_ | refine zc v ?_ | intro _ | exact k)):p:=h k u v
theorem zh3 {p q a b c:Prop} (k:q) (u:a) (v:b) (w:c) (h:q→a→b→c→p:=by intro k u v w;repeat' ((conv=>whnf);first | exact zf | refine zm ?_ | refine zc u ?_ | refine zc v ?_ | refine zc w ?_ | intro _ | exact k)):p:=h k u v w
theorem _root_.Go.zx0 {p:Prop} (h:p:=by kernel_rfl):p:=h
theorem zi0 {k n} {p q:Prop} (y:p) (x:e8 k n:=by unfold e8;(try dsimp only);first | omega | decide):e8 k n∧p∨q:=.inl ⟨x,y⟩
theorem zr0 {α:Sort _} {p:α→Prop} {q:Prop} (h:q):(∃x,p x)∨q:=.inr h
theorem zt {x:Bool} {a b:Prop} (y:a) (h:x=true:=by first | (simp;done) | (simp;omega) | (simp at *;omega) | (exact beq_eq_false_iff_ne.2 (by (try dsimp only);omega)) | (exact beq_iff_eq.2 (by (try dsimp only);omega))):sp x a b:=ft h y
theorem zu {x:Bool} {a b:Prop} (y:b) (h:x=false:=by first | (simp;done) | (simp;omega) | (simp at *;omega) | (exact beq_eq_false_iff_ne.2 (by (try dsimp only);omega)) | (exact beq_iff_eq.2 (by (try dsimp only);omega))):sp x a b:=ga h y
theorem zk0 {p:Prop} (h:p:=by repeat' ((conv=>whnf);first | exact zf | refine zm ?_ | refine zt ?_ | refine zu ?_ | intro _)):p:=h
theorem zk1 {p a:Prop} (u:a) (h:a→p:=by intro u;repeat' ((conv=>whnf);first | exact zf | refine zm ?_ | refine zc u ?_ | refine zt ?_ | refine zu ?_ | intro _)):p:=h u
theorem zk2 {p a b:Prop} (u:a) (v:b) (h:a→b→p:=by intro u v;repeat' ((conv=>whnf);first | exact zf | refine zm ?_ | refine zc u ?_ | refine zc v ?_ | refine zt ?_ | refine zu ?_ | intro _)):p:=h u v
theorem zk3 {p a b c:Prop} (u:a) (v:b) (w:c) (h:a→b→c→p:=by intro u v w;repeat' ((conv=>whnf);first | exact zf | refine zm ?_ | refine zc u ?_ | refine zc v ?_ | refine zc w ?_ | refine zt ?_ | refine zu ?_ | intro _)):p:=h u v w
end Go.Vx
