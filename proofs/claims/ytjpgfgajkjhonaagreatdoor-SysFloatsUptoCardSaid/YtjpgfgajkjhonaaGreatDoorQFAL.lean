/- A row of operations in its order; operations that only look. Conditions: none; lemmas on the definitions before. -/
import Derived.Test.YtjpgfgajkjhonaaGreatDoorQFAK
import Derived.Orders
import Derived.Tactics
namespace Go.Vx
section
variable {P:Program} {E:gI} {n:Nat} {G:Nat→Prop} {ρ:List Value} {t t':T} {h:H} {a:Act} {w:World} {o:Oper} {bW:Act→World→Prop} {Q:Exit→Act→World→Prop} {K:Ex→T→H→Prop}
variable (ow:Nat→Bool)
theorem an.congr (hC:an E n G ρ t h a w) (ht:∀i,gs t' i=gs t i):an E n G ρ t' h a w:=
 ⟨hC.ok,hC.df,hC.sz,λi=>by rw [ht i];exact hC.tm i⟩
def fk (d:Option Nat) (v:V) (t:T):T:=
 match d with
 |some i=>(i,v) :: t
 |none=>t
theorem fU (d:Option Nat) (v:V) (t:T) (K:T→Prop):tn d v t K=K (fk d v t):=by
 rw [PZ];cases d<;>rfl
theorem an.fk (hC:an E n G ρ t h a w) (d:Option Nat) {v:Value} {x:V} (hd:∀i,d=some i→i<n) (hr:a_ G w ρ v x):an E n G ρ (Vx.fk d x t) h (a.put d v) w:=by
 have:=hC.put d hd hr;cases d<;>exact this
theorem wH {j:Nat} {v:V} (hj:gs t j=v) (i:Nat):gs ((j,v) :: t) i=gs t i:=by
 simp only [gF]
 by_cases e:j=i
 ·subst e;simp [hj]
 ·rw [fm e];rfl
theorem mw {ops:Array Oper} {i:I} (hi:nj P n ops o=some i):(fj P o.type o.op=some i.o∨i.o = .bad)∧i.d=o.dst∧(∀k,o.dst=some k→k<n) ∧
  (match o.guard with | none=>i.g=none | some (j,x)=>∃d,(ops[j]?).bind (·.dst)=some d∧i.g=some (d,x)):=by
 simp only [nj,aJ] at hi;have hx:∀y,(fj P o.type o.op).getD .bad=y→fj P o.type o.op=some y∨y = .bad:=λy hy=>by
  cases hc:fj P o.type o.op with
  |none=>rw [hc] at hy;exact .inr hy.symm
  |some z=>rw [hc] at hy;exact .inl (congrArg some hy)
 split at hi
 ·cases hi
 ·rename_i hd;have hd':∀k,o.dst=some k→k<n:=λk hk=>by
   simp only [hk,b7,dE,Bool.not_eq_false] at hd;exact (dI ..).mp hd
  split at hi
  ·cases hi;rename_i hg;exact ⟨hx _ rfl,rfl,hd',by rw [hg]⟩
  ·rename_i hg;simp only [aD] at hi;obtain ⟨d,hd2,hi⟩:=hi;cases hi;refine ⟨hx _ rfl,rfl,hd',?_⟩;rw [hg];exact ⟨d,aD.2 hd2,rfl⟩
theorem mE (hC:an E n G ρ t h a w) {ops:Array Oper} {j d:Nat} {x b:Bool} (hg:o.guard=some (j,x)) (hd:(ops[j]?).bind (·.dst)=some d) (ht:gs t d = .d (.bool b)) :
  Region.wanted o (yielded ops a.tmps)=(b==x):=by
 have h1:=(ht ▸ hC.tm d).bool;have h2:a.tmps[d]? = some (.bool b):=by
  rw [aE] at h1;cases hx:a.tmps[d]? with
  |none=>rw [hx] at h1;cases h1
  |some v=>rw [hx] at h1;exact congrArg some h1
 simp only [Region.wanted,hg,yielded,hd,Option.bind_some,h2];cases b<;>cases x<;>rfl
theorem pb (hC:an E n G ρ t h a w) {ops:Array Oper} {j d:Nat} {x:Bool} (hg:o.guard=some (j,x)) (hd:(ops[j]?).bind (·.dst)=some d) (ht:gs t d = .ud) :
  Region.wanted o (yielded ops a.tmps)=false:=by
 have h1:a.tmps.getD d undef=undef:=by
  have:=ht ▸ hC.tm d;generalize a.tmps.getD d undef=u at this;cases this with | o k=>cases k with | c k=>cases k with | k k=>cases k with
   |ud=>rfl
 simp only [Region.wanted,hg,yielded,hd,Option.bind_some];rw [aE] at h1;cases hx:a.tmps[d]? with
 |none=>rfl
 |some v=>rw [hx] at h1;simp only [b7] at h1;subst h1;rfl
def PQ (E:gI) (n:Nat) (K:Ex→T→H→Prop) (Q:Exit→Act→World→Prop):Prop:=
 ∀(a:Act) (w:World) (G:Nat→Prop) (ρ:List Value) (t:T) (h:H) (v:V) (v':Value),an E n G ρ t h a w→a_ G w ρ v' v→K (.ff v) t h→Q (.panic [{ v:=v',recovered:=false }]) a w
theorem zZ:a_ G w ρ undef .ud:=.k .ud
theorem qz (hC:an E n G ρ t h a w) {ops:Array Oper} {i:I} (hi:nj P n ops o=some i) {r:List I} (hk:rx (Sat P) ow (i :: r) t h K)
  (hnx:∀(a':Act) (w':World) (G':Nat→Prop) (ρ':List Value) (t':T) (h':H),an E n G' ρ' t' h' a' w'→rx (Sat P) ow r t' h' K→bW a' w') (hp:PQ E n K Q) :
  if Region.wanted o (yielded ops a.tmps) then o.wp P a w bW Q else bW (a.put o.dst undef) w:=by
 obtain ⟨hx,hd,hlt,hg⟩:=mw hi;have run:∀{t:T},an E n G ρ t h a w→bt (Sat P) ow i.o t h (λv t h=>tn i.d v t λt=>rx (Sat P) ow r t h K) (λv t h=>K (.ff v) t h)→o.wp P a w bW Q:=by
  intro t hC hk;refine oG ow hC (λv' w' G' ρ' t' h' v hC' hv hk'=>?_) (λv' w' G' ρ' t' h' v hC' hv hk'=>hp a w' G' ρ' t' h' v v' hC' hv hk') hx hk;rw [fU,hd] at hk';exact hnx _ _ _ _ _ _ (hC'.fk o.dst hlt hv) hk'
 have pass:∀{t:T},an E n G ρ t h a w→(tn i.d .ud t λt=>rx (Sat P) ow r t h K)→bW (a.put o.dst undef) w:=by
  intro t hC hk;rw [fU,hd] at hk;exact hnx _ _ _ _ _ _ (hC.fk o.dst hlt zZ) hk
 cases hgo:o.guard with
 |none=>
  rw [hgo] at hg;simp only at hg;simp only [BL,BM,hg] at hk;rw [if_pos (by simp [Region.wanted,hgo])];exact run hC hk
 |some p=>
  obtain ⟨j,x⟩:=p;rw [hgo] at hg;obtain ⟨d,hd1,hg⟩:=hg;simp only [BL,BM,hg] at hk;split at hk
  ·rename_i b hb;rw [mE hC hgo hd1 hb];have hC1:=hC.congr (wH hb);cases b<;>cases x<;>simp only [sp,cond_true,cond_false] at hk<;>simp only [BEq.rfl,if_true,cj,if_false,beq_iff_eq,reduceCtorEq]
   ·exact run hC1 hk
   ·exact pass hC1 hk
   ·exact pass hC1 hk
   ·exact run hC1 hk
  ·rename_i hb;rw [pb hC hgo hd1 hb];exact pass hC hk
  ·exact hk.elim
def QK (E:gI) (n:Nat) (K:Ex→T→H→Prop) (e:Exit) (a:Act) (w:World):Prop:=
  ∃(G:Nat→Prop) (ρ:List Value) (t:T) (h:H),an E n G ρ t h a w∧match e with
    |.normal=>K .pF t h
    |.exit id=>K (.ext id) t h
    |.ret=>K .ret t h
    |.panic ch=>∃v v',ch = [{ v:=v',recovered:=false }]∧a_ G w ρ v' v∧K (.ff v) t h
    |_=>False
theorem PQ.qk:PQ E n K (QK E n K):=λ_ _ G ρ t h v v' hC hv hk=>⟨G,ρ,t,h,hC,v,v',rfl,hv,hk⟩
theorem Mq {ops:Array Oper}:∀(os:List Oper) (is:List I),os.mapM (nj P n ops)=some is→∀(G:Nat→Prop) (ρ:List Value) (t:T) (h:H) (a:Act) (w:World),an E n G ρ t h a w →
  rx (Sat P) ow is t h K→wpList P ops (QK E n K) os a w:=by
 intro os
 induction os with
 |nil=>
  intro is hm G ρ t h a w hC hk;simp at hm;subst hm;exact wpList_nil ⟨G,ρ,t,h,hC,hk⟩
 |cons o os ih=>
  intro is hm G ρ t h a w hC hk;simp only [gC,aJ,aD,jG,aF] at hm;obtain ⟨i,hi,r,hr,rfl⟩:=hm;exact wpList_step λK' hK'=>qz ow hC hi hk (λa' w' G' ρ' t' h' hC' hk'=>hK' _ _ (ih r hr G' ρ' t' h' a' w' hC' hk')) PQ.qk
end
section
variable {P:Program} {t t':T} {h:H} {K:V→Prop} (ow:Nat→Bool)
theorem eD {x:O} (ht:∀s∈qQ x,gs t' s=gs t s):gv t' x=gv t x:=by
 cases x with
 |s i=>exact ht i (by simp [qQ])
 |g i=>rfl
 |k v=>cases v<;>rfl
theorem Lr:∀(cs:List V) (K:List D→T→H→Prop),A2 cs [] [] K→∃ds,K ds [] []∧∀(t:T) (h:H) (K':List D→T→H→Prop),K' ds t h→A2 cs t h K':=by
 intro cs
 induction cs with
 |nil=>intro K hk;exact ⟨[],hk,λt h K' hk=>hk⟩
 |cons x r ih=>
  intro K hk;cases x<;>(try simp only [iE,se] at hk)<;>try (exact hk.elim)
  case d x=>
   obtain ⟨ds,h1,h2⟩:=ih _ hk;exact ⟨x :: ds,h1,λt h K' hk'=>by simp only [iE,se];exact h2 t h _ hk'⟩
  case cl z rs=>
   obtain ⟨ds,h1,h2⟩:=ih _ hk;exact ⟨.sl z rs :: ds,h1,λt h K' hk'=>by simp only [iE,se];exact h2 t h _ hk'⟩
  case fc f c=>
   cases c with
   |cons c0 c=>
    replace hk:(match vA (c0 :: c) with
     |some ds=>A2 r [] [] λxs t h=>K (.fc f ds :: xs) t h
     |none=>False):=hk
    cases hD:vA (c0 :: c) with
    |none=>rw [hD] at hk;exact hk.elim
    |some cd=>
     rw [hD] at hk;obtain ⟨ds,h1,h2⟩:=ih _ hk;exact ⟨.fc f cd :: ds,h1,λt h K' hk'=>by simp only [iE,se,hD];exact h2 t h _ hk'⟩
   |nil=>
   replace hk:A2 r [] [] (λxs t h=>K (.fn f :: xs) t h):=hk
   obtain ⟨ds,h1,h2⟩:=ih _ hk;exact ⟨.fn f :: ds,h1,λt h K' hk'=>by simp only [iE,se];exact h2 t h _ hk'⟩
theorem wJ {α β:Type} {f g:β→α→β}:∀(l:List α) (b:β),(∀x∈l,∀b,f b x=g b x)→l.foldl f b=l.foldl g b:=by
 intro l
 induction l with
 |nil=>intro b _;rfl
 |cons x l ih=>intro b hx;simp only [cI];rw [hx x (by simp),ih _ (λy hy=>hx y (by simp [hy]))]
theorem CX {α:Type} {f g:α→Bool}:∀(l:List α),(∀x∈l,f x=g x)→l.all f=l.all g:=by
 intro l
 induction l with
 |nil=>intro _;rfl
 |cons x l ih=>intro hx;simp only [kf];rw [hx x (by simp),ih (λy hy=>hx y (by simp [hy]))]
def LI (h1 h:H):Prop:=∀(i:Nat) (b:B),get? h i=some b→b≠.no→get? h1 i=some b
def Qt (P:Program) (x:X) (t:T) (h:H) (v:V):Prop:=
 ∀(t':T) (h1:H),(∀s∈bU x,gs t' s=gs t s)→LI h1 h→bt (Sat P) ow x t' h1 (λv' t'' h'=>v'=v∧t''=t'∧h'=h1) (λ_ _ _=>False)
theorem FO {x:X} (hq:qx (Sat P) ow x t h K):∃v,K v∧Qt ow P x t h v:=by
  cases x<;>simp only [qx] at hq<;>try (exact hq.elim)
  case mv x=>
    refine ⟨_,hq,λt' _ ht _=>?_⟩
    simp only [bt,eD (x:=x) ht,true_and]
  case pk c x y=>
    simp only [bt] at hq
    split at hq
    · rename_i b hb
      cases b
      · refine ⟨_,hq,λt' _ ht _=>?_⟩
        simp only [bU,aR] at ht
        simp only [bt,eD (x:=c) (λs hs=>ht s (.inl (.inl hs))),eD (x:=y) (λs hs=>ht s (.inr hs)),hb,sp,true_and]
      · refine ⟨_,hq,λt' _ ht _=>?_⟩
        simp only [bU,aR] at ht
        simp only [bt,eD (x:=c) (λs hs=>ht s (.inl (.inl hs))),eD (x:=x) (λs hs=>ht s (.inl (.inr hs))),hb,sp,true_and]
    · exact hq.elim
  case bd zero ps=>
    simp only [bt,bf] at hq
    refine ⟨_,hq.2,λt' _ ht _=>?_⟩
    have hg:∀p∈ps,gv t' p.2.2=gv t p.2.2:=λp hp=>eD λs hs=>ht s (by simp only [bU,aO];exact ⟨p,hp,hs⟩)
    simp only [bt,bf]
    rw [wJ (f:=λcs (p:Nat×Nat×O)=>lay cs p.1 (gv t' p.2.2).cs) (g:=λcs p=>lay cs p.1 (gv t p.2.2).cs) ps zero (λp hp b=>by rw [hg p hp]),
      CX (g:=λp=>Nat.beq (gv t p.2.2).cs.length p.2.1&&Nat.ble (p.1+p.2.1) zero.length&&(gv t p.2.2).cs.all eb) ps (λp hp=>by rw [hg p hp])]
    exact ⟨hq.1,by simp only [and_self]⟩
  case bs z zero n ps=>
    simp only [bf] at hq
    obtain ⟨h1,h2⟩:=hq
    obtain ⟨ds,h3,h4⟩:=Lr _ _ h2
    refine ⟨_,h3,λt' _ ht _=>?_⟩
    have hg:∀p∈ps,gv t' p.2=gv t p.2:=λp hp=>eD λs hs=>ht s (by simp only [bU,aO];exact ⟨p,hp,hs⟩)
    simp only [bt,bf]
    rw [wJ (f:=λcs (p:Nat×O)=>lay cs (p.1*z) (gv t' p.2).cs) (g:=λcs p=>lay cs (p.1*z) (gv t p.2).cs) ps _ (λp hp b=>by rw [hg p hp]),
      CX (g:=λp=>Nat.beq (gv t p.2).cs.length z&&Nat.ble (p.1*z+z) (n*z)&&(gv t p.2).cs.all eb) ps (λp hp=>by rw [hg p hp])]
    exact ⟨h1,h4 _ _ _ (yV (by simp only [and_self]))⟩
  case ld x nn=>
    have e1:∀t':T,(∀s∈bU (.ld x nn),gs t' s=gs t s)→gv t' x=gv t x:=λt' ht=>eD λs hs=>ht s (by simp [bU,hs])
    simp only [bt,bf] at hq
    split at hq
    · rename_i id off hx
      split at hq
      · rename_i cs hg
        split at hq
        · split at hq
          · rename_i v hv
            exact ⟨_,hq,λt' _ ht hM=>by simp only [bt,e1 t' ht,hx,hM _ _ hg (by simp),hv,and_self]⟩
          · exact hq.elim
        · exact ⟨_,hq.2,λt' _ ht hM=>by simp only [bt,bf,e1 t' ht,hx,hM _ _ hg (by simp),and_self];exact ⟨hq.1,trivial⟩⟩
      · exact hq.elim
    · rename_i row off hx
      split at hq
      · split at hq
        · rename_i v hv
          exact ⟨_,hq,λt' _ ht _=>by simp only [bt,e1 t' ht,hx,hv,and_self]⟩
        · exact hq.elim
      · exact ⟨_,hq.2,λt' _ ht _=>by simp only [bt,bf,e1 t' ht,hx,and_self];exact ⟨hq.1,trivial⟩⟩
    · rename_i id z i off hx
      split at hq
      · rename_i z' rs hg
        obtain ⟨hz,row,hr,hq⟩:=hq
        split at hq
        · split at hq
          · rename_i v hv
            exact ⟨_,hq,λt' _ ht hM=>by simp only [bt,e1 t' ht,hx,hM _ _ hg (by simp)];exact ⟨hz,row,hr,by simp only [hv,and_self]⟩⟩
          · exact hq.elim
        · exact ⟨_,hq.2,λt' _ ht hM=>by simp only [bt,bf,e1 t' ht,hx,hM _ _ hg (by simp)];exact ⟨hz,row,hr,hq.1,by simp only [and_self]⟩⟩
      · rename_i z' rs i' row hg
        obtain ⟨hz,hq⟩:=hq
        split at hq
        · split at hq
          · rename_i v hv
            exact ⟨_,hq,λt' _ ht hM=>by simp only [bt,e1 t' ht,hx,hM _ _ hg (by simp)];exact ⟨hz,by simp only [hv,and_self]⟩⟩
          · exact hq.elim
        · exact hq.elim
      · exact hq.elim
    · exact hq.elim
  case fa x off=>
    have e1:∀t':T,(∀s∈bU (.fa x off),gs t' s=gs t s)→gv t' x=gv t x:=λt' ht=>eD λs hs=>ht s (by simp [bU,hs])
    simp only [bt,cZ] at hq
    revert hq
    (repeat' split)<;>intro hq<;>(try (exact hq.elim))
    all_goals exact ⟨_,hq,λt' _ ht _=>by simp only [bt,cZ,e1 t' ht, *,and_self]⟩
  case ia x i z=>
    have e1:∀t':T,(∀s∈bU (.ia x i z),gs t' s=gs t s)→gv t' x=gv t x:=λt' ht=>eD λs hs=>ht s (by simp [bU,hs])
    have e2:∀t':T,(∀s∈bU (.ia x i z),gs t' s=gs t s)→gv t' i=gv t i:=λt' ht=>eD λs hs=>ht s (by simp [bU,hs])
    simp only [bt] at hq
    split at hq
    · rename_i k nn hi
      split at hq
      · rename_i z' rows hx
        obtain ⟨row,h1,h2⟩:=hq
        exact ⟨_,h2,λt' _ ht _=>by simp only [bt,e1 t' ht,e2 t' ht,hx,hi];exact ⟨row,h1,by simp only [and_self]⟩⟩
      · rename_i z' rows hx
        obtain ⟨row,h1,h2⟩:=hq
        exact ⟨_,h2,λt' _ ht _=>by simp only [bt,e1 t' ht,e2 t' ht,hx,hi];exact ⟨row,h1,by simp only [and_self]⟩⟩
      · rename_i id hx
        split at hq
        · rename_i z' rs hg
          exact ⟨_,hq.2,λt' _ ht hM=>by simp only [bt,e1 t' ht,e2 t' ht,hx,hi,hM _ _ hg (by simp)];exact ⟨hq.1,by simp only [and_self]⟩⟩
        · exact hq.elim
      · exact hq.elim
    · exact hq.elim
  case ja x i z m=>
    have e1:∀t':T,(∀s∈bU (.ja x i z m),gs t' s=gs t s)→gv t' x=gv t x:=λt' ht=>eD λs hs=>ht s (by simp [bU,hs])
    have e2:∀t':T,(∀s∈bU (.ja x i z m),gs t' s=gs t s)→gv t' i=gv t i:=λt' ht=>eD λs hs=>ht s (by simp [bU,hs])
    simp only [bt,cZ] at hq
    split at hq
    · rename_i k nn hi
      split at hq
      · rename_i row off hx
        obtain ⟨sub,h1,h2⟩:=hq
        exact ⟨_,h2,λt' _ ht _=>by simp only [bt,e1 t' ht,e2 t' ht,hx,hi];exact ⟨sub,h1,by simp only [and_self]⟩⟩
      · rename_i id off hx
        exact ⟨_,hq.2,λt' _ ht _=>by simp only [bt,cZ,e1 t' ht,e2 t' ht,hx,hi];exact ⟨hq.1,by simp only [and_self]⟩⟩
      · exact hq.elim
    · exact hq.elim
  case ml x k ks zv ok=>
    have e1:∀t':T,(∀s∈bU (.ml x k ks zv ok),gs t' s=gs t s)→gv t' x=gv t x:=λt' ht=>eD λs hs=>ht s (by simp [bU,hs])
    have e2:∀t':T,(∀s∈bU (.ml x k ks zv ok),gs t' s=gs t s)→gv t' k=gv t k:=λt' ht=>eD λs hs=>ht s (by simp [bU,hs])
    cases hms:Nd h (gv t x)
    case true=>rw [hms] at hq;exact hq.elim
    rw [hms] at hq
    simp only [cond_false,bt] at hq
    split at hq
    · rename_i id hx
      split at hq
      · rename_i es hg
        obtain ⟨h1,r,h2,h3⟩:=hq
        cases r with
        |none=>exact ⟨_,h3,λt' _ ht hM=>by simp only [bt,e1 t' ht,e2 t' ht,hx,hM _ _ hg (by simp)];exact ⟨h1,none,h2,by simp only [and_self]⟩⟩
        |some p=>exact ⟨_,h3.2,λt' _ ht hM=>by simp only [bt,e1 t' ht,e2 t' ht,hx,hM _ _ hg (by simp)];exact ⟨h1,some p,h2,h3.1,by simp only [and_self]⟩⟩
      · rename_i es hg
        obtain ⟨h1,r,h2,h3⟩:=hq
        cases r with
        |none=>exact ⟨_,h3,λt' _ ht hM=>by simp only [bt,e1 t' ht,e2 t' ht,hx,hM _ _ hg (by simp)];exact ⟨h1,none,h2,by simp only [and_self]⟩⟩
        |some p=>exact ⟨_,h3.2,λt' _ ht hM=>by simp only [bt,e1 t' ht,e2 t' ht,hx,hM _ _ hg (by simp)];exact ⟨h1,some p,h2,h3.1,by simp only [and_self]⟩⟩
      · rename_i es r l hg
        obtain ⟨h1,r,h2,h3⟩:=hq
        cases r with
        |none=>exact ⟨_,h3,λt' _ ht hM=>by simp only [bt,e1 t' ht,e2 t' ht,hx,hM _ _ hg (by simp)];exact ⟨h1,none,h2,by simp only [and_self]⟩⟩
        |some p=>exact ⟨_,h3.2,λt' _ ht hM=>by simp only [bt,e1 t' ht,e2 t' ht,hx,hM _ _ hg (by simp)];exact ⟨h1,some p,h2,h3.1,by simp only [and_self]⟩⟩
      · rename_i hg
        simp only [Nd,hx,hg] at hms
        cases hms
      · exact hq.elim
    · rename_i hx
      exact ⟨_,hq.2,λt' _ ht _=>by simp only [bt,e1 t' ht,e2 t' ht,hx];exact ⟨hq.1,by simp only [and_self]⟩⟩
    · exact hq.elim
  case pu f x=>
    have e1:∀t':T,(∀s∈bU (.pu f x),gs t' s=gs t s)→gv t' x=gv t x:=λt' ht=>eD λs hs=>ht s (by simp [bU,hs])
    simp only [bt] at hq
    split at hq
    · rename_i v hv
      exact ⟨_,hq,λt' _ ht _=>by simp only [bt,e1 t' ht,hv,and_self]⟩
    · exact hq.elim
  case lm x=>
    have e1:∀t':T,(∀s∈bU (.lm x),gs t' s=gs t s)→gv t' x=gv t x:=λt' ht=>eD λs hs=>ht s (by simp [bU,hs])
    simp only [bt] at hq
    split at hq
    · rename_i id hx
      split at hq
      · rename_i es hg
        exact ⟨_,hq,λt' _ ht hM=>by simp only [bt,e1 t' ht,hx,hM _ _ hg (by simp),and_self]⟩
      · rename_i es hg
        exact ⟨_,hq,λt' _ ht hM=>by simp only [bt,e1 t' ht,hx,hM _ _ hg (by simp),and_self]⟩
      · rename_i hg
        exact ⟨_,hq,λt' _ ht hM=>by simp only [bt,e1 t' ht,hx,hM _ _ hg (by simp),and_self]⟩
      · rename_i hg
        exact ⟨_,hq,λt' _ ht hM=>by simp only [bt,e1 t' ht,hx,hM _ _ hg (by simp),and_self]⟩
      · exact hq.elim
    · rename_i hx
      exact ⟨_,hq,λt' _ ht _=>by simp only [bt,e1 t' ht,hx,and_self]⟩
    · exact hq.elim
  case bin op x y=>
    have e1:∀t':T,(∀s∈bU (.bin op x y),gs t' s=gs t s)→gv t' x=gv t x:=λt' ht=>eD λs hs=>ht s (by simp [bU,hs])
    have e2:∀t':T,(∀s∈bU (.bin op x y),gs t' s=gs t s)→gv t' y=gv t y:=λt' ht=>eD λs hs=>ht s (by simp [bU,hs])
    simp only [bt] at hq
    split at hq
    · rename_i aa bb hx hy
      split at hq
      · exact ⟨_,hq.2,λt' _ ht _=>by simp only [bt,e1 t' ht,e2 t' ht,hx,hy];exact ⟨hq.1,by simp only [and_self]⟩⟩
      · exact hq.elim
    · rename_i k aa k' bb hx hy
      cases hsh:QQ op
      rotate_left
      · rw [hsh] at hq
        simp only [cond_true] at hq
        exact ⟨_,hq.2,λt' _ ht _=>by simp only [bt,e1 t' ht,e2 t' ht,hx,hy,hsh,cond_true];exact ⟨hq.1,by simp only [and_self]⟩⟩
      rw [hsh] at hq
      simp only [cond_false] at hq
      cases hk:Nat.beq (kn k) (kn k')
      · rw [hk] at hq;exact hq.elim
      · rw [hk] at hq
        simp only [cond_true] at hq
        split at hq<;>(try (exact hq.elim))
        · rcases hq with hq | hq
          · exact ⟨_,hq.2,λt' _ ht _=>by simp only [bt,e1 t' ht,e2 t' ht,hx,hy,hsh,cond_false,hk,cond_true,w7];exact .inl ⟨hq.1,by simp only [and_self]⟩⟩
          · exact ⟨_,hq,λt' _ ht _=>by simp only [bt,e1 t' ht,e2 t' ht,hx,hy,hsh,cond_false,hk,cond_true,w7];exact .inr (by simp only [and_self])⟩
        · rcases hq with hq | hq
          · exact ⟨_,hq.2,λt' _ ht _=>by simp only [bt,e1 t' ht,e2 t' ht,hx,hy,hsh,cond_false,hk,cond_true,w7];exact .inl ⟨hq.1,by simp only [and_self]⟩⟩
          · exact ⟨_,hq,λt' _ ht _=>by simp only [bt,e1 t' ht,e2 t' ht,hx,hy,hsh,cond_false,hk,cond_true,w7];exact .inr (by simp only [and_self])⟩
        · rcases hq with hq | hq
          · exact ⟨_,hq.2,λt' _ ht _=>by simp only [bt,e1 t' ht,e2 t' ht,hx,hy,hsh,cond_false,hk,cond_true,w7];exact .inl ⟨hq.1,by simp only [and_self]⟩⟩
          · exact ⟨_,hq,λt' _ ht _=>by simp only [bt,e1 t' ht,e2 t' ht,hx,hy,hsh,cond_false,hk,cond_true,w7];exact .inr (by simp only [and_self])⟩
        · obtain ⟨h0,hq⟩:=hq
          rcases hq with hq | hq
          · exact ⟨_,hq.2,λt' _ ht _=>by simp only [bt,e1 t' ht,e2 t' ht,hx,hy,hsh,cond_false,hk,cond_true,w7];exact ⟨h0,.inl ⟨hq.1,by simp only [and_self]⟩⟩⟩
          · exact ⟨_,hq,λt' _ ht _=>by simp only [bt,e1 t' ht,e2 t' ht,hx,hy,hsh,cond_false,hk,cond_true,w7];exact ⟨h0,.inr (by simp only [and_self])⟩⟩
        · exact ⟨_,hq.2,λt' _ ht _=>by simp only [bt,e1 t' ht,e2 t' ht,hx,hy,hsh,cond_false,hk,cond_true];exact ⟨hq.1,by simp only [and_self]⟩⟩
        all_goals exact ⟨_,hq,λt' _ ht _=>by simp only [bt,e1 t' ht,e2 t' ht,hx,hy,hsh,cond_false,hk,cond_true,and_self]⟩
    · exact hq.elim
  case eq ne st ks x y=>
    have e1:∀t':T,(∀s∈bU (.eq ne st ks x y),gs t' s=gs t s)→gv t' x=gv t x:=λt' ht=>eD λs hs=>ht s (by simp [bU,hs])
    have e2:∀t':T,(∀s∈bU (.eq ne st ks x y),gs t' s=gs t s)→gv t' y=gv t y:=λt' ht=>eD λs hs=>ht s (by simp [bU,hs])
    simp only [bt] at hq
    obtain ⟨h1,hq⟩:=hq
    unfold Rp at hq
    split at hq
    · rename_i e he
      exact ⟨_,hq,λt' _ ht _=>by simp only [bt,e1 t' ht,e2 t' ht,Rp,he,and_self,and_true];exact h1⟩
    · exact hq.elim
  case un op x=>
    have e1:∀t':T,(∀s∈bU (.un op x),gs t' s=gs t s)→gv t' x=gv t x:=λt' ht=>eD λs hs=>ht s (by simp [bU,hs])
    simp only [bt] at hq
    split at hq
    · rename_i b hx
      exact ⟨_,hq,λt' _ ht _=>by simp only [bt,e1 t' ht,hx,and_self]⟩
    · rename_i k aa hx
      rcases hq with hq | hq
      · exact ⟨_,hq.2,λt' _ ht _=>by simp only [bt,e1 t' ht,hx,w7];exact .inl ⟨hq.1,by simp only [and_self]⟩⟩
      · exact ⟨_,hq,λt' _ ht _=>by simp only [bt,e1 t' ht,hx,w7];exact .inr (by simp only [and_self])⟩
    · exact hq.elim
  case cv k x=>
    have e1:∀t':T,(∀s∈bU (.cv k x),gs t' s=gs t s)→gv t' x=gv t x:=λt' ht=>eD λs hs=>ht s (by simp [bU,hs])
    simp only [bt] at hq
    split at hq
    · rename_i k' aa hx
      rcases hq with hq | hq
      · exact ⟨_,hq.2,λt' _ ht _=>by simp only [bt,e1 t' ht,hx,w7];exact .inl ⟨hq.1,by simp only [and_self]⟩⟩
      · exact ⟨_,hq,λt' _ ht _=>by simp only [bt,e1 t' ht,hx,w7];exact .inr (by simp only [and_self])⟩
    · exact hq.elim
  case ln x=>
    have e1:∀t':T,(∀s∈bU (.ln x),gs t' s=gs t s)→gv t' x=gv t x:=λt' ht=>eD λs hs=>ht s (by simp [bU,hs])
    split at hq
    · rename_i z r hx
      exact ⟨_,hq,λt' _ ht _=>by simp only [bt,e1 t' ht,hx];exact λ_=>by simp only [and_self]⟩
    · rename_i z r hx
      exact ⟨_,hq,λt' _ ht _=>by simp only [bt,e1 t' ht,hx];exact λ_=>by simp only [and_self]⟩
    · rename_i id hx
      split at hq
      · rename_i z r hg
        exact ⟨_,hq,λt' _ ht hM=>by simp only [bt,e1 t' ht,hx,hM _ _ hg (by simp)];exact λ_=>by simp only [and_self]⟩
      · exact hq.elim
    · exact hq.elim
  case ls x=>
    have e1:∀t':T,(∀s∈bU (.ls x),gs t' s=gs t s)→gv t' x=gv t x:=λt' ht=>eD λs hs=>ht s (by simp [bU,hs])
    split at hq
    · rename_i r hx
      exact ⟨_,hq,λt' _ ht _=>by simp only [bt,e1 t' ht,hx];exact λ_=>by simp only [and_self]⟩
    · exact hq.elim
  case mn x y=>
    have e1:∀t':T,(∀s∈bU (.mn x y),gs t' s=gs t s)→gv t' x=gv t x:=λt' ht=>eD λs hs=>ht s (by simp [bU,hs])
    have e2:∀t':T,(∀s∈bU (.mn x y),gs t' s=gs t s)→gv t' y=gv t y:=λt' ht=>eD λs hs=>ht s (by simp [bU,hs])
    simp only [bt] at hq
    split at hq
    · rename_i k aa k' bb hx hy
      exact ⟨_,hq,λt' _ ht _=>by simp only [bt,e1 t' ht,e2 t' ht,hx,hy,and_self]⟩
    · exact hq.elim
  case mx x y=>
    have e1:∀t':T,(∀s∈bU (.mx x y),gs t' s=gs t s)→gv t' x=gv t x:=λt' ht=>eD λs hs=>ht s (by simp [bU,hs])
    have e2:∀t':T,(∀s∈bU (.mx x y),gs t' s=gs t s)→gv t' y=gv t y:=λt' ht=>eD λs hs=>ht s (by simp [bU,hs])
    simp only [bt] at hq
    split at hq
    · rename_i k aa k' bb hx hy
      exact ⟨_,hq,λt' _ ht _=>by simp only [bt,e1 t' ht,e2 t' ht,hx,hy,and_self]⟩
    · exact hq.elim
  case ex x i=>
    have e1:∀t':T,(∀s∈bU (.ex x i),gs t' s=gs t s)→gv t' x=gv t x:=λt' ht=>eD λs hs=>ht s (by simp [bU,hs])
    simp only [bt] at hq
    revert hq
    (repeat' split)<;>intro hq<;>(try (exact hq.elim))
    all_goals exact ⟨_,hq,λt' _ ht _=>by simp only [bt,e1 t' ht, *,and_self]⟩
  case nc x=>
    have e1:∀t':T,(∀s∈bU (.nc x),gs t' s=gs t s)→gv t' x=gv t x:=λt' ht=>eD λs hs=>ht s (by simp [bU,hs])
    simp only [bt] at hq
    revert hq
    (repeat' split)<;>intro hq<;>(try (exact hq.elim))
    all_goals first
      |exact ⟨_,hq,λt' _ ht _=>by simp only [bt,e1 t' ht, *,and_self]⟩
      | (rename_i f c hg
         cases hb:Nat.blt f 2000000<;>rw [hb] at hq
         · exact hq.elim
         · exact ⟨_,hq,λt' _ ht _=>by simp only [bt,e1 t' ht,hg,hb,cond_true,and_self]⟩)
  case ix x i=>
    have e1:∀t':T,(∀s∈bU (.ix x i),gs t' s=gs t s)→gv t' x=gv t x:=λt' ht=>eD λs hs=>ht s (by simp [bU,hs])
    have e2:∀t':T,(∀s∈bU (.ix x i),gs t' s=gs t s)→gv t' i=gv t i:=λt' ht=>eD λs hs=>ht s (by simp [bU,hs])
    simp only [bt] at hq
    split at hq
    · rename_i s k m hx hi
      obtain ⟨b,h1,h2⟩:=hq
      exact ⟨_,h2,λt' _ ht _=>by simp only [bt,e1 t' ht,e2 t' ht,hx,hi];exact ⟨b,h1,by simp only [and_self]⟩⟩
    · exact hq.elim
  case mf f caps=>
    simp only [bt,bf] at hq
    refine ⟨_,hq.2,λt' _ ht _=>?_⟩
    have hg:∀p∈caps,gv t' p=gv t p:=λp hp=>eD λs hs=>ht s (by simp only [bU,aO];exact ⟨p,hp,hs⟩)
    simp only [bt,bf]
    rw [aq hg,CX (g:=λx=>s_ (gv t x)) caps (λp hp=>by rw [hg p hp])]
    exact ⟨hq.1,by simp only [and_self]⟩
  case cf f args=>
    simp only [bf] at hq
    obtain ⟨h0,r,h2,h3⟩:=hq
    refine ⟨r,h3,λt' h1 ht _=>?_⟩
    have hg:∀p∈args,cH (gv t' p)=cH (gv t p):=λp hp=>by rw [eD λs hs=>ht s (by simp only [bU,aO];exact ⟨p,hp,hs⟩)]
    simp only [bt,bf]
    rw [aq hg]
    have h4:=gD.1 h0
    have h6:pY (Sat P) f (args.map λa=>cH (gv t a)) t' h1 (λv' t'' h'=>v'=r∧t''=t'∧h'=h1) (λ_ _ _=>False):=by
      simp only [pY,h4]
      exact h2.mono λo h' ⟨g1,g2⟩=>by subst g1 g2;simp only [and_self]
    cases ow f
    · simp only [pS,h4,cond_false]
      exact h6
    · exact h6
  case ap x y z b=>
    have e1:∀t':T,(∀s∈bU (.ap x y z b),gs t' s=gs t s)→Hf t' x=Hf t x:=λt' ht=>by
      have:=eD (t:=t) (t':=t') (x:=x) λs hs=>ht s (by simp [bU,hs])
      cases x with
      |s i=>exact this
      |g i=>exact this
      |k v=>cases v<;>first | exact this | rfl
    have e2:∀t':T,(∀s∈bU (.ap x y z b),gs t' s=gs t s)→gv t' y=gv t y:=λt' ht=>eD λs hs=>ht s (by simp [bU,hs])
    split at hq
    · rename_i z' r hx
      have eg:Hf t (.k (.cl z' r)) = .cl z' r:=rfl
      simp only [bt,eg] at hq
      split at hq
      · rename_i z'' ys hy
        exact ⟨_,hq.2,λt' _ ht _=>by simp only [bt,e1 t' ht,e2 t' ht,hx,hy];exact ⟨hq.1,by simp only [and_self]⟩⟩
      · rename_i z'' ys hy
        exact ⟨_,hq.2,λt' _ ht _=>by simp only [bt,e1 t' ht,e2 t' ht,hx,hy];exact ⟨hq.1,by simp only [and_self]⟩⟩
      · exact hq.elim
    · rename_i z0 hx
      split at hq
      · rename_i z'' ys hy
        exact ⟨_,hq.2,λt' _ ht _=>by simp only [bt,e1 t' ht,e2 t' ht,hx,hy];exact ⟨hq.1,tJ (by simp only [and_self])⟩⟩
      · rename_i z'' ys hy
        exact ⟨_,hq.2,λt' _ ht _=>by simp only [bt,e1 t' ht,e2 t' ht,hx,hy];exact ⟨hq.1,tJ (by simp only [and_self])⟩⟩
      · exact hq.elim
    · exact hq.elim
  case ss x lo hi=>
    have e1:∀t':T,(∀s∈bU (.ss x lo hi),gs t' s=gs t s)→gv t' x=gv t x:=λt' ht=>eD λs hs=>ht s (by simp [bU,hs])
    have e2:∀t':T,(∀s∈bU (.ss x lo hi),gs t' s=gs t s)→∀u,lo=some u→gv t' u=gv t u:=λt' ht u hu=>eD λs hs=>ht s (by simp [bU,Ha,hs,hu])
    have e3:∀t':T,(∀s∈bU (.ss x lo hi),gs t' s=gs t s)→∀u,hi=some u→gv t' u=gv t u:=λt' ht u hu=>eD λs hs=>ht s (by simp [bU,Ha,hs,hu])
    cases lo with
    |none=>
      simp only [bt] at hq
      split at hq
      · rename_i k l hl
        cases hl
        split at hq
        · rename_i r hx
          exact ⟨_,hq.2,λt' _ ht _=>by simp only [bt,e1 t' ht,hx];exact ⟨hq.1,by simp only [and_self]⟩⟩
        · exact hq.elim
      · rename_i k l hi hl
        cases hl
        split at hq
        · rename_i k' u hu
          split at hq
          · rename_i r hx
            exact ⟨_,hq.2,λt' _ ht _=>by simp only [bt,e1 t' ht,e3 t' ht _ rfl,hu,hx];exact ⟨hq.1,by simp only [and_self]⟩⟩
          · exact hq.elim
        · exact hq.elim
      · exact hq.elim
    |some lo=>
      simp only [bt] at hq
      split at hq
      · rename_i k l hl
        split at hq
        · rename_i r hx
          exact ⟨_,hq.2,λt' _ ht _=>by simp only [bt,e1 t' ht,e2 t' ht _ rfl,hl,hx];exact ⟨hq.1,by simp only [and_self]⟩⟩
        · exact hq.elim
      · rename_i k l hi hl
        split at hq
        · rename_i k' u hu
          split at hq
          · rename_i r hx
            exact ⟨_,hq.2,λt' _ ht _=>by simp only [bt,e1 t' ht,e2 t' ht _ rfl,e3 t' ht _ rfl,hl,hu,hx];exact ⟨hq.1,by simp only [and_self]⟩⟩
          · exact hq.elim
        · exact hq.elim
      · exact hq.elim
  case s3 x lo hi m z=>
    replace hq:(∀i,gv t x≠.os i)∧bt (Sat P) ow (.s3 x lo hi m z) t h (λv _ _=>K v) λ_ _ _=>False:=by
      split at hq
      · exact hq.elim
      · rename_i hno
        exact ⟨hno,hq⟩
    obtain ⟨hno,hq⟩:=hq
    have hno':∀i,dv (gv t x)≠.os i:=λi hi=>by
      cases hg:gv t x<;>rw [hg] at hi<;>simp only [dv,reduceCtorEq,V.os.injEq] at hi
      subst hi
      exact hno _ hg
    have e1:∀t':T,(∀s∈bU (.s3 x lo hi m z),gs t' s=gs t s)→gv t' x=gv t x:=λt' ht=>eD λs hs=>ht s (by simp [bU,hs])
    have e2:∀t':T,(∀s∈bU (.s3 x lo hi m z),gs t' s=gs t s)→∀u,lo=some u→gv t' u=gv t u:=λt' ht u hu=>eD λs hs=>ht s (by simp [bU,Ha,hs,hu])
    have e3:∀t':T,(∀s∈bU (.s3 x lo hi m z),gs t' s=gs t s)→∀u,hi=some u→gv t' u=gv t u:=λt' ht u hu=>eD λs hs=>ht s (by simp [bU,Ha,hs,hu])
    have e4:∀t':T,(∀s∈bU (.s3 x lo hi m z),gs t' s=gs t s)→∀u,m=some u→gv t' u=gv t u:=λt' ht u hu=>eD λs hs=>ht s (by simp [bU,Ha,hs,hu])
    cases lo with
    |none=>
      simp only [bt] at hq
      split at hq
      · rename_i k l hl
        cases hl
        split at hq
        · rename_i z' r hx
          exact ⟨_,hq.2,λt' _ ht _=>by simp only [bt,e1 t' ht,hx];exact ⟨hq.1,by simp only [and_self]⟩⟩
        · rename_i z' r hx
          exact ⟨_,hq.2,λt' _ ht _=>by simp only [bt,e1 t' ht,hx];exact ⟨hq.1,by simp only [and_self]⟩⟩
        · rename_i i hx;exact absurd hx (hno' i)
        · exact hq.elim
      · rename_i k l hi hl
        cases hl
        split at hq
        · rename_i k' u hu
          split at hq
          · rename_i z' r hx
            exact ⟨_,hq.2,λt' _ ht _=>by simp only [bt,e1 t' ht,e3 t' ht _ rfl,hu,hx];exact ⟨hq.1,by simp only [and_self]⟩⟩
          · rename_i z' r hx
            exact ⟨_,hq.2,λt' _ ht _=>by simp only [bt,e1 t' ht,e3 t' ht _ rfl,hu,hx];exact ⟨hq.1,by simp only [and_self]⟩⟩
          · rename_i i hx;exact absurd hx (hno' i)
          · exact hq.elim
        · exact hq.elim
      · rename_i k l hi m hl
        cases hl
        split at hq
        · rename_i k' u k'' u' hu hm
          split at hq
          · rename_i z' r hx
            exact ⟨_,hq.2,λt' _ ht _=>by simp only [bt,e1 t' ht,e3 t' ht _ rfl,e4 t' ht _ rfl,hu,hm,hx];exact ⟨hq.1,by simp only [and_self]⟩⟩
          · rename_i z' r hx
            exact ⟨_,hq.2,λt' _ ht _=>by simp only [bt,e1 t' ht,e3 t' ht _ rfl,e4 t' ht _ rfl,hu,hm,hx];exact ⟨hq.1,by simp only [and_self]⟩⟩
          · exact hq.elim
        · exact hq.elim
      · exact hq.elim
    |some lo=>
      simp only [bt] at hq
      split at hq
      · rename_i k l hl
        split at hq
        · rename_i z' r hx
          exact ⟨_,hq.2,λt' _ ht _=>by simp only [bt,e1 t' ht,e2 t' ht _ rfl,hl,hx];exact ⟨hq.1,by simp only [and_self]⟩⟩
        · rename_i z' r hx
          exact ⟨_,hq.2,λt' _ ht _=>by simp only [bt,e1 t' ht,e2 t' ht _ rfl,hl,hx];exact ⟨hq.1,by simp only [and_self]⟩⟩
        · rename_i i hx;exact absurd hx (hno' i)
        · exact hq.elim
      · rename_i k l hi hl
        split at hq
        · rename_i k' u hu
          split at hq
          · rename_i z' r hx
            exact ⟨_,hq.2,λt' _ ht _=>by simp only [bt,e1 t' ht,e2 t' ht _ rfl,e3 t' ht _ rfl,hl,hu,hx];exact ⟨hq.1,by simp only [and_self]⟩⟩
          · rename_i z' r hx
            exact ⟨_,hq.2,λt' _ ht _=>by simp only [bt,e1 t' ht,e2 t' ht _ rfl,e3 t' ht _ rfl,hl,hu,hx];exact ⟨hq.1,by simp only [and_self]⟩⟩
          · rename_i i hx;exact absurd hx (hno' i)
          · exact hq.elim
        · exact hq.elim
      · rename_i k l hi m hl
        split at hq
        · rename_i k' u k'' u' hu hm
          split at hq
          · rename_i z' r hx
            exact ⟨_,hq.2,λt' _ ht _=>by simp only [bt,e1 t' ht,e2 t' ht _ rfl,e3 t' ht _ rfl,e4 t' ht _ rfl,hl,hu,hm,hx];exact ⟨hq.1,by simp only [and_self]⟩⟩
          · rename_i z' r hx
            exact ⟨_,hq.2,λt' _ ht _=>by simp only [bt,e1 t' ht,e2 t' ht _ rfl,e3 t' ht _ rfl,e4 t' ht _ rfl,hl,hu,hm,hx];exact ⟨hq.1,by simp only [and_self]⟩⟩
          · exact hq.elim
        · exact hq.elim
      · exact hq.elim
end
end Go.Vx
namespace Go.Vx
section
variable {P:Program} {E:gI} {n:Nat} {G:Nat→Prop} {ρ:List Value} {t:T} {h:H} {a:Act} {w:World} {o:Oper} {bW:Act→World→Prop} {Q:Exit→Act→World→Prop}
theorem HF {P:Program} {ty:TypeId} {op:Op} {cs:List V} (h:fj P ty op=some (.al cs)):∃t,op = .alloc t∧q8 P t=some cs:=by
  cases op
  case alloc t=>
    have al:(q8 P t).map X.al=some (.al cs)→∃t',Op.alloc t = .alloc t'∧q8 P t'=some cs:=λh=>by
      simp only [aG,X.al.injEq] at h
      obtain ⟨x,hx,rfl⟩:=h
      exact ⟨t,rfl,hx⟩
    simp only [fj] at h
    split at h
    · split at h
      · simp only [aJ,aD] at h
        obtain ⟨zs,hz,h⟩:=h
        repeat' split at h
        all_goals cases h
      · exact al h
    · exact al h
  all_goals
    exfalso
    simp only [fj] at h
    repeat' split at h
    all_goals
      first
        |contradiction
        |(simp [aD] at h;done)
        | (simp [aD] at h
           obtain ⟨_,_,_,_,h⟩:=h
           (repeat' split at h)<;>simp at h)
        | (simp [aD] at h
           obtain ⟨_,_,_,_,_,h⟩:=h
           (repeat' split at h)<;>simp at h)
        | (simp [aD] at h
           obtain ⟨_,_,h⟩:=h
           (repeat' split at h)<;>simp at h)
theorem HE {P:Program} {ty:TypeId} {op:Op} {f:Nat} {oa:List O} (h:fj P ty op=some (.cf f oa)):∃c,op = .call c∧c.callee = .value (.func f)∧f<5000000∧args P c.args.toList c.argTypes.toList=some oa:=by
  cases op
  case call c=>
    obtain ⟨callee,as,ts⟩:=c
    cases callee with
    |value x=>
      cases x<;>simp only [fj] at h
      case func g=>
        split at h
        · rename_i hlt
          simp only [aG,X.cf.injEq] at h
          obtain ⟨oa,ha,rfl,rfl⟩:=h
          exact ⟨_,rfl,rfl,hlt,ha⟩
        · cases h
      all_goals
        simp [aD] at h
    |invoke r m=>cases h
    |builtin b=>
      exfalso
      cases b<;>simp only [fj] at h<;>(repeat' split at h)<;>first
        |contradiction
        |(simp [aD] at h;done)
        | (simp [aD] at h
           obtain ⟨_,_,h⟩:=h
           (repeat' split at h)<;>simp at h)
        | (simp [aD] at h
           obtain ⟨_,_,_,_,h⟩:=h
           (repeat' split at h)<;>simp at h)
  all_goals
    exfalso
    simp only [fj] at h
    repeat' split at h
    all_goals
      first
        |contradiction
        |(simp [aD] at h;done)
        | (simp [aD] at h
           obtain ⟨_,_,_,_,h⟩:=h
           (repeat' split at h)<;>simp at h)
        | (simp [aD] at h
           obtain ⟨_,_,_,_,_,h⟩:=h
           (repeat' split at h)<;>simp at h)
        | (simp [aD] at h
           obtain ⟨_,_,h⟩:=h
           (repeat' split at h)<;>simp at h)
theorem HD {P:Program} {ty:TypeId} {op:Op} {pl:Nat} (h:fj P ty op=some (.mm pl)):∃t,op = .makeMap t none:=by
  cases op
  case makeMap t r=>
    cases r with
    |none=>exact ⟨t,rfl⟩
    |some r=>simp only [fj] at h;cases h
  all_goals
    exfalso
    simp only [fj] at h
    repeat' split at h
    all_goals
      first
        |contradiction
        |(simp [aD] at h;done)
        | (simp [aD] at h
           obtain ⟨_,_,_,_,h⟩:=h
           (repeat' split at h)<;>simp at h)
        | (simp [aD] at h
           obtain ⟨_,_,_,_,_,h⟩:=h
           (repeat' split at h)<;>simp at h)
        | (simp [aD] at h
           obtain ⟨_,_,h⟩:=h
           (repeat' split at h)<;>simp at h)
def we (ρ:List Value) (i:Nat):Prop:=∃v,ρ[i]? = some v∧v≠undef
theorem dL.ref {v:Value} {x:V} (h:dL G w ρ v x):∀i∈ib x,we ρ i:=by
 cases h<;>simp only [ib,cU,false_imp_iff,implies_true,aP,forall_eq]<;>(try exact ⟨_,‹_›,by simp [undef]⟩)
theorem dH.ref {v:Value} {x:V} (h:dH G w ρ v x):∀i∈kB x,we ρ i:=by
 cases h with
 |k h=>intro i hi;exact h.ref i (by cases h<;>simpa [kB] using hi)
 |fc f u cs caps h0 h1 h2=>
  intro i hi;simp only [kB,aO] at hi;obtain ⟨x,hx,hi⟩:=hi;obtain ⟨j,hxj⟩:=au.1 hx;exact (h2 j x hxj).ref i hi
theorem dM.ref {v:Value} {x:V} (h:dM G w ρ v x):∀i∈jF x,we ρ i:=by
 cases h with
 |c h=>
  intro i hi;refine h.ref i ?_;cases h with
  |k h=>cases h<;>simpa [jF] using hi
  |fc=>simpa [jF] using hi
 |ag cs vs h1 h2=>
  intro i hi;simp only [jF,aO] at hi;obtain ⟨x,hx,hi⟩:=hi;obtain ⟨j,hxj⟩:=au.1 hx;exact (h2 j x hxj).ref i hi
theorem a_.ref {v:Value} {x:V} (h:a_ G w ρ v x):∀i∈eH x,we ρ i:=by
 cases h with
 |o h=>
  intro i hi;refine h.ref i ?_;cases h with
  |c h=>cases h with
   |k h=>cases h<;>simpa [eH] using hi
   |fc=>simpa [eH] using hi
  |ag cs vs h1 h2=>simpa [eH] using hi
 |tu cs vs h1 h2=>
  intro i hi;simp only [eH,aO] at hi;obtain ⟨x,hx,hi⟩:=hi;obtain ⟨j,hxj⟩:=au.1 hx;exact (h2 j x hxj).ref i hi
theorem cY.ref {hd:Value} {x:B} (h:cY G w ρ hd x):∀i∈e9 x,we ρ i:=by
 cases x with
 |no=>simp [e9]
 |nw=>simp [e9]
 |cells cs=>
  obtain ⟨b,arr,ty,rfl,h1,h2,h3⟩:=h;intro i hi;simp only [e9,aO] at hi;obtain ⟨x,hx,hi⟩:=hi;obtain ⟨j,hxj⟩:=au.1 hx;exact (h3 j x hxj).ref i hi
 |mp es=>
  obtain ⟨r,arr,clk,rfl,h1,h2,h3,h4⟩:=h;intro i hi;simp only [e9,aO] at hi;obtain ⟨x,hx,hi⟩:=hi;obtain ⟨j,hxj⟩:=au.1 hx;have hj:j<arr.size:=by rw [h2];exact (aA.1 hxj).1
  rcases aR.1 hi with hi | hi
  ·exact (h4 j _ x (aI hj) hxj).1.ref i hi
  ·exact (h4 j _ x (aI hj) hxj).2.ref i hi
 |dm es=>simp [e9]
 |di es r l=>simp [e9]
 |ms z es out it=>
  obtain ⟨⟨r,arr,clk,rfl,h1,h2,h3,h4,h5,h6,h7⟩,_⟩:=h;intro i hi
  match out,hi,h6,h7 with
  |some (j,v),hi,h6,h7=>
   have hj:j<arr.size:=by rw [h2];exact h6 j v rfl
   exact (h7 j v _ rfl (aI hj)).ref i hi
 |rows z rs=>simp [e9]
 |rx z rs k r=>
  obtain ⟨b,cap,arr,ty,rfl,h1,h2,h3,h4,h0,h5,h6⟩:=h;intro i hi;simp only [e9,aO] at hi;obtain ⟨x,hx,hi⟩:=hi;obtain ⟨j,hxj⟩:=au.1 hx;exact (h6 j x hxj).ref i hi
theorem an.place (hC:an E n G ρ t h a w) {id:Nat} (hx:h[id]? = some .nw) (hid:E.ρ.length≤id) {hd:Value} {x:B} (hb:cY G w ρ hd x) (hf:∀b∈eO hd x,E.w.heap.size≤b∧¬G b∧¬own ρ h b) :
  an E n G (ρ.set id hd) t (h.set id x) a w:=by
 have hO:=hC.ok;have hil:id<ρ.length:=by rw [hO.hr.len];exact (aA.1 hx).1
 have hihl:id<h.length:=(aA.1 hx).1;have hu:ρ[id]? = some undef:=by
  have:=hO.hr.rep id _ _ (aB hil) hx;rw [aB hil];exact congrArg some this
 have hne:∀j,we ρ j→j≠id:=by
  rintro j ⟨v,h1,h2⟩ rfl
  rw [hu] at h1;cases h1;exact h2 rfl
 have hg:∀j,we ρ j→(ρ.set id hd)[j]? = ρ[j]?:=λj hj=>by rw [bH,if_neg (λe=>hne j hj e.symm)]
 have get:∀(j:Nat) (v:Value) (y:B),(ρ.set id hd)[j]? = some v→(h.set id x)[j]? = some y→(j≠id∧ρ[j]? = some v∧h[j]? = some y)∨(j=id∧v=hd∧y=x):=by
  intro j v y h1 h2;rw [bH] at h1 h2;split at h1
  ·rename_i hj;subst hj;rw [if_pos rfl,if_pos hihl] at h2;cases h1;cases h2;exact .inr ⟨rfl,rfl,rfl⟩
  ·rename_i hj;rw [if_neg hj] at h2;exact .inl ⟨λe=>hj e.symm,h1,h2⟩
 have hown:∀b,own (ρ.set id hd) (h.set id x) b→own ρ h b∨b∈eO hd x:=by
  rintro b ⟨j,v,y,h1,h2,h3,h4⟩
  rcases get j v y h1 h2 with ⟨_,g1,g2⟩ | ⟨_,rfl,rfl⟩
  ·exact .inl ⟨j,v,y,g1,g2,h3,h4⟩
  ·exact .inr h4
 refine ⟨⟨⟨by simp [hO.hr.len],λj v y h1 h2=>?_,λj j' v v' y y' b h1 h2 h3 h4 h5 h6 h7 h8=>?_,hO.hr.gl,λb hb ho=>?_,hO.hr.sZ⟩,hO.gm,hO.go,λb hb=>?_,hO.frame,hO.size,hO.os,hO.tape,hO.out,λj v hv hs=>?_,by simpa using hO.hl,λr hr=>?_⟩,
  hC.df,hC.sz,λi=>(hC.tm i).mono (λ_ h=>h) (λ_ _=>rfl) (λj hj=>hg j ((hC.tm i).ref j hj))⟩
 ·rcases get j v y h1 h2 with ⟨_,g1,g2⟩ | ⟨rfl,rfl,rfl⟩
  ·have hr:=hO.hr.rep j v y g1 g2;exact hr.mono (λ_ h=>h) (λ_ _=>rfl) (λ_ _=>rfl) (λk hk=>hg k (hr.ref k hk))
  ·exact hb.mono (λ_ h=>h) (λ_ _=>rfl) (λ_ _=>rfl) (λk hk=>hg k (hb.ref k hk))
 ·rcases get j v y h1 h2 with ⟨hj,g1,g2⟩ | ⟨rfl,rfl,rfl⟩<;>rcases get j' v' y' h4 h5 with ⟨hj',k1,k2⟩ | ⟨rfl,rfl,rfl⟩
  ·exact hO.hr.mq j j' v v' y y' b g1 g2 h3 k1 k2 h6 h7 h8
  ·exact absurd ⟨j,v,y,g1,g2,h3,h7⟩ (hf b h8).2.2
  ·exact absurd ⟨j',v',y',k1,k2,h6,h8⟩ (hf b h7).2.2
  ·rfl
 ·rcases hown b ho with h1 | h1
  ·exact hO.hr.gd b hb h1
  ·exact (hf b h1).2.1 hb
 ·rcases hown b hb with h1 | h1
  ·exact hO.oo b h1
  ·exact .inl (hf b h1).1
 ·have hj:j≠id:=by
   have:=(aA.1 hv).1;omega
  rw [bH,if_neg (λe=>hj e.symm)];exact hO.hand j v hv hs
 ·obtain ⟨g1,g2,g3⟩:=hO.rG r hr;refine ⟨g1,g2,λg4=>?_⟩;obtain ⟨j,v,y,h1,h2,h3,h4⟩:=g4;rcases get j v y h1 h2 with ⟨_,k1,k2⟩ | ⟨rfl,rfl,rfl⟩
  ·exact g3 ⟨j,v,y,k1,k2,h3,h4⟩
  ·exact hb.T1 h3 h4 g1
theorem an.room (hC:an E n G ρ t h a w):∀k:Nat,∃ρ',an E n G ρ' t (h++List.replicate k .nw) a w
 |0=>⟨ρ,by simpa using hC⟩
 |k+1=>by
  obtain ⟨ρ',h1⟩:=hC.room k;refine ⟨ρ' ++ [undef],?_⟩;have:=h1.push (gU.refl w) undef .nw (by simp [fo,undef]) rfl;rw [List.replicate_succ',←bM];exact this
end
end Go.Vx
namespace Go.Vx
theorem k0 {x:V} (h:∀g c,x≠.fc g c):(∀f,rm f x=vd f x)∧kB x=ib x∧∀i,qh i x=uC i x:=by
 cases x<;>first | exact ⟨λ_=>rfl,rfl,λ_=>rfl⟩ | exact absurd rfl (h _ _)
theorem k1 {x:V} (h:∀c,x≠.ag c):(∀f,oX f x=rm f x)∧jF x=kB x∧∀i,py i x=qh i x:=by
 cases x<;>first | exact ⟨λ_=>rfl,rfl,λ_=>rfl⟩ | exact absurd rfl (h _)
theorem k2 {x:V} (h:∀c,x≠.tu c):(∀f,gN f x=oX f x)∧eH x=jF x∧∀i,AM i x=py i x:=by
 cases x<;>first | exact ⟨λ_=>rfl,rfl,λ_=>rfl⟩ | exact absurd rfl (h _)
theorem BN {f:Nat→Nat} {x:V} (h:∀i∈ib x,f i=i):vd f x=x:=by
 cases x<;>first | rfl | (simp only [vd];rw [h _ (by simp [ib])])
theorem oh {f:Nat→Nat} {x:V} (h:∀i∈kB x,f i=i):rm f x=x:=by
 by_cases hx:∃g c,x=V.fc g c
 ·obtain ⟨g,c,rfl⟩:=hx;simp only [kB,aO] at h;simp only [rm,fE (λx hx=>BN λi hi=>h i ⟨x,hx,hi⟩)]
 ·obtain ⟨e1,e2,_⟩:=k0 (λg c e=>hx ⟨g,c,e⟩);rw [e1];exact BN (by rw [←e2];exact h)
theorem BP {f:Nat→Nat} {x:V} (h:∀i∈jF x,f i=i):oX f x=x:=by
 by_cases hx:∃c,x=V.ag c
 ·obtain ⟨c,rfl⟩:=hx;simp only [jF,aO] at h;simp only [oX,fE (λx hx=>oh λi hi=>h i ⟨x,hx,hi⟩)]
 ·obtain ⟨e1,e2,_⟩:=k1 (λc e=>hx ⟨c,e⟩);rw [e1];exact oh (by rw [←e2];exact h)
theorem BO {f:Nat→Nat} {x:B} (h:∀i∈e9 x,f i=i):eP f x=x:=by
 cases x with
 |ms z es out it=>
  cases out with
  |none=>rfl
  |some q=>simp only [eP,bK,oh h]
 |cells c=>
  simp only [e9,aO] at h;simp only [eP,fE (λx hx=>oh λi hi=>h i ⟨x,hx,hi⟩)]
 |mp c=>
  simp only [e9,aO,aR] at h;simp only [eP,fE (l:=c) (f:=λp=>(oX f p.1,oX f p.2)) (λx hx=>by
   rw [BP λi hi=>h i ⟨x,hx,.inl hi⟩,BP λi hi=>h i ⟨x,hx,.inr hi⟩])]
 |rx z rs k c=>
  simp only [e9,aO] at h;simp only [eP,fE (λx hx=>oh λi hi=>h i ⟨x,hx,hi⟩)]
 |_=>rfl
theorem Ez {f g:Nat→Nat} {x:V} (h:∀i∈ib x,f i=g i):vd f x=vd g x:=by
 cases x<;>first | rfl | (simp only [vd];rw [h _ (by simp [ib])])
theorem rk {f g:Nat→Nat} {x:V} (h:∀i∈kB x,f i=g i):rm f x=rm g x:=by
 by_cases hx:∃g c,x=V.fc g c
 ·obtain ⟨F,c,rfl⟩:=hx;simp only [kB,aO] at h;simp only [rm,aq (λx hx=>Ez λi hi=>h i ⟨x,hx,hi⟩)]
 ·obtain ⟨e1,e2,_⟩:=k0 (λg c e=>hx ⟨g,c,e⟩);rw [e1,e1];exact Ez (by rw [←e2];exact h)
theorem ve {f g:Nat→Nat} {x:V} (h:∀i∈jF x,f i=g i):oX f x=oX g x:=by
 by_cases hx:∃c,x=V.ag c
 ·obtain ⟨c,rfl⟩:=hx;simp only [jF,aO] at h;simp only [oX,aq (λx hx=>rk λi hi=>h i ⟨x,hx,hi⟩)]
 ·obtain ⟨e1,e2,_⟩:=k1 (λc e=>hx ⟨c,e⟩);rw [e1,e1];exact rk (by rw [←e2];exact h)
theorem Ml {f g:Nat→Nat} {x:V} (h:∀i∈eH x,f i=g i):gN f x=gN g x:=by
 by_cases hx:∃c,x=V.tu c
 ·obtain ⟨c,rfl⟩:=hx;simp only [eH,aO] at h;simp only [gN,aq (λx hx=>ve λi hi=>h i ⟨x,hx,hi⟩)]
 ·obtain ⟨e1,e2,_⟩:=k2 (λc e=>hx ⟨c,e⟩);rw [e1,e1];exact ve (by rw [←e2];exact h)
theorem Mk {f g:Nat→Nat} {x:B} (h:∀i∈e9 x,f i=g i):eP f x=eP g x:=by
 cases x with
 |ms z es out it=>
  cases out with
  |none=>rfl
  |some q=>simp only [eP,bK,rk h]
 |cells c=>
  simp only [e9,aO] at h;simp only [eP,aq (λx hx=>rk λi hi=>h i ⟨x,hx,hi⟩)]
 |mp c=>
  simp only [e9,aO,aR] at h;simp only [eP,aq (l:=c) (f:=λp=>(oX f p.1,oX f p.2)) (g:=λp=>(oX g p.1,oX g p.2)) (λx hx=>by
   rw [ve λi hi=>h i ⟨x,hx,.inl hi⟩,ve λi hi=>h i ⟨x,hx,.inr hi⟩])]
 |rx z rs k c=>
  simp only [e9,aO] at h;simp only [eP,aq (λx hx=>rk λi hi=>h i ⟨x,hx,hi⟩)]
 |_=>rfl
theorem Ey {f g:Nat→Nat} (x:V):vd f (vd g x)=vd (λi=>f (g i)) x:=by cases x<;>rfl
theorem kj {f g:Nat→Nat} (x:V):rm f (rm g x)=rm (λi=>f (g i)) x:=by
 cases x with
 |fc F c=>simp only [rm,ez];congr 1;exact aq λx _=>Ey x
 |_=>rfl
theorem rj {f g:Nat→Nat} (x:V):oX f (oX g x)=oX (λi=>f (g i)) x:=by
 cases x with
 |ag c=>simp only [oX,ez];congr 1;exact aq λx _=>kj x
 |fc F c=>exact kj (.fc F c)
 |_=>rfl
theorem ri {f g:Nat→Nat} (x:V):gN f (gN g x)=gN (λi=>f (g i)) x:=by
 cases x with
 |tu c=>simp only [gN,ez];congr 1;exact aq λx _=>rj x
 |ag c=>exact rj (.ag c)
 |fc F c=>exact kj (.fc F c)
 |_=>rfl
theorem rh {f g:Nat→Nat} (x:B):eP f (eP g x)=eP (λi=>f (g i)) x:=by
 cases x with
 |ms z es out it=>
  cases out with
  |none=>rfl
  |some q=>simp only [eP,bK,kj]
 |cells c=>simp only [eP,ez];congr 1;exact aq λx _=>kj x
 |mp c=>simp only [eP,ez];congr 1;exact aq λx _=>by simp only [Function.comp,rj]
 |rx z rs k c=>simp only [eP,ez];congr 1;exact aq λx _=>kj x
 |_=>rfl
theorem xw {i:Nat} {x:V} (h:i∉ib x):uC i x=x:=by
 cases x<;>first | rfl | (simp only [ib,aP] at h;simp only [uC,fm (jx h),cond_false])
theorem mY {i:Nat} {x:V} (h:i∉kB x):qh i x=x:=by
 by_cases hx:∃g c,x=V.fc g c
 ·obtain ⟨g,c,rfl⟩:=hx;simp only [kB,aO,not_exists,not_and] at h;simp only [qh,fE (λx hx=>xw (h x hx))]
 ·obtain ⟨_,e2,e3⟩:=k0 (λg c e=>hx ⟨g,c,e⟩);rw [e3];exact xw (by rw [←e2];exact h)
theorem pL {i:Nat} {x:V} (h:i∉jF x):py i x=x:=by
 by_cases hx:∃c,x=V.ag c
 ·obtain ⟨c,rfl⟩:=hx;simp only [jF,aO,not_exists,not_and] at h;simp only [py,fE (λx hx=>mY (h x hx))]
 ·obtain ⟨_,e2,e3⟩:=k1 (λc e=>hx ⟨c,e⟩);rw [e3];exact mY (by rw [←e2];exact h)
theorem GG {i:Nat} {x:V} (h:i∉eH x):AM i x=x:=by
 by_cases hx:∃c,x=V.tu c
 ·obtain ⟨c,rfl⟩:=hx;simp only [eH,aO,not_exists,not_and] at h;simp only [AM,fE (λx hx=>pL (h x hx))]
 ·obtain ⟨_,e2,e3⟩:=k2 (λc e=>hx ⟨c,e⟩);rw [e3];exact pL (by rw [←e2];exact h)
theorem GD {i:Nat} {x:B} (h:i∉e9 x):gO i x=x:=by
 cases x with
 |ms z es out it=>
  cases out with
  |none=>rfl
  |some q=>simp only [gO,bK,mY h]
 |cells c=>
  simp only [e9,aO,not_exists,not_and] at h;simp only [gO,fE (λx hx=>mY (h x hx))]
 |mp c=>
  simp only [e9,aO,not_exists,not_and,aR,not_or] at h;simp only [gO,fE (l:=c) (f:=λp=>(py i p.1,py i p.2)) (λx hx=>by rw [pL (h x hx).1,pL (h x hx).2])]
 |rx z rs k c=>
  simp only [e9,aO,not_exists,not_and] at h;simp only [gO,fE (λx hx=>mY (h x hx))]
 |_=>rfl
theorem AK:∀(os:List Nat) (t:T),(∀i∈os,∀s,i∉eH (gs t s))→∀s,gs (os.foldl (λt i=>jm i t) t) s=gs t s:=by
 intro os
 induction os with
 |nil=>intro t _ s;rfl
 |cons i os ih=>
  intro t h s;have e:∀s,gs (jm i t) s=gs t s:=λs=>by rw [jm,p_ _ rfl,GG (h i (by simp) s)]
  rw [cI,ih (jm i t) (λj hj s=>by rw [e s];exact h j (by simp [hj]) s) s,e s]
theorem AL:∀(os:List Nat) (h:H) (i:Nat),(∀j∈os,∀b,h[i]? = some b→j∉e9 b)→(l_ os h)[i]? = h[i]?:=by
 intro os
 induction os with
 |nil=>intro h i _;rfl
 |cons j os ih=>
  intro h i hc;have e:(h.map (gO j))[i]? = h[i]?:=by
   rw [aC];cases hb:h[i]? with
   |none=>rfl
   |some b=>rw [bK,GD (hc j (by simp) b hb)]
  rw [l_,ih (h.map (gO j)) i (λk hk b hb=>hc k (by simp [hk]) b (by rw [←e];exact hb)),e]
theorem DB (h:H):∀(n:Nat) (l acc:List Nat),∀i∈acc,i∈reach h n l acc:=by
 intro n
 induction n with
 |zero=>intro l acc i hi;exact hi
 |succ n ih=>
  intro l acc i hi;cases l with
  |nil=>exact hi
  |cons j r=>
   simp only [reach];cases has acc j
   ·exact ih _ _ i (by simp [hi])
   ·exact ih _ _ i hi
theorem xW {h h':H}:∀(n:Nat) (l acc:List Nat),(∀i∈reach h n l acc,get? h' i=get? h i)→reach h' n l acc=reach h n l acc:=by
 intro n
 induction n with
 |zero=>intro l acc _;rfl
 |succ n ih=>
  intro l acc hh;cases l with
  |nil=>rfl
  |cons j r=>
   simp only [reach] at hh ⊢;cases hj:has acc j
   ·rw [hj] at hh;simp only [cond_false] at hh ⊢;have e:=hh j (DB h n _ _ j (by simp));rw [e];exact ih _ _ hh
   ·rw [hj] at hh;simp only [cond_true] at hh ⊢;exact ih _ _ hh
theorem Pu {α:Type}:∀(l:List (Nat×α)) (a:List α),(l.map (·.1)).Nodup→(∀p∈l,p.1<a.length)→(l.foldl (λa p=>a.set p.1 p.2) a).length=a.length∧(∀p∈l,(l.foldl (λa p=>a.set p.1 p.2) a)[p.1]? = some p.2) ∧
  ∀i,(∀p∈l,p.1≠i)→(l.foldl (λa p=>a.set p.1 p.2) a)[i]? = a[i]?:=by
 intro l
 induction l with
 |nil=>intro a _ _;exact ⟨rfl,by simp,λ_ _=>rfl⟩
 |cons p l ih=>
  intro a hn hl;simp only [cN,cw] at hn;obtain ⟨g1,g2,g3⟩:=ih (a.set p.1 p.2) hn.2 (λq hq=>by simpa using hl q (by simp [hq]));refine ⟨by simpa using g1,λq hq=>?_,λi hi=>?_⟩
  ·rcases ae.1 hq with rfl | hq
   ·rw [cI,g3 q.1 (λp hp e=>hn.1 (bL.2 ⟨p,hp,e⟩)),bH,if_pos rfl,if_pos (hl q (by simp))]
   ·exact g2 q hq
  ·rw [cI,g3 i (λq hq=>hi q (by simp [hq])),bH,if_neg (hi p (by simp))]
theorem ER {α:Type} {nf:List Nat} {vs a:List α} (hl:nf.length=vs.length) (hn:nf.Nodup) (hlt:∀i∈nf,i<a.length) :
  ((nf.zip vs).foldl (λa p=>a.set p.1 p.2) a).length=a.length∧(∀(k i:Nat),nf[k]? = some i→((nf.zip vs).foldl (λa p=>a.set p.1 p.2) a)[i]? = vs[k]?)∧∀i,i∉nf→((nf.zip vs).foldl (λa p=>a.set p.1 p.2) a)[i]? = a[i]?:=by
 have e:(nf.zip vs).map (·.1)=nf:=dt (by omega);have hm:∀p∈nf.zip vs,p.1∈nf:=λp hp=>by rw [←e];exact bL.2 ⟨p,hp,rfl⟩
 obtain ⟨g1,g2,g3⟩:=Pu (nf.zip vs) a (by rw [e];exact hn) (λp hp=>hlt _ (hm p hp));refine ⟨g1,λk i hk=>?_,λi hi=>g3 i λp hp he=>hi (he ▸ hm p hp)⟩;have hkl:k<vs.length:=by rw [←hl];exact (aA.1 hk).1
 rw [aB hkl];have hp:(i,vs[k])∈nf.zip vs:=au.2 ⟨k,by rw [iU];exact ⟨hk,aB hkl⟩⟩;exact g2 _ hp
section
variable {P:Program} {E:gI} {n:Nat} {G:Nat→Prop} {ρ:List Value} {t:T} {h:H} {a:Act} {w:World}
theorem an.move {ns:List B} (hC:an E n G ρ t (h++ns) a w) {nf:List Nat} (hl:nf.length=ns.length) (hnd:nf.Nodup) (hnw:∀i∈nf,h[i]? = some .nw) (hlo:∀i∈nf,E.ρ.length≤i) (hE:E.ρ.length≤h.length) (hEh:E.h.length≤h.length) {f:Nat→Nat}
  (hf1:∀k,k<h.length→f k=k) (hf2:∀(k i:Nat),nf[k]? = some i→f (h.length+k)=i) (hht:∀s,∀i∈eH (gs t s),i<h.length) (hhh:∀(i:Nat) (b:B),h[i]? = some b→∀j∈e9 b,j<h.length) :
  ∃ρ',an E n G ρ' t ((nf.zip (ns.map (eP f))).foldl (λa w=>a.set w.1 w.2) h) a w∧∀(v:Value) (x:V),a_ G w ρ v x→a_ G w ρ' v (gN f x):=by
 have hO:=hC.ok;have hlen:ρ.length=h.length+ns.length:=by rw [hO.hr.len,aL]
 have hnlt:∀i∈nf,i<h.length:=λi hi=>(aA.1 (hnw i hi)).1;obtain ⟨a1,a2,a3⟩:=ER (vs:=ns.map (eP f)) (a:=h) (by simpa using hl) hnd hnlt;obtain ⟨b1,b2,b3⟩:=ER (vs:= ρ.drop h.length) (a:= ρ.take h.length) (by simp;omega) hnd (λi hi=>by have:=hnlt i hi;simp;omega);generalize hh':(nf.zip (ns.map (eP f))).foldl (λa w=>a.set w.1 w.2) h=h' at *;generalize hρ':(nf.zip (ρ.drop h.length)).foldl (λa w=>a.set w.1 w.2) (ρ.take h.length)=ρ' at *;have bl:ρ'.length=h.length:=by rw [b1];simp;omega
 have b2':∀(k i:Nat),nf[k]? = some i→ρ'[i]? = ρ[h.length+k]?:=λk i hk=>by rw [b2 k i hk,ao]
 have b3':∀i,i∉nf→i<h.length→ρ'[i]? = ρ[i]?:=λi hi hlt=>by rw [b3 i hi,aZ,if_pos hlt]
 have hun:∀i,we ρ i→i∉nf:=by
  rintro i ⟨v,h1,h2⟩ hi
  have hx:=hnw i hi;have hlt:=hnlt i hi;have:=hO.hr.rep i v .nw h1 (by rw [aN hlt];exact hx);exact h2 this
 have hg:∀i,we ρ i→ρ'[f i]? = ρ[i]?:=by
  intro i hi;have hni:=hun i hi;obtain ⟨v,h1,_⟩:=hi;have hil:=(aA.1 h1).1
  by_cases hlt:i<h.length
  ·rw [hf1 i hlt,b3' i hni hlt]
  ·obtain ⟨j,hj⟩:∃j,nf[i - h.length]? = some j:=⟨_,aB (by omega)⟩
   have:=hf2 _ _ hj;have e:h.length+(i - h.length)=i:=by omega
   rw [e] at this;rw [this,b2' _ _ hj,e]
 have src:∀(i:Nat) (v:Value) (y:B),ρ'[i]? = some v→h'[i]? = some y→∃(o:Nat) (y0:B),ρ[o]? = some v∧(h++ns)[o]? = some y0∧(y0 = .no↔y = .no)∧gh y=gh y0∧((∃k,nf[k]? = some i∧o=h.length+k)∨(i∉nf∧o=i∧i<h.length))∧(cY G w ρ v y0→cY G w ρ' v y):=by
  intro i v y h1 h2;have hil:i<h.length:=by rw [←bl];exact (aA.1 h1).1
  by_cases hi:i∈nf
  ·obtain ⟨k,hk⟩:=au.1 hi;rw [b2' k i hk] at h1;rw [a2 k i hk,aC,aG] at h2;obtain ⟨y0,hy,rfl⟩:=h2;refine ⟨h.length+k,y0,h1,by rw [aW (by omega)];simpa using hy,(kU f y0).symm,mc f y0,.inl ⟨k,hk,rfl⟩,λhr=>?_⟩;exact hr.oY λj hj=>hg j (hr.ref j hj)
  ·rw [b3' i hi hil] at h1;rw [a3 i hi] at h2;refine ⟨i,y,h1,by rw [aN hil];exact h2,Iff.rfl,rfl,.inr ⟨hi,rfl,hil⟩,λhr=>?_⟩;exact hr.mono (λ_ h=>h) (λ_ _=>rfl) (λ_ _=>rfl) (λj hj=>by
    have:=hg j (hr.ref j hj);rwa [hf1 j (hhh i y h2 j hj)] at this)
 have back:∀b,own ρ' h' b→own ρ (h++ns) b:=by
  rintro b ⟨i,v,y,h1,h2,h3,h4⟩
  obtain ⟨o,y0,g1,g2,g3,g6,_⟩:=src i v y h1 h2;rw [eO,g6] at h4;exact ⟨o,v,y0,g1,g2,λe=>h3 (g3.1 e),h4⟩
 refine ⟨ρ',⟨⟨⟨by rw [bl,a1],λi v y h1 h2=>?_,λi i' v v' y y' b h1 h2 h3 h4 h5 h6 h7 h8=>?_,hO.hr.gl,λb hb ho=>hO.hr.gd b hb (back b ho),hO.hr.sZ⟩,hO.gm,hO.go,λb hb=>hO.oo b (back b hb),hO.frame,hO.size,hO.os,hO.tape,hO.out,λi v hv hs=>?_,by rw [a1];exact hEh,λr hr=>let ⟨g1,g2,g3⟩:=hO.rG r hr;⟨g1,g2,λg4=>g3 (back r g4)⟩⟩,
  hC.df,hC.sz,λs=>(hC.tm s).mono (λ_ h=>h) (λ_ _=>rfl) (λj hj=>?_)⟩,λv x hx=>hx.oY λj hj=>hg j (hx.ref j hj)⟩
 ·obtain ⟨o,y0,g1,g2,_,_,_,g5⟩:=src i v y h1 h2;exact g5 (hO.hr.rep o v y0 g1 g2)
 ·obtain ⟨o,y0,g1,g2,g3,g6,g4,_⟩:=src i v y h1 h2;obtain ⟨o',y0',k1,k2,k3,k6,k4,_⟩:=src i' v' y' h4 h5;rw [eO,g6] at h7;rw [eO,k6] at h8;have hoo:=hO.hr.mq o o' v v' y0 y0' b g1 g2 (λe=>h3 (g3.1 e)) k1 k2 (λe=>h6 (k3.1 e)) h7 h8;rcases g4 with ⟨k,hk,rfl⟩ | ⟨_,rfl,hlt⟩<;>rcases k4 with ⟨k',hk',rfl⟩ | ⟨_,rfl,hlt'⟩
  ·have:k=k':=by omega
   subst this;rw [hk] at hk';exact ak hk'
  ·omega
  ·omega
  ·exact hoo
 ·have h0:=hO.hand i v hv hs;have hiE:=(aA.1 hv).1;have hi:i∉nf:=λhi=>by have:=hlo i hi;omega
  rw [b3' i hi (by omega)];exact h0
 ·have:=hg j ((hC.tm s).ref j hj);rwa [hf1 j (hht s j hj)] at this
end
end Go.Vx
