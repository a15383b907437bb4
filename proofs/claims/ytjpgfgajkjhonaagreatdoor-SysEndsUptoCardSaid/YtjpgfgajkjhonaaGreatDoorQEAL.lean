/- A row of operations in its order; operations that only look. Conditions: none; lemmas on the definitions before. -/
import Derived.Test.YtjpgfgajkjhonaaGreatDoorQEAK
import Derived.Orders
import Derived.Tactics
namespace Go.Vx
section
variable {P:Program} {E:gC} {n:Nat} {G:Nat→Prop} {ρ:List Value} {t t':T} {h:H} {a:Act} {w:World} {o:Oper} {bU:Act→World→Prop} {Q:Exit→Act→World→Prop} {K:Ex→T→H→Prop}
variable (ow:Nat→Bool)
theorem an.congr (hC:an E n G ρ t h a w) (ht:∀i,gs t' i=gs t i):an E n G ρ t' h a w:=
 ⟨hC.ok,hC.df,hC.sz,λi=>by rw [ht i];exact hC.tm i⟩
def ff (d:Option Nat) (v:V) (t:T):T:=
 match d with
 |some i=>(i,v) :: t
 |none=>t
theorem fO (d:Option Nat) (v:V) (t:T) (K:T→Prop):tG d v t K=K (ff d v t):=by
 rw [Nf];cases d<;>rfl
theorem an.ff (hC:an E n G ρ t h a w) (d:Option Nat) {v:Value} {x:V} (hd:∀i,d=some i→i<n) (hr:a_ G w ρ v x):an E n G ρ (Vx.ff d x t) h (a.put d v) w:=by
 have:=hC.put d hd hr;cases d<;>exact this
theorem ve {j:Nat} {v:V} (hj:gs t j=v) (i:Nat):gs ((j,v) :: t) i=gs t i:=by
 simp only [gB]
 by_cases e:j=i
 ·subst e;simp [hj]
 ·rw [fg e];rfl
theorem mT {ops:Array Oper} {i:I} (hi:nS P n ops o=some i):(fe P o.type o.op=some i.o∨i.o = .bad)∧i.d=o.dst∧(∀k,o.dst=some k→k<n) ∧
  (match o.guard with | none=>i.g=none | some (j,x)=>∃d,(ops[j]?).bind (·.dst)=some d∧i.g=some (d,x)):=by
 simp only [nS,aJ] at hi;have hx:∀y,(fe P o.type o.op).getD .bad=y→fe P o.type o.op=some y∨y = .bad:=λy hy=>by
  cases hc:fe P o.type o.op with
  |none=>rw [hc] at hy;exact .inr hy.symm
  |some z=>rw [hc] at hy;exact .inl (congrArg some hy)
 split at hi
 ·cases hi
 ·rename_i hd;have hd':∀k,o.dst=some k→k<n:=λk hk=>by
   simp only [hk,bZ,dD,Bool.not_eq_false] at hd;exact (dH ..).mp hd
  split at hi
  ·cases hi;rename_i hg;exact ⟨hx _ rfl,rfl,hd',by rw [hg]⟩
  ·rename_i hg;simp only [aD] at hi;obtain ⟨d,hd2,hi⟩:=hi;cases hi;refine ⟨hx _ rfl,rfl,hd',?_⟩;rw [hg];exact ⟨d,aD.2 hd2,rfl⟩
theorem l8 (hC:an E n G ρ t h a w) {ops:Array Oper} {j d:Nat} {x b:Bool} (hg:o.guard=some (j,x)) (hd:(ops[j]?).bind (·.dst)=some d) (ht:gs t d = .d (.bool b)) :
  Region.wanted o (yielded ops a.tmps)=(b==x):=by
 have h1:=(ht ▸ hC.tm d).bool;have h2:a.tmps[d]? = some (.bool b):=by
  rw [aE] at h1;cases hx:a.tmps[d]? with
  |none=>rw [hx] at h1;cases h1
  |some v=>rw [hx] at h1;exact congrArg some h1
 simp only [Region.wanted,hg,yielded,hd,Option.bind_some,h2];cases b<;>cases x<;>rfl
theorem pK (hC:an E n G ρ t h a w) {ops:Array Oper} {j d:Nat} {x:Bool} (hg:o.guard=some (j,x)) (hd:(ops[j]?).bind (·.dst)=some d) (ht:gs t d = .ud) :
  Region.wanted o (yielded ops a.tmps)=false:=by
 have h1:a.tmps.getD d undef=undef:=by
  have:=ht ▸ hC.tm d;generalize a.tmps.getD d undef=u at this;cases this with | o k=>cases k with | c k=>cases k with | k k=>cases k with
   |ud=>rfl
 simp only [Region.wanted,hg,yielded,hd,Option.bind_some];rw [aE] at h1;cases hx:a.tmps[d]? with
 |none=>rfl
 |some v=>rw [hx] at h1;simp only [bZ] at h1;subst h1;rfl
def PQ (E:gC) (n:Nat) (K:Ex→T→H→Prop) (Q:Exit→Act→World→Prop):Prop:=
 ∀(a:Act) (w:World) (G:Nat→Prop) (ρ:List Value) (t:T) (h:H) (v:V) (v':Value),an E n G ρ t h a w→a_ G w ρ v' v→K (.fW v) t h→Q (.panic [{ v:=v',recovered:=false }]) a w
theorem yr:a_ G w ρ undef .ud:=.k .ud
theorem q9 (hC:an E n G ρ t h a w) {ops:Array Oper} {i:I} (hi:nS P n ops o=some i) {r:List I} (hk:rx (Sat P) ow (i :: r) t h K)
  (hnx:∀(a':Act) (w':World) (G':Nat→Prop) (ρ':List Value) (t':T) (h':H),an E n G' ρ' t' h' a' w'→rx (Sat P) ow r t' h' K→bU a' w') (hp:PQ E n K Q) :
  if Region.wanted o (yielded ops a.tmps) then o.wp P a w bU Q else bU (a.put o.dst undef) w:=by
 obtain ⟨hx,hd,hlt,hg⟩:=mT hi;have run:∀{t:T},an E n G ρ t h a w→bu (Sat P) ow i.o t h (λv t h=>tG i.d v t λt=>rx (Sat P) ow r t h K) (λv t h=>K (.fW v) t h)→o.wp P a w bU Q:=by
  intro t hC hk;refine n8 ow hC (λv' w' G' ρ' t' h' v hC' hv hk'=>?_) (λv' w' G' ρ' t' h' v hC' hv hk'=>hp a w' G' ρ' t' h' v v' hC' hv hk') hx hk;rw [fO,hd] at hk';exact hnx _ _ _ _ _ _ (hC'.ff o.dst hlt hv) hk'
 have pass:∀{t:T},an E n G ρ t h a w→(tG i.d .ud t λt=>rx (Sat P) ow r t h K)→bU (a.put o.dst undef) w:=by
  intro t hC hk;rw [fO,hd] at hk;exact hnx _ _ _ _ _ _ (hC.ff o.dst hlt yr) hk
 cases hgo:o.guard with
 |none=>
  rw [hgo] at hg;simp only at hg;simp only [Ab,Ac,hg] at hk;rw [if_pos (by simp [Region.wanted,hgo])];exact run hC hk
 |some p=>
  obtain ⟨j,x⟩:=p;rw [hgo] at hg;obtain ⟨d,hd1,hg⟩:=hg;simp only [Ab,Ac,hg] at hk;split at hk
  ·rename_i b hb;rw [l8 hC hgo hd1 hb];have hC1:=hC.congr (ve hb);cases b<;>cases x<;>simp only [sp,cond_true,cond_false] at hk<;>simp only [BEq.rfl,if_true,cY,if_false,beq_iff_eq,reduceCtorEq]
   ·exact run hC1 hk
   ·exact pass hC1 hk
   ·exact pass hC1 hk
   ·exact run hC1 hk
  ·rename_i hb;rw [pK hC hgo hd1 hb];exact pass hC hk
  ·exact hk.elim
def QK (E:gC) (n:Nat) (K:Ex→T→H→Prop) (e:Exit) (a:Act) (w:World):Prop:=
  ∃(G:Nat→Prop) (ρ:List Value) (t:T) (h:H),an E n G ρ t h a w∧match e with
    |.normal=>K .oX t h
    |.exit id=>K (.ext id) t h
    |.ret=>K .ret t h
    |.panic ch=>∃v v',ch = [{ v:=v',recovered:=false }]∧a_ G w ρ v' v∧K (.fW v) t h
    |_=>False
theorem PQ.qk:PQ E n K (QK E n K):=λ_ _ G ρ t h v v' hC hv hk=>⟨G,ρ,t,h,hC,v,v',rfl,hv,hk⟩
theorem MI {ops:Array Oper}:∀(os:List Oper) (is:List I),os.mapM (nS P n ops)=some is→∀(G:Nat→Prop) (ρ:List Value) (t:T) (h:H) (a:Act) (w:World),an E n G ρ t h a w →
  rx (Sat P) ow is t h K→wpList P ops (QK E n K) os a w:=by
 intro os
 induction os with
 |nil=>
  intro is hm G ρ t h a w hC hk;simp at hm;subst hm;exact wpList_nil ⟨G,ρ,t,h,hC,hk⟩
 |cons o os ih=>
  intro is hm G ρ t h a w hC hk;simp only [f_,aJ,aD,iu,aF] at hm;obtain ⟨i,hi,r,hr,rfl⟩:=hm;exact wpList_step λK' hK'=>q9 ow hC hi hk (λa' w' G' ρ' t' h' hC' hk'=>hK' _ _ (ih r hr G' ρ' t' h' a' w' hC' hk')) PQ.qk
end
section
variable {P:Program} {t t':T} {h:H} {K:V→Prop} (ow:Nat→Bool)
theorem eB {x:O} (ht:∀s∈py x,gs t' s=gs t s):gv t' x=gv t x:=by
 cases x with
 |s i=>exact ht i (by simp [py])
 |g i=>rfl
 |k v=>cases v<;>rfl
theorem LJ:∀(cs:List V) (K:List D→T→H→Prop),zq cs [] [] K→∃ds,K ds [] []∧∀(t:T) (h:H) (K':List D→T→H→Prop),K' ds t h→zq cs t h K':=by
 intro cs
 induction cs with
 |nil=>intro K hk;exact ⟨[],hk,λt h K' hk=>hk⟩
 |cons x r ih=>
  intro K hk;cases x<;>(try simp only [hZ,sH] at hk)<;>try (exact hk.elim)
  case d x=>
   obtain ⟨ds,h1,h2⟩:=ih _ hk;exact ⟨x :: ds,h1,λt h K' hk'=>by simp only [hZ,sH];exact h2 t h _ hk'⟩
  case cl z rs=>
   obtain ⟨ds,h1,h2⟩:=ih _ hk;exact ⟨.sl z rs :: ds,h1,λt h K' hk'=>by simp only [hZ,sH];exact h2 t h _ hk'⟩
  case fc f c=>
   cases c with
   |cons c0 c=>
    replace hk:(match u4 (c0 :: c) with
     |some ds=>zq r [] [] λxs t h=>K (.fc f ds :: xs) t h
     |none=>False):=hk
    cases hD:u4 (c0 :: c) with
    |none=>rw [hD] at hk;exact hk.elim
    |some cd=>
     rw [hD] at hk;obtain ⟨ds,h1,h2⟩:=ih _ hk;exact ⟨.fc f cd :: ds,h1,λt h K' hk'=>by simp only [hZ,sH,hD];exact h2 t h _ hk'⟩
   |nil=>
   replace hk:zq r [] [] (λxs t h=>K (.fn f :: xs) t h):=hk
   obtain ⟨ds,h1,h2⟩:=ih _ hk;exact ⟨.fn f :: ds,h1,λt h K' hk'=>by simp only [hZ,sH];exact h2 t h _ hk'⟩
theorem vg {α β:Type} {f g:β→α→β}:∀(l:List α) (b:β),(∀x∈l,∀b,f b x=g b x)→l.foldl f b=l.foldl g b:=by
 intro l
 induction l with
 |nil=>intro b _;rfl
 |cons x l ih=>intro b hx;simp only [cI];rw [hx x (by simp),ih _ (λy hy=>hx y (by simp [hy]))]
theorem Bl {α:Type} {f g:α→Bool}:∀(l:List α),(∀x∈l,f x=g x)→l.all f=l.all g:=by
 intro l
 induction l with
 |nil=>intro _;rfl
 |cons x l ih=>intro hx;simp only [kO];rw [hx x (by simp),ih (λy hy=>hx y (by simp [hy]))]
def K1 (h1 h:H):Prop:=∀(i:Nat) (b:B),get? h i=some b→b≠.no→get? h1 i=some b
def Qt (P:Program) (x:X) (t:T) (h:H) (v:V):Prop:=
 ∀(t':T) (h1:H),(∀s∈bT x,gs t' s=gs t s)→K1 h1 h→bu (Sat P) ow x t' h1 (λv' t'' h'=>v'=v∧t''=t'∧h'=h1) (λ_ _ _=>False)
theorem E6 {x:X} (hq:qx (Sat P) ow x t h K):∃v,K v∧Qt ow P x t h v:=by
  cases x<;>simp only [qx] at hq<;>try (exact hq.elim)
  case mv x=>
    refine ⟨_,hq,λt' _ ht _=>?_⟩
    simp only [bu,eB (x:=x) ht,true_and]
  case pk c x y=>
    simp only [bu] at hq
    split at hq
    · rename_i b hb
      cases b
      · refine ⟨_,hq,λt' _ ht _=>?_⟩
        simp only [bT,aT] at ht
        simp only [bu,eB (x:=c) (λs hs=>ht s (.inl (.inl hs))),eB (x:=y) (λs hs=>ht s (.inr hs)),hb,sp,true_and]
      · refine ⟨_,hq,λt' _ ht _=>?_⟩
        simp only [bT,aT] at ht
        simp only [bu,eB (x:=c) (λs hs=>ht s (.inl (.inl hs))),eB (x:=x) (λs hs=>ht s (.inl (.inr hs))),hb,sp,true_and]
    · exact hq.elim
  case bd zero ps=>
    simp only [bu,bh] at hq
    refine ⟨_,hq.2,λt' _ ht _=>?_⟩
    have hg:∀p∈ps,gv t' p.2.2=gv t p.2.2:=λp hp=>eB λs hs=>ht s (by simp only [bT,aP];exact ⟨p,hp,hs⟩)
    simp only [bu,bh]
    rw [vg (f:=λcs (p:Nat×Nat×O)=>lay cs p.1 (gv t' p.2.2).cs) (g:=λcs p=>lay cs p.1 (gv t p.2.2).cs) ps zero (λp hp b=>by rw [hg p hp]),
      Bl (g:=λp=>Nat.beq (gv t p.2.2).cs.length p.2.1&&Nat.ble (p.1+p.2.1) zero.length&&(gv t p.2.2).cs.all e7) ps (λp hp=>by rw [hg p hp])]
    exact ⟨hq.1,by simp only [and_self]⟩
  case bs z zero n ps=>
    simp only [bh] at hq
    obtain ⟨h1,h2⟩:=hq
    obtain ⟨ds,h3,h4⟩:=LJ _ _ h2
    refine ⟨_,h3,λt' _ ht _=>?_⟩
    have hg:∀p∈ps,gv t' p.2=gv t p.2:=λp hp=>eB λs hs=>ht s (by simp only [bT,aP];exact ⟨p,hp,hs⟩)
    simp only [bu,bh]
    rw [vg (f:=λcs (p:Nat×O)=>lay cs (p.1*z) (gv t' p.2).cs) (g:=λcs p=>lay cs (p.1*z) (gv t p.2).cs) ps _ (λp hp b=>by rw [hg p hp]),
      Bl (g:=λp=>Nat.beq (gv t p.2).cs.length z&&Nat.ble (p.1*z+z) (n*z)&&(gv t p.2).cs.all e7) ps (λp hp=>by rw [hg p hp])]
    exact ⟨h1,h4 _ _ _ (xr (by simp only [and_self]))⟩
  case ld x nn=>
    have e1:∀t':T,(∀s∈bT (.ld x nn),gs t' s=gs t s)→gv t' x=gv t x:=λt' ht=>eB λs hs=>ht s (by simp [bT,hs])
    simp only [bu,bh] at hq
    split at hq
    · rename_i id off hx
      split at hq
      · rename_i cs hg
        split at hq
        · split at hq
          · rename_i v hv
            exact ⟨_,hq,λt' _ ht hM=>by simp only [bu,e1 t' ht,hx,hM _ _ hg (by simp),hv,and_self]⟩
          · exact hq.elim
        · exact ⟨_,hq.2,λt' _ ht hM=>by simp only [bu,bh,e1 t' ht,hx,hM _ _ hg (by simp),and_self];exact ⟨hq.1,trivial⟩⟩
      · exact hq.elim
    · rename_i row off hx
      split at hq
      · split at hq
        · rename_i v hv
          exact ⟨_,hq,λt' _ ht _=>by simp only [bu,e1 t' ht,hx,hv,and_self]⟩
        · exact hq.elim
      · exact ⟨_,hq.2,λt' _ ht _=>by simp only [bu,bh,e1 t' ht,hx,and_self];exact ⟨hq.1,trivial⟩⟩
    · rename_i id z i off hx
      split at hq
      · rename_i z' rs hg
        obtain ⟨hz,row,hr,hq⟩:=hq
        split at hq
        · split at hq
          · rename_i v hv
            exact ⟨_,hq,λt' _ ht hM=>by simp only [bu,e1 t' ht,hx,hM _ _ hg (by simp)];exact ⟨hz,row,hr,by simp only [hv,and_self]⟩⟩
          · exact hq.elim
        · exact ⟨_,hq.2,λt' _ ht hM=>by simp only [bu,bh,e1 t' ht,hx,hM _ _ hg (by simp)];exact ⟨hz,row,hr,hq.1,by simp only [and_self]⟩⟩
      · rename_i z' rs i' row hg
        obtain ⟨hz,hq⟩:=hq
        split at hq
        · split at hq
          · rename_i v hv
            exact ⟨_,hq,λt' _ ht hM=>by simp only [bu,e1 t' ht,hx,hM _ _ hg (by simp)];exact ⟨hz,by simp only [hv,and_self]⟩⟩
          · exact hq.elim
        · exact hq.elim
      · exact hq.elim
    · exact hq.elim
  case fa x off=>
    have e1:∀t':T,(∀s∈bT (.fa x off),gs t' s=gs t s)→gv t' x=gv t x:=λt' ht=>eB λs hs=>ht s (by simp [bT,hs])
    simp only [bu,cX] at hq
    revert hq
    (repeat' split)<;>intro hq<;>(try (exact hq.elim))
    all_goals exact ⟨_,hq,λt' _ ht _=>by simp only [bu,cX,e1 t' ht, *,and_self]⟩
  case ia x i z=>
    have e1:∀t':T,(∀s∈bT (.ia x i z),gs t' s=gs t s)→gv t' x=gv t x:=λt' ht=>eB λs hs=>ht s (by simp [bT,hs])
    have e2:∀t':T,(∀s∈bT (.ia x i z),gs t' s=gs t s)→gv t' i=gv t i:=λt' ht=>eB λs hs=>ht s (by simp [bT,hs])
    simp only [bu] at hq
    split at hq
    · rename_i k nn hi
      split at hq
      · rename_i z' rows hx
        obtain ⟨row,h1,h2⟩:=hq
        exact ⟨_,h2,λt' _ ht _=>by simp only [bu,e1 t' ht,e2 t' ht,hx,hi];exact ⟨row,h1,by simp only [and_self]⟩⟩
      · rename_i z' rows hx
        obtain ⟨row,h1,h2⟩:=hq
        exact ⟨_,h2,λt' _ ht _=>by simp only [bu,e1 t' ht,e2 t' ht,hx,hi];exact ⟨row,h1,by simp only [and_self]⟩⟩
      · rename_i id hx
        split at hq
        · rename_i z' rs hg
          exact ⟨_,hq.2,λt' _ ht hM=>by simp only [bu,e1 t' ht,e2 t' ht,hx,hi,hM _ _ hg (by simp)];exact ⟨hq.1,by simp only [and_self]⟩⟩
        · exact hq.elim
      · exact hq.elim
    · exact hq.elim
  case ja x i z m=>
    have e1:∀t':T,(∀s∈bT (.ja x i z m),gs t' s=gs t s)→gv t' x=gv t x:=λt' ht=>eB λs hs=>ht s (by simp [bT,hs])
    have e2:∀t':T,(∀s∈bT (.ja x i z m),gs t' s=gs t s)→gv t' i=gv t i:=λt' ht=>eB λs hs=>ht s (by simp [bT,hs])
    simp only [bu,cX] at hq
    split at hq
    · rename_i k nn hi
      split at hq
      · rename_i row off hx
        obtain ⟨sub,h1,h2⟩:=hq
        exact ⟨_,h2,λt' _ ht _=>by simp only [bu,e1 t' ht,e2 t' ht,hx,hi];exact ⟨sub,h1,by simp only [and_self]⟩⟩
      · rename_i id off hx
        exact ⟨_,hq.2,λt' _ ht _=>by simp only [bu,cX,e1 t' ht,e2 t' ht,hx,hi];exact ⟨hq.1,by simp only [and_self]⟩⟩
      · exact hq.elim
    · exact hq.elim
  case ml x k ks zv ok=>
    have e1:∀t':T,(∀s∈bT (.ml x k ks zv ok),gs t' s=gs t s)→gv t' x=gv t x:=λt' ht=>eB λs hs=>ht s (by simp [bT,hs])
    have e2:∀t':T,(∀s∈bT (.ml x k ks zv ok),gs t' s=gs t s)→gv t' k=gv t k:=λt' ht=>eB λs hs=>ht s (by simp [bT,hs])
    cases hms:Mx h (gv t x)
    case true=>rw [hms] at hq;exact hq.elim
    rw [hms] at hq
    simp only [cond_false,bu] at hq
    split at hq
    · rename_i id hx
      split at hq
      · rename_i es hg
        obtain ⟨h1,r,h2,h3⟩:=hq
        cases r with
        |none=>exact ⟨_,h3,λt' _ ht hM=>by simp only [bu,e1 t' ht,e2 t' ht,hx,hM _ _ hg (by simp)];exact ⟨h1,none,h2,by simp only [and_self]⟩⟩
        |some p=>exact ⟨_,h3.2,λt' _ ht hM=>by simp only [bu,e1 t' ht,e2 t' ht,hx,hM _ _ hg (by simp)];exact ⟨h1,some p,h2,h3.1,by simp only [and_self]⟩⟩
      · rename_i es hg
        obtain ⟨h1,r,h2,h3⟩:=hq
        cases r with
        |none=>exact ⟨_,h3,λt' _ ht hM=>by simp only [bu,e1 t' ht,e2 t' ht,hx,hM _ _ hg (by simp)];exact ⟨h1,none,h2,by simp only [and_self]⟩⟩
        |some p=>exact ⟨_,h3.2,λt' _ ht hM=>by simp only [bu,e1 t' ht,e2 t' ht,hx,hM _ _ hg (by simp)];exact ⟨h1,some p,h2,h3.1,by simp only [and_self]⟩⟩
      · rename_i es r l hg
        obtain ⟨h1,r,h2,h3⟩:=hq
        cases r with
        |none=>exact ⟨_,h3,λt' _ ht hM=>by simp only [bu,e1 t' ht,e2 t' ht,hx,hM _ _ hg (by simp)];exact ⟨h1,none,h2,by simp only [and_self]⟩⟩
        |some p=>exact ⟨_,h3.2,λt' _ ht hM=>by simp only [bu,e1 t' ht,e2 t' ht,hx,hM _ _ hg (by simp)];exact ⟨h1,some p,h2,h3.1,by simp only [and_self]⟩⟩
      · rename_i hg
        simp only [Mx,hx,hg] at hms
        cases hms
      · exact hq.elim
    · rename_i hx
      exact ⟨_,hq.2,λt' _ ht _=>by simp only [bu,e1 t' ht,e2 t' ht,hx];exact ⟨hq.1,by simp only [and_self]⟩⟩
    · exact hq.elim
  case pu f x=>
    have e1:∀t':T,(∀s∈bT (.pu f x),gs t' s=gs t s)→gv t' x=gv t x:=λt' ht=>eB λs hs=>ht s (by simp [bT,hs])
    simp only [bu] at hq
    split at hq
    · rename_i v hv
      exact ⟨_,hq,λt' _ ht _=>by simp only [bu,e1 t' ht,hv,and_self]⟩
    · exact hq.elim
  case lm x=>
    have e1:∀t':T,(∀s∈bT (.lm x),gs t' s=gs t s)→gv t' x=gv t x:=λt' ht=>eB λs hs=>ht s (by simp [bT,hs])
    simp only [bu] at hq
    split at hq
    · rename_i id hx
      split at hq
      · rename_i es hg
        exact ⟨_,hq,λt' _ ht hM=>by simp only [bu,e1 t' ht,hx,hM _ _ hg (by simp),and_self]⟩
      · rename_i es hg
        exact ⟨_,hq,λt' _ ht hM=>by simp only [bu,e1 t' ht,hx,hM _ _ hg (by simp),and_self]⟩
      · rename_i hg
        exact ⟨_,hq,λt' _ ht hM=>by simp only [bu,e1 t' ht,hx,hM _ _ hg (by simp),and_self]⟩
      · rename_i hg
        exact ⟨_,hq,λt' _ ht hM=>by simp only [bu,e1 t' ht,hx,hM _ _ hg (by simp),and_self]⟩
      · exact hq.elim
    · rename_i hx
      exact ⟨_,hq,λt' _ ht _=>by simp only [bu,e1 t' ht,hx,and_self]⟩
    · exact hq.elim
  case bin op x y=>
    have e1:∀t':T,(∀s∈bT (.bin op x y),gs t' s=gs t s)→gv t' x=gv t x:=λt' ht=>eB λs hs=>ht s (by simp [bT,hs])
    have e2:∀t':T,(∀s∈bT (.bin op x y),gs t' s=gs t s)→gv t' y=gv t y:=λt' ht=>eB λs hs=>ht s (by simp [bT,hs])
    simp only [bu] at hq
    split at hq
    · rename_i aa bb hx hy
      split at hq
      · exact ⟨_,hq.2,λt' _ ht _=>by simp only [bu,e1 t' ht,e2 t' ht,hx,hy];exact ⟨hq.1,by simp only [and_self]⟩⟩
      · exact hq.elim
    · rename_i k aa k' bb hx hy
      cases hsh:P4 op
      rotate_left
      · rw [hsh] at hq
        simp only [cond_true] at hq
        exact ⟨_,hq.2,λt' _ ht _=>by simp only [bu,e1 t' ht,e2 t' ht,hx,hy,hsh,cond_true];exact ⟨hq.1,by simp only [and_self]⟩⟩
      rw [hsh] at hq
      simp only [cond_false] at hq
      cases hk:Nat.beq (kn k) (kn k')
      · rw [hk] at hq;exact hq.elim
      · rw [hk] at hq
        simp only [cond_true] at hq
        split at hq<;>(try (exact hq.elim))
        · rcases hq with hq | hq
          · exact ⟨_,hq.2,λt' _ ht _=>by simp only [bu,e1 t' ht,e2 t' ht,hx,hy,hsh,cond_false,hk,cond_true,wC];exact .inl ⟨hq.1,by simp only [and_self]⟩⟩
          · exact ⟨_,hq,λt' _ ht _=>by simp only [bu,e1 t' ht,e2 t' ht,hx,hy,hsh,cond_false,hk,cond_true,wC];exact .inr (by simp only [and_self])⟩
        · rcases hq with hq | hq
          · exact ⟨_,hq.2,λt' _ ht _=>by simp only [bu,e1 t' ht,e2 t' ht,hx,hy,hsh,cond_false,hk,cond_true,wC];exact .inl ⟨hq.1,by simp only [and_self]⟩⟩
          · exact ⟨_,hq,λt' _ ht _=>by simp only [bu,e1 t' ht,e2 t' ht,hx,hy,hsh,cond_false,hk,cond_true,wC];exact .inr (by simp only [and_self])⟩
        · rcases hq with hq | hq
          · exact ⟨_,hq.2,λt' _ ht _=>by simp only [bu,e1 t' ht,e2 t' ht,hx,hy,hsh,cond_false,hk,cond_true,wC];exact .inl ⟨hq.1,by simp only [and_self]⟩⟩
          · exact ⟨_,hq,λt' _ ht _=>by simp only [bu,e1 t' ht,e2 t' ht,hx,hy,hsh,cond_false,hk,cond_true,wC];exact .inr (by simp only [and_self])⟩
        · obtain ⟨h0,hq⟩:=hq
          rcases hq with hq | hq
          · exact ⟨_,hq.2,λt' _ ht _=>by simp only [bu,e1 t' ht,e2 t' ht,hx,hy,hsh,cond_false,hk,cond_true,wC];exact ⟨h0,.inl ⟨hq.1,by simp only [and_self]⟩⟩⟩
          · exact ⟨_,hq,λt' _ ht _=>by simp only [bu,e1 t' ht,e2 t' ht,hx,hy,hsh,cond_false,hk,cond_true,wC];exact ⟨h0,.inr (by simp only [and_self])⟩⟩
        · exact ⟨_,hq.2,λt' _ ht _=>by simp only [bu,e1 t' ht,e2 t' ht,hx,hy,hsh,cond_false,hk,cond_true];exact ⟨hq.1,by simp only [and_self]⟩⟩
        all_goals exact ⟨_,hq,λt' _ ht _=>by simp only [bu,e1 t' ht,e2 t' ht,hx,hy,hsh,cond_false,hk,cond_true,and_self]⟩
    · exact hq.elim
  case eq ne st ks x y=>
    have e1:∀t':T,(∀s∈bT (.eq ne st ks x y),gs t' s=gs t s)→gv t' x=gv t x:=λt' ht=>eB λs hs=>ht s (by simp [bT,hs])
    have e2:∀t':T,(∀s∈bT (.eq ne st ks x y),gs t' s=gs t s)→gv t' y=gv t y:=λt' ht=>eB λs hs=>ht s (by simp [bT,hs])
    simp only [bu] at hq
    obtain ⟨h1,hq⟩:=hq
    unfold RD at hq
    split at hq
    · rename_i e he
      exact ⟨_,hq,λt' _ ht _=>by simp only [bu,e1 t' ht,e2 t' ht,RD,he,and_self,and_true];exact h1⟩
    · exact hq.elim
  case un op x=>
    have e1:∀t':T,(∀s∈bT (.un op x),gs t' s=gs t s)→gv t' x=gv t x:=λt' ht=>eB λs hs=>ht s (by simp [bT,hs])
    simp only [bu] at hq
    split at hq
    · rename_i b hx
      exact ⟨_,hq,λt' _ ht _=>by simp only [bu,e1 t' ht,hx,and_self]⟩
    · rename_i k aa hx
      rcases hq with hq | hq
      · exact ⟨_,hq.2,λt' _ ht _=>by simp only [bu,e1 t' ht,hx,wC];exact .inl ⟨hq.1,by simp only [and_self]⟩⟩
      · exact ⟨_,hq,λt' _ ht _=>by simp only [bu,e1 t' ht,hx,wC];exact .inr (by simp only [and_self])⟩
    · exact hq.elim
  case cv k x=>
    have e1:∀t':T,(∀s∈bT (.cv k x),gs t' s=gs t s)→gv t' x=gv t x:=λt' ht=>eB λs hs=>ht s (by simp [bT,hs])
    simp only [bu] at hq
    split at hq
    · rename_i k' aa hx
      rcases hq with hq | hq
      · exact ⟨_,hq.2,λt' _ ht _=>by simp only [bu,e1 t' ht,hx,wC];exact .inl ⟨hq.1,by simp only [and_self]⟩⟩
      · exact ⟨_,hq,λt' _ ht _=>by simp only [bu,e1 t' ht,hx,wC];exact .inr (by simp only [and_self])⟩
    · exact hq.elim
  case ln x=>
    have e1:∀t':T,(∀s∈bT (.ln x),gs t' s=gs t s)→gv t' x=gv t x:=λt' ht=>eB λs hs=>ht s (by simp [bT,hs])
    split at hq
    · rename_i z r hx
      exact ⟨_,hq,λt' _ ht _=>by simp only [bu,e1 t' ht,hx];exact λ_=>by simp only [and_self]⟩
    · rename_i z r hx
      exact ⟨_,hq,λt' _ ht _=>by simp only [bu,e1 t' ht,hx];exact λ_=>by simp only [and_self]⟩
    · rename_i id hx
      split at hq
      · rename_i z r hg
        exact ⟨_,hq,λt' _ ht hM=>by simp only [bu,e1 t' ht,hx,hM _ _ hg (by simp)];exact λ_=>by simp only [and_self]⟩
      · exact hq.elim
    · exact hq.elim
  case ls x=>
    have e1:∀t':T,(∀s∈bT (.ls x),gs t' s=gs t s)→gv t' x=gv t x:=λt' ht=>eB λs hs=>ht s (by simp [bT,hs])
    split at hq
    · rename_i r hx
      exact ⟨_,hq,λt' _ ht _=>by simp only [bu,e1 t' ht,hx];exact λ_=>by simp only [and_self]⟩
    · exact hq.elim
  case mn x y=>
    have e1:∀t':T,(∀s∈bT (.mn x y),gs t' s=gs t s)→gv t' x=gv t x:=λt' ht=>eB λs hs=>ht s (by simp [bT,hs])
    have e2:∀t':T,(∀s∈bT (.mn x y),gs t' s=gs t s)→gv t' y=gv t y:=λt' ht=>eB λs hs=>ht s (by simp [bT,hs])
    simp only [bu] at hq
    split at hq
    · rename_i k aa k' bb hx hy
      exact ⟨_,hq,λt' _ ht _=>by simp only [bu,e1 t' ht,e2 t' ht,hx,hy,and_self]⟩
    · exact hq.elim
  case mx x y=>
    have e1:∀t':T,(∀s∈bT (.mx x y),gs t' s=gs t s)→gv t' x=gv t x:=λt' ht=>eB λs hs=>ht s (by simp [bT,hs])
    have e2:∀t':T,(∀s∈bT (.mx x y),gs t' s=gs t s)→gv t' y=gv t y:=λt' ht=>eB λs hs=>ht s (by simp [bT,hs])
    simp only [bu] at hq
    split at hq
    · rename_i k aa k' bb hx hy
      exact ⟨_,hq,λt' _ ht _=>by simp only [bu,e1 t' ht,e2 t' ht,hx,hy,and_self]⟩
    · exact hq.elim
  case ex x i=>
    have e1:∀t':T,(∀s∈bT (.ex x i),gs t' s=gs t s)→gv t' x=gv t x:=λt' ht=>eB λs hs=>ht s (by simp [bT,hs])
    simp only [bu] at hq
    revert hq
    (repeat' split)<;>intro hq<;>(try (exact hq.elim))
    all_goals exact ⟨_,hq,λt' _ ht _=>by simp only [bu,e1 t' ht, *,and_self]⟩
  case nc x=>
    have e1:∀t':T,(∀s∈bT (.nc x),gs t' s=gs t s)→gv t' x=gv t x:=λt' ht=>eB λs hs=>ht s (by simp [bT,hs])
    simp only [bu] at hq
    revert hq
    (repeat' split)<;>intro hq<;>(try (exact hq.elim))
    all_goals first
      |exact ⟨_,hq,λt' _ ht _=>by simp only [bu,e1 t' ht, *,and_self]⟩
      | (rename_i f c hg
         cases hb:Nat.blt f 2000000<;>rw [hb] at hq
         · exact hq.elim
         · exact ⟨_,hq,λt' _ ht _=>by simp only [bu,e1 t' ht,hg,hb,cond_true,and_self]⟩)
  case ix x i=>
    have e1:∀t':T,(∀s∈bT (.ix x i),gs t' s=gs t s)→gv t' x=gv t x:=λt' ht=>eB λs hs=>ht s (by simp [bT,hs])
    have e2:∀t':T,(∀s∈bT (.ix x i),gs t' s=gs t s)→gv t' i=gv t i:=λt' ht=>eB λs hs=>ht s (by simp [bT,hs])
    simp only [bu] at hq
    split at hq
    · rename_i s k m hx hi
      obtain ⟨b,h1,h2⟩:=hq
      exact ⟨_,h2,λt' _ ht _=>by simp only [bu,e1 t' ht,e2 t' ht,hx,hi];exact ⟨b,h1,by simp only [and_self]⟩⟩
    · exact hq.elim
  case mf f caps=>
    simp only [bu,bh] at hq
    refine ⟨_,hq.2,λt' _ ht _=>?_⟩
    have hg:∀p∈caps,gv t' p=gv t p:=λp hp=>eB λs hs=>ht s (by simp only [bT,aP];exact ⟨p,hp,hs⟩)
    simp only [bu,bh]
    rw [aq hg,Bl (g:=λx=>sT (gv t x)) caps (λp hp=>by rw [hg p hp])]
    exact ⟨hq.1,by simp only [and_self]⟩
  case cf f args=>
    simp only [bh] at hq
    obtain ⟨h0,r,h2,h3⟩:=hq
    refine ⟨r,h3,λt' h1 ht _=>?_⟩
    have hg:∀p∈args,cH (gv t' p)=cH (gv t p):=λp hp=>by rw [eB λs hs=>ht s (by simp only [bT,aP];exact ⟨p,hp,hs⟩)]
    simp only [bu,bh]
    rw [aq hg]
    have h4:=ez.1 h0
    have h6:pD (Sat P) f (args.map λa=>cH (gv t a)) t' h1 (λv' t'' h'=>v'=r∧t''=t'∧h'=h1) (λ_ _ _=>False):=by
      simp only [pD,h4]
      exact h2.mono λo h' ⟨g1,g2⟩=>by subst g1 g2;simp only [and_self]
    cases ow f
    · simp only [ou,h4,cond_false]
      exact h6
    · exact h6
  case ap x y z b=>
    have e1:∀t':T,(∀s∈bT (.ap x y z b),gs t' s=gs t s)→Gv t' x=Gv t x:=λt' ht=>by
      have:=eB (t:=t) (t':=t') (x:=x) λs hs=>ht s (by simp [bT,hs])
      cases x with
      |s i=>exact this
      |g i=>exact this
      |k v=>cases v<;>first | exact this | rfl
    have e2:∀t':T,(∀s∈bT (.ap x y z b),gs t' s=gs t s)→gv t' y=gv t y:=λt' ht=>eB λs hs=>ht s (by simp [bT,hs])
    split at hq
    · rename_i z' r hx
      have eg:Gv t (.k (.cl z' r)) = .cl z' r:=rfl
      simp only [bu,eg] at hq
      split at hq
      · rename_i z'' ys hy
        exact ⟨_,hq.2,λt' _ ht _=>by simp only [bu,e1 t' ht,e2 t' ht,hx,hy];exact ⟨hq.1,by simp only [and_self]⟩⟩
      · rename_i z'' ys hy
        exact ⟨_,hq.2,λt' _ ht _=>by simp only [bu,e1 t' ht,e2 t' ht,hx,hy];exact ⟨hq.1,by simp only [and_self]⟩⟩
      · exact hq.elim
    · rename_i z0 hx
      split at hq
      · rename_i z'' ys hy
        exact ⟨_,hq.2,λt' _ ht _=>by simp only [bu,e1 t' ht,e2 t' ht,hx,hy];exact ⟨hq.1,sd (by simp only [and_self])⟩⟩
      · rename_i z'' ys hy
        exact ⟨_,hq.2,λt' _ ht _=>by simp only [bu,e1 t' ht,e2 t' ht,hx,hy];exact ⟨hq.1,sd (by simp only [and_self])⟩⟩
      · exact hq.elim
    · exact hq.elim
  case ss x lo hi=>
    have e1:∀t':T,(∀s∈bT (.ss x lo hi),gs t' s=gs t s)→gv t' x=gv t x:=λt' ht=>eB λs hs=>ht s (by simp [bT,hs])
    have e2:∀t':T,(∀s∈bT (.ss x lo hi),gs t' s=gs t s)→∀u,lo=some u→gv t' u=gv t u:=λt' ht u hu=>eB λs hs=>ht s (by simp [bT,Gr,hs,hu])
    have e3:∀t':T,(∀s∈bT (.ss x lo hi),gs t' s=gs t s)→∀u,hi=some u→gv t' u=gv t u:=λt' ht u hu=>eB λs hs=>ht s (by simp [bT,Gr,hs,hu])
    cases lo with
    |none=>
      simp only [bu] at hq
      split at hq
      · rename_i k l hl
        cases hl
        split at hq
        · rename_i r hx
          exact ⟨_,hq.2,λt' _ ht _=>by simp only [bu,e1 t' ht,hx];exact ⟨hq.1,by simp only [and_self]⟩⟩
        · exact hq.elim
      · rename_i k l hi hl
        cases hl
        split at hq
        · rename_i k' u hu
          split at hq
          · rename_i r hx
            exact ⟨_,hq.2,λt' _ ht _=>by simp only [bu,e1 t' ht,e3 t' ht _ rfl,hu,hx];exact ⟨hq.1,by simp only [and_self]⟩⟩
          · exact hq.elim
        · exact hq.elim
      · exact hq.elim
    |some lo=>
      simp only [bu] at hq
      split at hq
      · rename_i k l hl
        split at hq
        · rename_i r hx
          exact ⟨_,hq.2,λt' _ ht _=>by simp only [bu,e1 t' ht,e2 t' ht _ rfl,hl,hx];exact ⟨hq.1,by simp only [and_self]⟩⟩
        · exact hq.elim
      · rename_i k l hi hl
        split at hq
        · rename_i k' u hu
          split at hq
          · rename_i r hx
            exact ⟨_,hq.2,λt' _ ht _=>by simp only [bu,e1 t' ht,e2 t' ht _ rfl,e3 t' ht _ rfl,hl,hu,hx];exact ⟨hq.1,by simp only [and_self]⟩⟩
          · exact hq.elim
        · exact hq.elim
      · exact hq.elim
  case s3 x lo hi m z=>
    replace hq:(∀i,gv t x≠.os i)∧bu (Sat P) ow (.s3 x lo hi m z) t h (λv _ _=>K v) λ_ _ _=>False:=by
      split at hq
      · exact hq.elim
      · rename_i hno
        exact ⟨hno,hq⟩
    obtain ⟨hno,hq⟩:=hq
    have hno':∀i,dv (gv t x)≠.os i:=λi hi=>by
      cases hg:gv t x<;>rw [hg] at hi<;>simp only [dv,reduceCtorEq,V.os.injEq] at hi
      subst hi
      exact hno _ hg
    have e1:∀t':T,(∀s∈bT (.s3 x lo hi m z),gs t' s=gs t s)→gv t' x=gv t x:=λt' ht=>eB λs hs=>ht s (by simp [bT,hs])
    have e2:∀t':T,(∀s∈bT (.s3 x lo hi m z),gs t' s=gs t s)→∀u,lo=some u→gv t' u=gv t u:=λt' ht u hu=>eB λs hs=>ht s (by simp [bT,Gr,hs,hu])
    have e3:∀t':T,(∀s∈bT (.s3 x lo hi m z),gs t' s=gs t s)→∀u,hi=some u→gv t' u=gv t u:=λt' ht u hu=>eB λs hs=>ht s (by simp [bT,Gr,hs,hu])
    have e4:∀t':T,(∀s∈bT (.s3 x lo hi m z),gs t' s=gs t s)→∀u,m=some u→gv t' u=gv t u:=λt' ht u hu=>eB λs hs=>ht s (by simp [bT,Gr,hs,hu])
    cases lo with
    |none=>
      simp only [bu] at hq
      split at hq
      · rename_i k l hl
        cases hl
        split at hq
        · rename_i z' r hx
          exact ⟨_,hq.2,λt' _ ht _=>by simp only [bu,e1 t' ht,hx];exact ⟨hq.1,by simp only [and_self]⟩⟩
        · rename_i z' r hx
          exact ⟨_,hq.2,λt' _ ht _=>by simp only [bu,e1 t' ht,hx];exact ⟨hq.1,by simp only [and_self]⟩⟩
        · rename_i i hx;exact absurd hx (hno' i)
        · exact hq.elim
      · rename_i k l hi hl
        cases hl
        split at hq
        · rename_i k' u hu
          split at hq
          · rename_i z' r hx
            exact ⟨_,hq.2,λt' _ ht _=>by simp only [bu,e1 t' ht,e3 t' ht _ rfl,hu,hx];exact ⟨hq.1,by simp only [and_self]⟩⟩
          · rename_i z' r hx
            exact ⟨_,hq.2,λt' _ ht _=>by simp only [bu,e1 t' ht,e3 t' ht _ rfl,hu,hx];exact ⟨hq.1,by simp only [and_self]⟩⟩
          · rename_i i hx;exact absurd hx (hno' i)
          · exact hq.elim
        · exact hq.elim
      · rename_i k l hi m hl
        cases hl
        split at hq
        · rename_i k' u k'' u' hu hm
          split at hq
          · rename_i z' r hx
            exact ⟨_,hq.2,λt' _ ht _=>by simp only [bu,e1 t' ht,e3 t' ht _ rfl,e4 t' ht _ rfl,hu,hm,hx];exact ⟨hq.1,by simp only [and_self]⟩⟩
          · rename_i z' r hx
            exact ⟨_,hq.2,λt' _ ht _=>by simp only [bu,e1 t' ht,e3 t' ht _ rfl,e4 t' ht _ rfl,hu,hm,hx];exact ⟨hq.1,by simp only [and_self]⟩⟩
          · exact hq.elim
        · exact hq.elim
      · exact hq.elim
    |some lo=>
      simp only [bu] at hq
      split at hq
      · rename_i k l hl
        split at hq
        · rename_i z' r hx
          exact ⟨_,hq.2,λt' _ ht _=>by simp only [bu,e1 t' ht,e2 t' ht _ rfl,hl,hx];exact ⟨hq.1,by simp only [and_self]⟩⟩
        · rename_i z' r hx
          exact ⟨_,hq.2,λt' _ ht _=>by simp only [bu,e1 t' ht,e2 t' ht _ rfl,hl,hx];exact ⟨hq.1,by simp only [and_self]⟩⟩
        · rename_i i hx;exact absurd hx (hno' i)
        · exact hq.elim
      · rename_i k l hi hl
        split at hq
        · rename_i k' u hu
          split at hq
          · rename_i z' r hx
            exact ⟨_,hq.2,λt' _ ht _=>by simp only [bu,e1 t' ht,e2 t' ht _ rfl,e3 t' ht _ rfl,hl,hu,hx];exact ⟨hq.1,by simp only [and_self]⟩⟩
          · rename_i z' r hx
            exact ⟨_,hq.2,λt' _ ht _=>by simp only [bu,e1 t' ht,e2 t' ht _ rfl,e3 t' ht _ rfl,hl,hu,hx];exact ⟨hq.1,by simp only [and_self]⟩⟩
          · rename_i i hx;exact absurd hx (hno' i)
          · exact hq.elim
        · exact hq.elim
      · rename_i k l hi m hl
        split at hq
        · rename_i k' u k'' u' hu hm
          split at hq
          · rename_i z' r hx
            exact ⟨_,hq.2,λt' _ ht _=>by simp only [bu,e1 t' ht,e2 t' ht _ rfl,e3 t' ht _ rfl,e4 t' ht _ rfl,hl,hu,hm,hx];exact ⟨hq.1,by simp only [and_self]⟩⟩
          · rename_i z' r hx
            exact ⟨_,hq.2,λt' _ ht _=>by simp only [bu,e1 t' ht,e2 t' ht _ rfl,e3 t' ht _ rfl,e4 t' ht _ rfl,hl,hu,hm,hx];exact ⟨hq.1,by simp only [and_self]⟩⟩
          · exact hq.elim
        · exact hq.elim
      · exact hq.elim
end
end Go.Vx
namespace Go.Vx
section
variable {P:Program} {E:gC} {n:Nat} {G:Nat→Prop} {ρ:List Value} {t:T} {h:H} {a:Act} {w:World} {o:Oper} {bU:Act→World→Prop} {Q:Exit→Act→World→Prop}
theorem GY {P:Program} {ty:TypeId} {op:Op} {cs:List V} (h:fe P ty op=some (.al cs)):∃t,op = .alloc t∧qK P t=some cs:=by
  cases op
  case alloc t=>
    have al:(qK P t).map X.al=some (.al cs)→∃t',Op.alloc t = .alloc t'∧qK P t'=some cs:=λh=>by
      simp only [aG,X.al.injEq] at h
      obtain ⟨x,hx,rfl⟩:=h
      exact ⟨t,rfl,hx⟩
    simp only [fe] at h
    split at h
    · split at h
      · simp only [aJ,aD] at h
        obtain ⟨zs,hz,h⟩:=h
        repeat' split at h
        all_goals cases h
      · exact al h
    · exact al h
  all_goals
    exfalso
    simp only [fe] at h
    repeat' split at h
    all_goals
      first
        |contradiction
        |(simp [aD] at h;done)
        | (simp [aD] at h
           obtain ⟨_,_,_,_,h⟩:=h
           (repeat' split at h)<;>simp at h)
        | (simp [aD] at h
           obtain ⟨_,_,_,_,_,h⟩:=h
           (repeat' split at h)<;>simp at h)
        | (simp [aD] at h
           obtain ⟨_,_,h⟩:=h
           (repeat' split at h)<;>simp at h)
theorem GX {P:Program} {ty:TypeId} {op:Op} {f:Nat} {oa:List O} (h:fe P ty op=some (.cf f oa)):∃c,op = .call c∧c.callee = .value (.func f)∧f<5000000∧args P c.args.toList c.argTypes.toList=some oa:=by
  cases op
  case call c=>
    obtain ⟨callee,as,ts⟩:=c
    cases callee with
    |value x=>
      cases x<;>simp only [fe] at h
      case func g=>
        split at h
        · rename_i hlt
          simp only [aG,X.cf.injEq] at h
          obtain ⟨oa,ha,rfl,rfl⟩:=h
          exact ⟨_,rfl,rfl,hlt,ha⟩
        · cases h
      all_goals
        simp [aD] at h
    |invoke r m=>cases h
    |builtin b=>
      exfalso
      cases b<;>simp only [fe] at h<;>(repeat' split at h)<;>first
        |contradiction
        |(simp [aD] at h;done)
        | (simp [aD] at h
           obtain ⟨_,_,h⟩:=h
           (repeat' split at h)<;>simp at h)
        | (simp [aD] at h
           obtain ⟨_,_,_,_,h⟩:=h
           (repeat' split at h)<;>simp at h)
  all_goals
    exfalso
    simp only [fe] at h
    repeat' split at h
    all_goals
      first
        |contradiction
        |(simp [aD] at h;done)
        | (simp [aD] at h
           obtain ⟨_,_,_,_,h⟩:=h
           (repeat' split at h)<;>simp at h)
        | (simp [aD] at h
           obtain ⟨_,_,_,_,_,h⟩:=h
           (repeat' split at h)<;>simp at h)
        | (simp [aD] at h
           obtain ⟨_,_,h⟩:=h
           (repeat' split at h)<;>simp at h)
theorem GW {P:Program} {ty:TypeId} {op:Op} {pl:Nat} (h:fe P ty op=some (.mm pl)):∃t,op = .makeMap t none:=by
  cases op
  case makeMap t r=>
    cases r with
    |none=>exact ⟨t,rfl⟩
    |some r=>simp only [fe] at h;cases h
  all_goals
    exfalso
    simp only [fe] at h
    repeat' split at h
    all_goals
      first
        |contradiction
        |(simp [aD] at h;done)
        | (simp [aD] at h
           obtain ⟨_,_,_,_,h⟩:=h
           (repeat' split at h)<;>simp at h)
        | (simp [aD] at h
           obtain ⟨_,_,_,_,_,h⟩:=h
           (repeat' split at h)<;>simp at h)
        | (simp [aD] at h
           obtain ⟨_,_,h⟩:=h
           (repeat' split at h)<;>simp at h)
def wI (ρ:List Value) (i:Nat):Prop:=∃v,ρ[i]? = some v∧v≠undef
theorem dK.ref {v:Value} {x:V} (h:dK G w ρ v x):∀i∈iQ x,wI ρ i:=by
 cases h<;>simp only [iQ,cT,false_imp_iff,implies_true,aO,forall_eq]<;>(try exact ⟨_,‹_›,by simp [undef]⟩)
theorem dG.ref {v:Value} {x:V} (h:dG G w ρ v x):∀i∈jo x,wI ρ i:=by
 cases h with
 |k h=>intro i hi;exact h.ref i (by cases h<;>simpa [jo] using hi)
 |fc f u cs caps h0 h1 h2=>
  intro i hi;simp only [jo,aP] at hi;obtain ⟨x,hx,hi⟩:=hi;obtain ⟨j,hxj⟩:=au.1 hx;exact (h2 j x hxj).ref i hi
theorem dL.ref {v:Value} {x:V} (h:dL G w ρ v x):∀i∈ir x,wI ρ i:=by
 cases h with
 |c h=>
  intro i hi;refine h.ref i ?_;cases h with
  |k h=>cases h<;>simpa [ir] using hi
  |fc=>simpa [ir] using hi
 |ag cs vs h1 h2=>
  intro i hi;simp only [ir,aP] at hi;obtain ⟨x,hx,hi⟩:=hi;obtain ⟨j,hxj⟩:=au.1 hx;exact (h2 j x hxj).ref i hi
theorem a_.ref {v:Value} {x:V} (h:a_ G w ρ v x):∀i∈eF x,wI ρ i:=by
 cases h with
 |o h=>
  intro i hi;refine h.ref i ?_;cases h with
  |c h=>cases h with
   |k h=>cases h<;>simpa [eF] using hi
   |fc=>simpa [eF] using hi
  |ag cs vs h1 h2=>simpa [eF] using hi
 |tu cs vs h1 h2=>
  intro i hi;simp only [eF,aP] at hi;obtain ⟨x,hx,hi⟩:=hi;obtain ⟨j,hxj⟩:=au.1 hx;exact (h2 j x hxj).ref i hi
theorem cW.ref {hd:Value} {x:B} (h:cW G w ρ hd x):∀i∈eZ x,wI ρ i:=by
 cases x with
 |no=>simp [eZ]
 |nw=>simp [eZ]
 |cells cs=>
  obtain ⟨b,arr,ty,rfl,h1,h2,h3⟩:=h;intro i hi;simp only [eZ,aP] at hi;obtain ⟨x,hx,hi⟩:=hi;obtain ⟨j,hxj⟩:=au.1 hx;exact (h3 j x hxj).ref i hi
 |mp es=>
  obtain ⟨r,arr,clk,rfl,h1,h2,h3,h4⟩:=h;intro i hi;simp only [eZ,aP] at hi;obtain ⟨x,hx,hi⟩:=hi;obtain ⟨j,hxj⟩:=au.1 hx;have hj:j<arr.size:=by rw [h2];exact (aA.1 hxj).1
  rcases aT.1 hi with hi | hi
  ·exact (h4 j _ x (aI hj) hxj).1.ref i hi
  ·exact (h4 j _ x (aI hj) hxj).2.ref i hi
 |dm es=>simp [eZ]
 |di es r l=>simp [eZ]
 |ms z es out it=>
  obtain ⟨⟨r,arr,clk,rfl,h1,h2,h3,h4,h5,h6,h7⟩,_⟩:=h;intro i hi
  match out,hi,h6,h7 with
  |some (j,v),hi,h6,h7=>
   have hj:j<arr.size:=by rw [h2];exact h6 j v rfl
   exact (h7 j v _ rfl (aI hj)).ref i hi
 |rows z rs=>simp [eZ]
 |rx z rs k r=>
  obtain ⟨b,cap,arr,ty,rfl,h1,h2,h3,h4,h0,h5,h6⟩:=h;intro i hi;simp only [eZ,aP] at hi;obtain ⟨x,hx,hi⟩:=hi;obtain ⟨j,hxj⟩:=au.1 hx;exact (h6 j x hxj).ref i hi
theorem an.place (hC:an E n G ρ t h a w) {id:Nat} (hx:h[id]? = some .nw) (hid:E.ρ.length≤id) {hd:Value} {x:B} (hb:cW G w ρ hd x) (hf:∀b∈eO hd x,E.w.heap.size≤b∧¬G b∧¬own ρ h b) :
  an E n G (ρ.set id hd) t (h.set id x) a w:=by
 have hO:=hC.ok;have hil:id<ρ.length:=by rw [hO.hr.len];exact (aA.1 hx).1
 have hihl:id<h.length:=(aA.1 hx).1;have hu:ρ[id]? = some undef:=by
  have:=hO.hr.rep id _ _ (aB hil) hx;rw [aB hil];exact congrArg some this
 have hne:∀j,wI ρ j→j≠id:=by
  rintro j ⟨v,h1,h2⟩ rfl
  rw [hu] at h1;cases h1;exact h2 rfl
 have hg:∀j,wI ρ j→(ρ.set id hd)[j]? = ρ[j]?:=λj hj=>by rw [bH,if_neg (λe=>hne j hj e.symm)]
 have get:∀(j:Nat) (v:Value) (y:B),(ρ.set id hd)[j]? = some v→(h.set id x)[j]? = some y→(j≠id∧ρ[j]? = some v∧h[j]? = some y)∨(j=id∧v=hd∧y=x):=by
  intro j v y h1 h2;rw [bH] at h1 h2;split at h1
  ·rename_i hj;subst hj;rw [if_pos rfl,if_pos hihl] at h2;cases h1;cases h2;exact .inr ⟨rfl,rfl,rfl⟩
  ·rename_i hj;rw [if_neg hj] at h2;exact .inl ⟨λe=>hj e.symm,h1,h2⟩
 have hown:∀b,own (ρ.set id hd) (h.set id x) b→own ρ h b∨b∈eO hd x:=by
  rintro b ⟨j,v,y,h1,h2,h3,h4⟩
  rcases get j v y h1 h2 with ⟨_,g1,g2⟩ | ⟨_,rfl,rfl⟩
  ·exact .inl ⟨j,v,y,g1,g2,h3,h4⟩
  ·exact .inr h4
 refine ⟨⟨⟨by simp [hO.hr.len],λj v y h1 h2=>?_,λj j' v v' y y' b h1 h2 h3 h4 h5 h6 h7 h8=>?_,hO.hr.gl,λb hb ho=>?_,hO.hr.sE⟩,hO.gm,hO.go,λb hb=>?_,hO.frame,hO.size,hO.os,hO.tape,hO.out,λj v hv hs=>?_,by simpa using hO.hl,λr hr=>?_⟩,
  hC.df,hC.sz,λi=>(hC.tm i).mono (λ_ h=>h) (λ_ _=>rfl) (λj hj=>hg j ((hC.tm i).ref j hj))⟩
 ·rcases get j v y h1 h2 with ⟨_,g1,g2⟩ | ⟨rfl,rfl,rfl⟩
  ·have hr:=hO.hr.rep j v y g1 g2;exact hr.mono (λ_ h=>h) (λ_ _=>rfl) (λ_ _=>rfl) (λk hk=>hg k (hr.ref k hk))
  ·exact hb.mono (λ_ h=>h) (λ_ _=>rfl) (λ_ _=>rfl) (λk hk=>hg k (hb.ref k hk))
 ·rcases get j v y h1 h2 with ⟨hj,g1,g2⟩ | ⟨rfl,rfl,rfl⟩<;>rcases get j' v' y' h4 h5 with ⟨hj',k1,k2⟩ | ⟨rfl,rfl,rfl⟩
  ·exact hO.hr.mS j j' v v' y y' b g1 g2 h3 k1 k2 h6 h7 h8
  ·exact absurd ⟨j,v,y,g1,g2,h3,h7⟩ (hf b h8).2.2
  ·exact absurd ⟨j',v',y',k1,k2,h6,h8⟩ (hf b h7).2.2
  ·rfl
 ·rcases hown b ho with h1 | h1
  ·exact hO.hr.gd b hb h1
  ·exact (hf b h1).2.1 hb
 ·rcases hown b hb with h1 | h1
  ·exact hO.oo b h1
  ·exact .inl (hf b h1).1
 ·have hj:j≠id:=by
   have:=(aA.1 hv).1;omega
  rw [bH,if_neg (λe=>hj e.symm)];exact hO.hand j v hv hs
 ·obtain ⟨g1,g2,g3⟩:=hO.qh r hr;refine ⟨g1,g2,λg4=>?_⟩;obtain ⟨j,v,y,h1,h2,h3,h4⟩:=g4;rcases get j v y h1 h2 with ⟨_,k1,k2⟩ | ⟨rfl,rfl,rfl⟩
  ·exact g3 ⟨j,v,y,k1,k2,h3,h4⟩
  ·exact hb.Sl h3 h4 g1
theorem an.room (hC:an E n G ρ t h a w):∀k:Nat,∃ρ',an E n G ρ' t (h++List.replicate k .nw) a w
 |0=>⟨ρ,by simpa using hC⟩
 |k+1=>by
  obtain ⟨ρ',h1⟩:=hC.room k;refine ⟨ρ' ++ [undef],?_⟩;have:=h1.push (gO.refl w) undef .nw (by simp [fh,undef]) rfl;rw [List.replicate_succ',←bK];exact this
end
end Go.Vx
namespace Go.Vx
theorem k0 {x:V} (h:∀g c,x≠.fc g c):(∀f,rL f x=vE f x)∧jo x=iQ x∧∀i,qR i x=tV i x:=by
 cases x<;>first | exact ⟨λ_=>rfl,rfl,λ_=>rfl⟩ | exact absurd rfl (h _ _)
theorem k1 {x:V} (h:∀c,x≠.ag c):(∀f,oB f x=rL f x)∧ir x=jo x∧∀i,pV i x=qR i x:=by
 cases x<;>first | exact ⟨λ_=>rfl,rfl,λ_=>rfl⟩ | exact absurd rfl (h _)
theorem k2 {x:V} (h:∀c,x≠.tu c):(∀f,gH f x=oB f x)∧eF x=ir x∧∀i,zX i x=pV i x:=by
 cases x<;>first | exact ⟨λ_=>rfl,rfl,λ_=>rfl⟩ | exact absurd rfl (h _)
theorem Ad {f:Nat→Nat} {x:V} (h:∀i∈iQ x,f i=i):vE f x=x:=by
 cases x<;>first | rfl | (simp only [vE];rw [h _ (by simp [iQ])])
theorem oN {f:Nat→Nat} {x:V} (h:∀i∈jo x,f i=i):rL f x=x:=by
 by_cases hx:∃g c,x=V.fc g c
 ·obtain ⟨g,c,rfl⟩:=hx;simp only [jo,aP] at h;simp only [rL,e_ (λx hx=>Ad λi hi=>h i ⟨x,hx,hi⟩)]
 ·obtain ⟨e1,e2,_⟩:=k0 (λg c e=>hx ⟨g,c,e⟩);rw [e1];exact Ad (by rw [←e2];exact h)
theorem Af {f:Nat→Nat} {x:V} (h:∀i∈ir x,f i=i):oB f x=x:=by
 by_cases hx:∃c,x=V.ag c
 ·obtain ⟨c,rfl⟩:=hx;simp only [ir,aP] at h;simp only [oB,e_ (λx hx=>oN λi hi=>h i ⟨x,hx,hi⟩)]
 ·obtain ⟨e1,e2,_⟩:=k1 (λc e=>hx ⟨c,e⟩);rw [e1];exact oN (by rw [←e2];exact h)
theorem Ae {f:Nat→Nat} {x:B} (h:∀i∈eZ x,f i=i):eP f x=x:=by
 cases x with
 |ms z es out it=>
  cases out with
  |none=>rfl
  |some q=>simp only [eP,bF,oN h]
 |cells c=>
  simp only [eZ,aP] at h;simp only [eP,e_ (λx hx=>oN λi hi=>h i ⟨x,hx,hi⟩)]
 |mp c=>
  simp only [eZ,aP,aT] at h;simp only [eP,e_ (l:=c) (f:=λp=>(oB f p.1,oB f p.2)) (λx hx=>by
   rw [Af λi hi=>h i ⟨x,hx,.inl hi⟩,Af λi hi=>h i ⟨x,hx,.inr hi⟩])]
 |rx z rs k c=>
  simp only [eZ,aP] at h;simp only [eP,e_ (λx hx=>oN λi hi=>h i ⟨x,hx,hi⟩)]
 |_=>rfl
theorem EO {f g:Nat→Nat} {x:V} (h:∀i∈iQ x,f i=g i):vE f x=vE g x:=by
 cases x<;>first | rfl | (simp only [vE];rw [h _ (by simp [iQ])])
theorem rK {f g:Nat→Nat} {x:V} (h:∀i∈jo x,f i=g i):rL f x=rL g x:=by
 by_cases hx:∃g c,x=V.fc g c
 ·obtain ⟨F,c,rfl⟩:=hx;simp only [jo,aP] at h;simp only [rL,aq (λx hx=>EO λi hi=>h i ⟨x,hx,hi⟩)]
 ·obtain ⟨e1,e2,_⟩:=k0 (λg c e=>hx ⟨g,c,e⟩);rw [e1,e1];exact EO (by rw [←e2];exact h)
theorem vF {f g:Nat→Nat} {x:V} (h:∀i∈ir x,f i=g i):oB f x=oB g x:=by
 by_cases hx:∃c,x=V.ag c
 ·obtain ⟨c,rfl⟩:=hx;simp only [ir,aP] at h;simp only [oB,aq (λx hx=>rK λi hi=>h i ⟨x,hx,hi⟩)]
 ·obtain ⟨e1,e2,_⟩:=k1 (λc e=>hx ⟨c,e⟩);rw [e1,e1];exact rK (by rw [←e2];exact h)
theorem MC {f g:Nat→Nat} {x:V} (h:∀i∈eF x,f i=g i):gH f x=gH g x:=by
 by_cases hx:∃c,x=V.tu c
 ·obtain ⟨c,rfl⟩:=hx;simp only [eF,aP] at h;simp only [gH,aq (λx hx=>vF λi hi=>h i ⟨x,hx,hi⟩)]
 ·obtain ⟨e1,e2,_⟩:=k2 (λc e=>hx ⟨c,e⟩);rw [e1,e1];exact vF (by rw [←e2];exact h)
theorem MB {f g:Nat→Nat} {x:B} (h:∀i∈eZ x,f i=g i):eP f x=eP g x:=by
 cases x with
 |ms z es out it=>
  cases out with
  |none=>rfl
  |some q=>simp only [eP,bF,rK h]
 |cells c=>
  simp only [eZ,aP] at h;simp only [eP,aq (λx hx=>rK λi hi=>h i ⟨x,hx,hi⟩)]
 |mp c=>
  simp only [eZ,aP,aT] at h;simp only [eP,aq (l:=c) (f:=λp=>(oB f p.1,oB f p.2)) (g:=λp=>(oB g p.1,oB g p.2)) (λx hx=>by
   rw [vF λi hi=>h i ⟨x,hx,.inl hi⟩,vF λi hi=>h i ⟨x,hx,.inr hi⟩])]
 |rx z rs k c=>
  simp only [eZ,aP] at h;simp only [eP,aq (λx hx=>rK λi hi=>h i ⟨x,hx,hi⟩)]
 |_=>rfl
theorem EN {f g:Nat→Nat} (x:V):vE f (vE g x)=vE (λi=>f (g i)) x:=by cases x<;>rfl
theorem kS {f g:Nat→Nat} (x:V):rL f (rL g x)=rL (λi=>f (g i)) x:=by
 cases x with
 |fc F c=>simp only [rL,ek];congr 1;exact aq λx _=>EN x
 |_=>rfl
theorem rJ {f g:Nat→Nat} (x:V):oB f (oB g x)=oB (λi=>f (g i)) x:=by
 cases x with
 |ag c=>simp only [oB,ek];congr 1;exact aq λx _=>kS x
 |fc F c=>exact kS (.fc F c)
 |_=>rfl
theorem rI {f g:Nat→Nat} (x:V):gH f (gH g x)=gH (λi=>f (g i)) x:=by
 cases x with
 |tu c=>simp only [gH,ek];congr 1;exact aq λx _=>rJ x
 |ag c=>exact rJ (.ag c)
 |fc F c=>exact kS (.fc F c)
 |_=>rfl
theorem rH {f g:Nat→Nat} (x:B):eP f (eP g x)=eP (λi=>f (g i)) x:=by
 cases x with
 |ms z es out it=>
  cases out with
  |none=>rfl
  |some q=>simp only [eP,bF,kS]
 |cells c=>simp only [eP,ek];congr 1;exact aq λx _=>kS x
 |mp c=>simp only [eP,ek];congr 1;exact aq λx _=>by simp only [Function.comp,rJ]
 |rx z rs k c=>simp only [eP,ek];congr 1;exact aq λx _=>kS x
 |_=>rfl
theorem xX {i:Nat} {x:V} (h:i∉iQ x):tV i x=x:=by
 cases x<;>first | rfl | (simp only [iQ,aO] at h;simp only [tV,fg (jh h),cond_false])
theorem mL {i:Nat} {x:V} (h:i∉jo x):qR i x=x:=by
 by_cases hx:∃g c,x=V.fc g c
 ·obtain ⟨g,c,rfl⟩:=hx;simp only [jo,aP,not_exists,not_and] at h;simp only [qR,e_ (λx hx=>xX (h x hx))]
 ·obtain ⟨_,e2,e3⟩:=k0 (λg c e=>hx ⟨g,c,e⟩);rw [e3];exact xX (by rw [←e2];exact h)
theorem o5 {i:Nat} {x:V} (h:i∉ir x):pV i x=x:=by
 by_cases hx:∃c,x=V.ag c
 ·obtain ⟨c,rfl⟩:=hx;simp only [ir,aP,not_exists,not_and] at h;simp only [pV,e_ (λx hx=>mL (h x hx))]
 ·obtain ⟨_,e2,e3⟩:=k1 (λc e=>hx ⟨c,e⟩);rw [e3];exact mL (by rw [←e2];exact h)
theorem FZ {i:Nat} {x:V} (h:i∉eF x):zX i x=x:=by
 by_cases hx:∃c,x=V.tu c
 ·obtain ⟨c,rfl⟩:=hx;simp only [eF,aP,not_exists,not_and] at h;simp only [zX,e_ (λx hx=>o5 (h x hx))]
 ·obtain ⟨_,e2,e3⟩:=k2 (λc e=>hx ⟨c,e⟩);rw [e3];exact o5 (by rw [←e2];exact h)
theorem FX {i:Nat} {x:B} (h:i∉eZ x):gJ i x=x:=by
 cases x with
 |ms z es out it=>
  cases out with
  |none=>rfl
  |some q=>simp only [gJ,bF,mL h]
 |cells c=>
  simp only [eZ,aP,not_exists,not_and] at h;simp only [gJ,e_ (λx hx=>mL (h x hx))]
 |mp c=>
  simp only [eZ,aP,not_exists,not_and,aT,not_or] at h;simp only [gJ,e_ (l:=c) (f:=λp=>(pV i p.1,pV i p.2)) (λx hx=>by rw [o5 (h x hx).1,o5 (h x hx).2])]
 |rx z rs k c=>
  simp only [eZ,aP,not_exists,not_and] at h;simp only [gJ,e_ (λx hx=>mL (h x hx))]
 |_=>rfl
theorem zU:∀(os:List Nat) (t:T),(∀i∈os,∀s,i∉eF (gs t s))→∀s,gs (os.foldl (λt i=>j8 i t) t) s=gs t s:=by
 intro os
 induction os with
 |nil=>intro t _ s;rfl
 |cons i os ih=>
  intro t h s;have e:∀s,gs (j8 i t) s=gs t s:=λs=>by rw [j8,pY _ rfl,FZ (h i (by simp) s)]
  rw [cI,ih (j8 i t) (λj hj s=>by rw [e s];exact h j (by simp [hj]) s) s,e s]
theorem zV:∀(os:List Nat) (h:H) (i:Nat),(∀j∈os,∀b,h[i]? = some b→j∉eZ b)→(l5 os h)[i]? = h[i]?:=by
 intro os
 induction os with
 |nil=>intro h i _;rfl
 |cons j os ih=>
  intro h i hc;have e:(h.map (gJ j))[i]? = h[i]?:=by
   rw [aC];cases hb:h[i]? with
   |none=>rfl
   |some b=>rw [bF,FX (hc j (by simp) b hb)]
  rw [l5,ih (h.map (gJ j)) i (λk hk b hb=>hc k (by simp [hk]) b (by rw [←e];exact hb)),e]
theorem CW (h:H):∀(n:Nat) (l acc:List Nat),∀i∈acc,i∈reach h n l acc:=by
 intro n
 induction n with
 |zero=>intro l acc i hi;exact hi
 |succ n ih=>
  intro l acc i hi;cases l with
  |nil=>exact hi
  |cons j r=>
   simp only [reach];cases has acc j
   ·exact ih _ _ i (by simp [hi])
   ·exact ih _ _ i hi
theorem wy {h h':H}:∀(n:Nat) (l acc:List Nat),(∀i∈reach h n l acc,get? h' i=get? h i)→reach h' n l acc=reach h n l acc:=by
 intro n
 induction n with
 |zero=>intro l acc _;rfl
 |succ n ih=>
  intro l acc hh;cases l with
  |nil=>rfl
  |cons j r=>
   simp only [reach] at hh ⊢;cases hj:has acc j
   ·rw [hj] at hh;simp only [cond_false] at hh ⊢;have e:=hh j (CW h n _ _ j (by simp));rw [e];exact ih _ _ hh
   ·rw [hj] at hh;simp only [cond_true] at hh ⊢;exact ih _ _ hh
theorem PH {α:Type}:∀(l:List (Nat×α)) (a:List α),(l.map (·.1)).Nodup→(∀p∈l,p.1<a.length)→(l.foldl (λa p=>a.set p.1 p.2) a).length=a.length∧(∀p∈l,(l.foldl (λa p=>a.set p.1 p.2) a)[p.1]? = some p.2) ∧
  ∀i,(∀p∈l,p.1≠i)→(l.foldl (λa p=>a.set p.1 p.2) a)[i]? = a[i]?:=by
 intro l
 induction l with
 |nil=>intro a _ _;exact ⟨rfl,by simp,λ_ _=>rfl⟩
 |cons p l ih=>
  intro a hn hl;simp only [cS,cw] at hn;obtain ⟨g1,g2,g3⟩:=ih (a.set p.1 p.2) hn.2 (λq hq=>by simpa using hl q (by simp [hq]));refine ⟨by simpa using g1,λq hq=>?_,λi hi=>?_⟩
  ·rcases ae.1 hq with rfl | hq
   ·rw [cI,g3 q.1 (λp hp e=>hn.1 (b9.2 ⟨p,hp,e⟩)),bH,if_pos rfl,if_pos (hl q (by simp))]
   ·exact g2 q hq
  ·rw [cI,g3 i (λq hq=>hi q (by simp [hq])),bH,if_neg (hi p (by simp))]
theorem Db {α:Type} {nf:List Nat} {vs a:List α} (hl:nf.length=vs.length) (hn:nf.Nodup) (hlt:∀i∈nf,i<a.length) :
  ((nf.zip vs).foldl (λa p=>a.set p.1 p.2) a).length=a.length∧(∀(k i:Nat),nf[k]? = some i→((nf.zip vs).foldl (λa p=>a.set p.1 p.2) a)[i]? = vs[k]?)∧∀i,i∉nf→((nf.zip vs).foldl (λa p=>a.set p.1 p.2) a)[i]? = a[i]?:=by
 have e:(nf.zip vs).map (·.1)=nf:=du (by omega);have hm:∀p∈nf.zip vs,p.1∈nf:=λp hp=>by rw [←e];exact b9.2 ⟨p,hp,rfl⟩
 obtain ⟨g1,g2,g3⟩:=PH (nf.zip vs) a (by rw [e];exact hn) (λp hp=>hlt _ (hm p hp));refine ⟨g1,λk i hk=>?_,λi hi=>g3 i λp hp he=>hi (he ▸ hm p hp)⟩;have hkl:k<vs.length:=by rw [←hl];exact (aA.1 hk).1
 rw [aB hkl];have hp:(i,vs[k])∈nf.zip vs:=au.2 ⟨k,by rw [iJ];exact ⟨hk,aB hkl⟩⟩;exact g2 _ hp
section
variable {P:Program} {E:gC} {n:Nat} {G:Nat→Prop} {ρ:List Value} {t:T} {h:H} {a:Act} {w:World}
theorem an.move {ns:List B} (hC:an E n G ρ t (h++ns) a w) {nf:List Nat} (hl:nf.length=ns.length) (hnd:nf.Nodup) (hnw:∀i∈nf,h[i]? = some .nw) (hlo:∀i∈nf,E.ρ.length≤i) (hE:E.ρ.length≤h.length) (hEh:E.h.length≤h.length) {f:Nat→Nat}
  (hf1:∀k,k<h.length→f k=k) (hf2:∀(k i:Nat),nf[k]? = some i→f (h.length+k)=i) (hht:∀s,∀i∈eF (gs t s),i<h.length) (hhh:∀(i:Nat) (b:B),h[i]? = some b→∀j∈eZ b,j<h.length) :
  ∃ρ',an E n G ρ' t ((nf.zip (ns.map (eP f))).foldl (λa w=>a.set w.1 w.2) h) a w∧∀(v:Value) (x:V),a_ G w ρ v x→a_ G w ρ' v (gH f x):=by
 have hO:=hC.ok;have hlen:ρ.length=h.length+ns.length:=by rw [hO.hr.len,aK]
 have hnlt:∀i∈nf,i<h.length:=λi hi=>(aA.1 (hnw i hi)).1;obtain ⟨a1,a2,a3⟩:=Db (vs:=ns.map (eP f)) (a:=h) (by simpa using hl) hnd hnlt;obtain ⟨b1,b2,b3⟩:=Db (vs:= ρ.drop h.length) (a:= ρ.take h.length) (by simp;omega) hnd (λi hi=>by have:=hnlt i hi;simp;omega);generalize hh':(nf.zip (ns.map (eP f))).foldl (λa w=>a.set w.1 w.2) h=h' at *;generalize hρ':(nf.zip (ρ.drop h.length)).foldl (λa w=>a.set w.1 w.2) (ρ.take h.length)=ρ' at *;have bl:ρ'.length=h.length:=by rw [b1];simp;omega
 have b2':∀(k i:Nat),nf[k]? = some i→ρ'[i]? = ρ[h.length+k]?:=λk i hk=>by rw [b2 k i hk,ao]
 have b3':∀i,i∉nf→i<h.length→ρ'[i]? = ρ[i]?:=λi hi hlt=>by rw [b3 i hi,a8,if_pos hlt]
 have hun:∀i,wI ρ i→i∉nf:=by
  rintro i ⟨v,h1,h2⟩ hi
  have hx:=hnw i hi;have hlt:=hnlt i hi;have:=hO.hr.rep i v .nw h1 (by rw [aN hlt];exact hx);exact h2 this
 have hg:∀i,wI ρ i→ρ'[f i]? = ρ[i]?:=by
  intro i hi;have hni:=hun i hi;obtain ⟨v,h1,_⟩:=hi;have hil:=(aA.1 h1).1
  by_cases hlt:i<h.length
  ·rw [hf1 i hlt,b3' i hni hlt]
  ·obtain ⟨j,hj⟩:∃j,nf[i - h.length]? = some j:=⟨_,aB (by omega)⟩
   have:=hf2 _ _ hj;have e:h.length+(i - h.length)=i:=by omega
   rw [e] at this;rw [this,b2' _ _ hj,e]
 have src:∀(i:Nat) (v:Value) (y:B),ρ'[i]? = some v→h'[i]? = some y→∃(o:Nat) (y0:B),ρ[o]? = some v∧(h++ns)[o]? = some y0∧(y0 = .no↔y = .no)∧gh y=gh y0∧((∃k,nf[k]? = some i∧o=h.length+k)∨(i∉nf∧o=i∧i<h.length))∧(cW G w ρ v y0→cW G w ρ' v y):=by
  intro i v y h1 h2;have hil:i<h.length:=by rw [←bl];exact (aA.1 h1).1
  by_cases hi:i∈nf
  ·obtain ⟨k,hk⟩:=au.1 hi;rw [b2' k i hk] at h1;rw [a2 k i hk,aC,aG] at h2;obtain ⟨y0,hy,rfl⟩:=h2;refine ⟨h.length+k,y0,h1,by rw [aX (by omega)];simpa using hy,(kH f y0).symm,mN f y0,.inl ⟨k,hk,rfl⟩,λhr=>?_⟩;exact hr.oC λj hj=>hg j (hr.ref j hj)
  ·rw [b3' i hi hil] at h1;rw [a3 i hi] at h2;refine ⟨i,y,h1,by rw [aN hil];exact h2,Iff.rfl,rfl,.inr ⟨hi,rfl,hil⟩,λhr=>?_⟩;exact hr.mono (λ_ h=>h) (λ_ _=>rfl) (λ_ _=>rfl) (λj hj=>by
    have:=hg j (hr.ref j hj);rwa [hf1 j (hhh i y h2 j hj)] at this)
 have back:∀b,own ρ' h' b→own ρ (h++ns) b:=by
  rintro b ⟨i,v,y,h1,h2,h3,h4⟩
  obtain ⟨o,y0,g1,g2,g3,g6,_⟩:=src i v y h1 h2;rw [eO,g6] at h4;exact ⟨o,v,y0,g1,g2,λe=>h3 (g3.1 e),h4⟩
 refine ⟨ρ',⟨⟨⟨by rw [bl,a1],λi v y h1 h2=>?_,λi i' v v' y y' b h1 h2 h3 h4 h5 h6 h7 h8=>?_,hO.hr.gl,λb hb ho=>hO.hr.gd b hb (back b ho),hO.hr.sE⟩,hO.gm,hO.go,λb hb=>hO.oo b (back b hb),hO.frame,hO.size,hO.os,hO.tape,hO.out,λi v hv hs=>?_,by rw [a1];exact hEh,λr hr=>let ⟨g1,g2,g3⟩:=hO.qh r hr;⟨g1,g2,λg4=>g3 (back r g4)⟩⟩,
  hC.df,hC.sz,λs=>(hC.tm s).mono (λ_ h=>h) (λ_ _=>rfl) (λj hj=>?_)⟩,λv x hx=>hx.oC λj hj=>hg j (hx.ref j hj)⟩
 ·obtain ⟨o,y0,g1,g2,_,_,_,g5⟩:=src i v y h1 h2;exact g5 (hO.hr.rep o v y0 g1 g2)
 ·obtain ⟨o,y0,g1,g2,g3,g6,g4,_⟩:=src i v y h1 h2;obtain ⟨o',y0',k1,k2,k3,k6,k4,_⟩:=src i' v' y' h4 h5;rw [eO,g6] at h7;rw [eO,k6] at h8;have hoo:=hO.hr.mS o o' v v' y0 y0' b g1 g2 (λe=>h3 (g3.1 e)) k1 k2 (λe=>h6 (k3.1 e)) h7 h8;rcases g4 with ⟨k,hk,rfl⟩ | ⟨_,rfl,hlt⟩<;>rcases k4 with ⟨k',hk',rfl⟩ | ⟨_,rfl,hlt'⟩
  ·have:k=k':=by omega
   subst this;rw [hk] at hk';exact aj hk'
  ·omega
  ·omega
  ·exact hoo
 ·have h0:=hO.hand i v hv hs;have hiE:=(aA.1 hv).1;have hi:i∉nf:=λhi=>by have:=hlo i hi;omega
  rw [b3' i hi (by omega)];exact h0
 ·have:=hg j ((hC.tm s).ref j hj);rwa [hf1 j (hht s j hj)] at this
end
end Go.Vx
