/- Lemmas. Conditions: none. -/
import Derived.Test.YtjpgfgajkjhonaaGreatDoorQHAK
namespace Go.Vx
section
variable {P:Program} {E:gR} {n:Nat} {G:Nat→Prop} {ρ:List Value} {t t':T} {h:H} {a:Act} {w:World} {o:Oper} {b7:Act→World→Prop} {Q:Exit→Act→World→Prop} {K:Ex→T→H→Prop}
variable (ow:Nat→Bool)
theorem au.congr (hC:au E n G ρ t h a w) (ht:∀i,gs t' i=gs t i):au E n G ρ t' h a w:=
 ⟨hC.ok,hC.df,hC.sz,λi=>by rw [ht i];exact hC.tm i⟩
def fw (d:Option Nat) (v:V) (t:T):T:=
 match d with
 |some i=>(i,v) :: t
 |none=>t
theorem ff (d:Option Nat) (v:V) (t:T) (K:T→Prop):uq d v t K=K (fw d v t):=by
 rw [RZ];cases d<;>rfl
theorem au.fw (hC:au E n G ρ t h a w) (d:Option Nat) {v:Value} {x:V} (hd:∀i,d=some i→i<n) (hr:bB G w ρ v x):au E n G ρ (Vx.fw d x t) h (a.put d v) w:=by
 have:=hC.put d hd hr;cases d<;>exact this
theorem xQ {j:Nat} {v:V} (hj:gs t j=v) (i:Nat):gs ((j,v) :: t) i=gs t i:=by
 simp only [gP]
 by_cases e:j=i
 ·subst e;simp [hj]
 ·rw [fy e];rfl
theorem nX {ops:Array Oper} {i:I} (hi:oZ P n ops o=some i):(fq P o.type o.op=some i.o∨i.o = .bad)∧i.d=o.dst∧(∀k,o.dst=some k→k<n) ∧
  (match o.guard with | none=>i.g=none | some (j,x)=>∃d,(ops[j]?).bind (·.dst)=some d∧i.g=some (d,x)):=by
 simp only [oZ,aK] at hi;have hx:∀y,(fq P o.type o.op).getD .bad=y→fq P o.type o.op=some y∨y = .bad:=λy hy=>by
  cases hc:fq P o.type o.op with
  |none=>rw [hc] at hy;exact .inr hy.symm
  |some z=>rw [hc] at hy;exact .inl (κ some hy)
 split at hi
 ·cases hi
 ·rename_i hd;have hd':∀k,o.dst=some k→k<n:=λk hk=>by
   simp only [hk,bf,dL,Bool.not_eq_false] at hd;exact (dQ ..).mp hd
  split at hi
  ·cases hi;rename_i hg;exact ⟨hx _ rfl,rfl,hd',by rw [hg]⟩
  ·rename_i hg;simp only [aD] at hi;obtain ⟨d,hd2,hi⟩:=hi;cases hi;refine ⟨hx _ rfl,rfl,hd',?_⟩;rw [hg];exact ⟨d,aD.2 hd2,rfl⟩
theorem mg (hC:au E n G ρ t h a w) {ops:Array Oper} {j d:Nat} {x b:Bool} (hg:o.guard=some (j,x)) (hd:(ops[j]?).bind (·.dst)=some d) (ht:gs t d = .d (.bool b)) :
  Region.wanted o (yielded ops a.tmps)=(b==x):=by
 have h1:=(ht ▸ hC.tm d).bool;have h2:a.tmps[d]? = some (.bool b):=by
  rw [aF] at h1;cases hx:a.tmps[d]? with
  |none=>rw [hx] at h1;cases h1
  |some v=>rw [hx] at h1;exact κ some h1
 simp only [Region.wanted,hg,yielded,hd,Option.bind_some,h2];cases b<;>cases x<;>rfl
theorem q7 (hC:au E n G ρ t h a w) {ops:Array Oper} {j d:Nat} {x:Bool} (hg:o.guard=some (j,x)) (hd:(ops[j]?).bind (·.dst)=some d) (ht:gs t d = .ud) :
  Region.wanted o (yielded ops a.tmps)=false:=by
 have h1:a.tmps.getD d undef=undef:=by
  have:=ht ▸ hC.tm d;generalize a.tmps.getD d undef=u at this;cases this with | o k=>cases k with | c k=>cases k with | k k=>cases k with
   |ud=>rfl
 simp only [Region.wanted,hg,yielded,hd,Option.bind_some];rw [aF] at h1;cases hx:a.tmps[d]? with
 |none=>rfl
 |some v=>rw [hx] at h1;simp only [bf] at h1;subst h1;rfl
def PQ (E:gR) (n:Nat) (K:Ex→T→H→Prop) (Q:Exit→Act→World→Prop):Prop:=
 ∀(a:Act) (w:World) (G:Nat→Prop) (ρ:List Value) (t:T) (h:H) (v:V) (v':Value),au E n G ρ t h a w→bB G w ρ v' v→K (.fm v) t h→Q (.panic [{ v:=v',recovered:=false }]) a w
theorem An:bB G w ρ undef .ud:=.k .ud
theorem sE (hC:au E n G ρ t h a w) {ops:Array Oper} {i:I} (hi:oZ P n ops o=some i) {r:List I} (hk:rx (Sat P) ow (i :: r) t h K)
  (hnx:∀(a':Act) (w':World) (G':Nat→Prop) (ρ':List Value) (t':T) (h':H),au E n G' ρ' t' h' a' w'→rx (Sat P) ow r t' h' K→b7 a' w') (hp:PQ E n K Q) :
  if Region.wanted o (yielded ops a.tmps) then o.wp P a w b7 Q else b7 (a.put o.dst undef) w:=by
 obtain ⟨hx,hd,hlt,hg⟩:=nX hi;have run:∀{t:T},au E n G ρ t h a w→bz (Sat P) ow i.o t h (λv t h=>uq i.d v t λt=>rx (Sat P) ow r t h K) (λv t h=>K (.fm v) t h)→o.wp P a w b7 Q:=by
  intro t hC hk;refine pD ow hC (λv' w' G' ρ' t' h' v hC' hv hk'=>?_) (λv' w' G' ρ' t' h' v hC' hv hk'=>hp a w' G' ρ' t' h' v v' hC' hv hk') hx hk;rw [ff,hd] at hk';exact hnx _ _ _ _ _ _ (hC'.fw o.dst hlt hv) hk'
 have pass:∀{t:T},au E n G ρ t h a w→(uq i.d .ud t λt=>rx (Sat P) ow r t h K)→b7 (a.put o.dst undef) w:=by
  intro t hC hk;rw [ff,hd] at hk;exact hnx _ _ _ _ _ _ (hC.fw o.dst hlt An) hk
 cases hgo:o.guard with
 |none=>
  rw [hgo] at hg;simp only at hg;simp only [CU,CV,hg] at hk;rw [ζ (by simp [Region.wanted,hgo])];exact run hC hk
 |some p=>
  obtain ⟨j,x⟩:=p;rw [hgo] at hg;obtain ⟨d,hd1,hg⟩:=hg;simp only [CU,CV,hg] at hk;split at hk
  ·rename_i b hb;rw [mg hC hgo hd1 hb];have hC1:=hC.congr (xQ hb);cases b<;>cases x<;>simp only [sp,δ,ε] at hk<;>simp only [BEq.rfl,if_true,cp,ψ,ξ,reduceCtorEq]
   ·exact run hC1 hk
   ·exact pass hC1 hk
   ·exact pass hC1 hk
   ·exact run hC1 hk
  ·rename_i hb;rw [q7 hC hgo hd1 hb];exact pass hC hk
  ·exact hk.elim
def QK (E:gR) (n:Nat) (K:Ex→T→H→Prop) (e:Exit) (a:Act) (w:World):Prop:=
  ∃(G:Nat→Prop) (ρ:List Value) (t:T) (h:H),au E n G ρ t h a w∧match e with
    |.normal=>K .pj t h
    |.exit id=>K (.ext id) t h
    |.ret=>K .ret t h
    |.panic ch=>∃v v',ch = [{ v:=v',recovered:=false }]∧bB G w ρ v' v∧K (.fm v) t h
    |_=>False
theorem PQ.qk:PQ E n K (QK E n K):=λ_ _ G ρ t h v v' hC hv hk=>⟨G,ρ,t,h,hC,v,v',rfl,hv,hk⟩
theorem Pp {ops:Array Oper}:∀(os:List Oper) (is:List I),os.mapM (oZ P n ops)=some is→∀(G:Nat→Prop) (ρ:List Value) (t:T) (h:H) (a:Act) (w:World),au E n G ρ t h a w →
  rx (Sat P) ow is t h K→wpList P ops (QK E n K) os a w:=by
 intro os
 induction os with
 |nil=>
  intro is hm G ρ t h a w hC hk;simp at hm;subst hm;exact wpList_nil ⟨G,ρ,t,h,hC,hk⟩
 |cons o os ih=>
  intro is hm G ρ t h a w hC hk;simp only [gJ,aK,aD,jW,aE] at hm;obtain ⟨i,hi,r,hr,rfl⟩:=hm;exact wpList_step λK' hK'=>sE ow hC hi hk (λa' w' G' ρ' t' h' hC' hk'=>hK' _ _ (ih r hr G' ρ' t' h' a' w' hC' hk')) PQ.qk
end
section
variable {P:Program} {t t':T} {h:H} {K:V→Prop} (ow:Nat→Bool)
theorem eN {x:O} (ht:∀s∈rM x,gs t' s=gs t s):gv t' x=gv t x:=by
 cases x with
 |s i=>exact ht i (by simp [rM])
 |g i=>rfl
 |k v=>cases v<;>rfl
theorem Nn:∀(cs:List V) (K:List D→T→H→Prop),Bf cs [] [] K→∃ds,K ds [] []∧∀(t:T) (h:H) (K':List D→T→H→Prop),K' ds t h→Bf cs t h K':=by
 intro cs
 induction cs with
 |nil=>intro K hk;exact ⟨[],hk,λt h K' hk=>hk⟩
 |cons x r ih=>
  intro K hk;cases x<;>(try simp only [iW,uK] at hk)<;>try (exact hk.elim)
  case d x=>
   obtain ⟨ds,h1,h2⟩:=ih _ hk;exact ⟨x :: ds,h1,λt h K' hk'=>by simp only [iW,uK];exact h2 t h _ hk'⟩
  case cl z rs=>
   obtain ⟨ds,h1,h2⟩:=ih _ hk;exact ⟨.sl z rs :: ds,h1,λt h K' hk'=>by simp only [iW,uK];exact h2 t h _ hk'⟩
  case fc f c=>
   cases c with
   |cons c0 c=>
    replace hk:(match wF (c0 :: c) with
     |some ds=>Bf r [] [] λxs t h=>K (.fc f ds :: xs) t h
     |none=>False):=hk
    cases hD:wF (c0 :: c) with
    |none=>rw [hD] at hk;exact hk.elim
    |some cd=>
     rw [hD] at hk;obtain ⟨ds,h1,h2⟩:=ih _ hk;exact ⟨.fc f cd :: ds,h1,λt h K' hk'=>by simp only [iW,uK,hD];exact h2 t h _ hk'⟩
   |nil=>
   replace hk:Bf r [] [] (λxs t h=>K (.fn f :: xs) t h):=hk
   obtain ⟨ds,h1,h2⟩:=ih _ hk;exact ⟨.fn f :: ds,h1,λt h K' hk'=>by simp only [iW,uK];exact h2 t h _ hk'⟩
theorem xS {α β:Type} {f g:β→α→β}:∀(l:List α) (b:β),(∀x∈l,∀b,f b x=g b x)→l.foldl f b=l.foldl g b:=by
 intro l
 induction l with
 |nil=>intro b _;rfl
 |cons x l ih=>intro b hx;simp only [cN];rw [hx x (by simp),ih _ (λy hy=>hx y (by simp [hy]))]
theorem Dc {α:Type} {f g:α→Bool}:∀(l:List α),(∀x∈l,f x=g x)→l.all f=l.all g:=by
 intro l
 induction l with
 |nil=>intro _;rfl
 |cons x l ih=>intro hx;simp only [lJ];rw [hx x (by simp),ih (λy hy=>hx y (by simp [hy]))]
def NC (h1 h:H):Prop:=∀(i:Nat) (b:B),get? h i=some b→b≠.no→get? h1 i=some b
def Qt (P:Program) (x:X) (t:T) (h:H) (v:V):Prop:=
 ∀(t':T) (h1:H),(∀s∈bZ x,gs t' s=gs t s)→NC h1 h→bz (Sat P) ow x t' h1 (λv' t'' h'=>v'=v∧t''=t'∧h'=h1) (λ_ _ _=>False)
theorem Gj {x:X} (hq:qx (Sat P) ow x t h K):∃v,K v∧Qt ow P x t h v:=by
  cases x<;>simp only [qx] at hq<;>try (exact hq.elim)
  case mv x=>
    refine ⟨_,hq,λt' _ ht _=>?_⟩
    simp only [bz,eN (x:=x) ht,true_and]
  case pk c x y=>
    simp only [bz] at hq
    split at hq
    · rename_i b hb
      cases b
      · refine ⟨_,hq,λt' _ ht _=>?_⟩
        simp only [bZ,aS] at ht
        simp only [bz,eN (x:=c) (λs hs=>ht s (.inl (.inl hs))),eN (x:=y) (λs hs=>ht s (.inr hs)),hb,sp,true_and]
      · refine ⟨_,hq,λt' _ ht _=>?_⟩
        simp only [bZ,aS] at ht
        simp only [bz,eN (x:=c) (λs hs=>ht s (.inl (.inl hs))),eN (x:=x) (λs hs=>ht s (.inl (.inr hs))),hb,sp,true_and]
    · exact hq.elim
  case bd zero ps=>
    simp only [bz,bo] at hq
    refine ⟨_,hq.2,λt' _ ht _=>?_⟩
    have hg:∀p∈ps,gv t' p.2.2=gv t p.2.2:=λp hp=>eN λs hs=>ht s (by simp only [bZ,aQ];exact ⟨p,hp,hs⟩)
    simp only [bz,bo]
    rw [xS (f:=λcs (p:Nat×Nat×O)=>lay cs p.1 (gv t' p.2.2).cs) (g:=λcs p=>lay cs p.1 (gv t p.2.2).cs) ps zero (λp hp b=>by rw [hg p hp]),
      Dc (g:=λp=>Nat.beq (gv t p.2.2).cs.length p.2.1&&Nat.ble (p.1+p.2.1) zero.length&&(gv t p.2.2).cs.all ev) ps (λp hp=>by rw [hg p hp])]
    exact ⟨hq.1,by simp only [ν]⟩
  case bs z zero n ps=>
    simp only [bo] at hq
    obtain ⟨h1,h2⟩:=hq
    obtain ⟨ds,h3,h4⟩:=Nn _ _ h2
    refine ⟨_,h3,λt' _ ht _=>?_⟩
    have hg:∀p∈ps,gv t' p.2=gv t p.2:=λp hp=>eN λs hs=>ht s (by simp only [bZ,aQ];exact ⟨p,hp,hs⟩)
    simp only [bz,bo]
    rw [xS (f:=λcs (p:Nat×O)=>lay cs (p.1*z) (gv t' p.2).cs) (g:=λcs p=>lay cs (p.1*z) (gv t p.2).cs) ps _ (λp hp b=>by rw [hg p hp]),
      Dc (g:=λp=>Nat.beq (gv t p.2).cs.length z&&Nat.ble (p.1*z+z) (n*z)&&(gv t p.2).cs.all ev) ps (λp hp=>by rw [hg p hp])]
    exact ⟨h1,h4 _ _ _ (zj (by simp only [ν]))⟩
  case ld x nn=>
    have e1:∀t':T,(∀s∈bZ (.ld x nn),gs t' s=gs t s)→gv t' x=gv t x:=λt' ht=>eN λs hs=>ht s (by simp [bZ,hs])
    simp only [bz,bo] at hq
    split at hq
    · rename_i id off hx
      split at hq
      · rename_i cs hg
        split at hq
        · split at hq
          · rename_i v hv
            exact ⟨_,hq,λt' _ ht hM=>by simp only [bz,e1 t' ht,hx,hM _ _ hg (by simp),hv,ν]⟩
          · exact hq.elim
        · exact ⟨_,hq.2,λt' _ ht hM=>by simp only [bz,bo,e1 t' ht,hx,hM _ _ hg (by simp),ν];exact ⟨hq.1,trivial⟩⟩
      · exact hq.elim
    · rename_i row off hx
      split at hq
      · split at hq
        · rename_i v hv
          exact ⟨_,hq,λt' _ ht _=>by simp only [bz,e1 t' ht,hx,hv,ν]⟩
        · exact hq.elim
      · exact ⟨_,hq.2,λt' _ ht _=>by simp only [bz,bo,e1 t' ht,hx,ν];exact ⟨hq.1,trivial⟩⟩
    · rename_i id z i off hx
      split at hq
      · rename_i z' rs hg
        obtain ⟨hz,row,hr,hq⟩:=hq
        split at hq
        · split at hq
          · rename_i v hv
            exact ⟨_,hq,λt' _ ht hM=>by simp only [bz,e1 t' ht,hx,hM _ _ hg (by simp)];exact ⟨hz,row,hr,by simp only [hv,ν]⟩⟩
          · exact hq.elim
        · exact ⟨_,hq.2,λt' _ ht hM=>by simp only [bz,bo,e1 t' ht,hx,hM _ _ hg (by simp)];exact ⟨hz,row,hr,hq.1,by simp only [ν]⟩⟩
      · rename_i z' rs i' row hg
        obtain ⟨hz,hq⟩:=hq
        split at hq
        · split at hq
          · rename_i v hv
            exact ⟨_,hq,λt' _ ht hM=>by simp only [bz,e1 t' ht,hx,hM _ _ hg (by simp)];exact ⟨hz,by simp only [hv,ν]⟩⟩
          · exact hq.elim
        · exact hq.elim
      · exact hq.elim
    · exact hq.elim
  case fa x off=>
    have e1:∀t':T,(∀s∈bZ (.fa x off),gs t' s=gs t s)→gv t' x=gv t x:=λt' ht=>eN λs hs=>ht s (by simp [bZ,hs])
    simp only [bz,cn] at hq
    revert hq
    (repeat' split)<;>intro hq<;>(try (exact hq.elim))
    all_goals exact ⟨_,hq,λt' _ ht _=>by simp only [bz,cn,e1 t' ht, *,ν]⟩
  case ia x i z=>
    have e1:∀t':T,(∀s∈bZ (.ia x i z),gs t' s=gs t s)→gv t' x=gv t x:=λt' ht=>eN λs hs=>ht s (by simp [bZ,hs])
    have e2:∀t':T,(∀s∈bZ (.ia x i z),gs t' s=gs t s)→gv t' i=gv t i:=λt' ht=>eN λs hs=>ht s (by simp [bZ,hs])
    simp only [bz] at hq
    split at hq
    · rename_i k nn hi
      split at hq
      · rename_i z' rows hx
        obtain ⟨row,h1,h2⟩:=hq
        exact ⟨_,h2,λt' _ ht _=>by simp only [bz,e1 t' ht,e2 t' ht,hx,hi];exact ⟨row,h1,by simp only [ν]⟩⟩
      · rename_i z' rows hx
        obtain ⟨row,h1,h2⟩:=hq
        exact ⟨_,h2,λt' _ ht _=>by simp only [bz,e1 t' ht,e2 t' ht,hx,hi];exact ⟨row,h1,by simp only [ν]⟩⟩
      · rename_i id hx
        split at hq
        · rename_i z' rs hg
          exact ⟨_,hq.2,λt' _ ht hM=>by simp only [bz,e1 t' ht,e2 t' ht,hx,hi,hM _ _ hg (by simp)];exact ⟨hq.1,by simp only [ν]⟩⟩
        · exact hq.elim
      · exact hq.elim
    · exact hq.elim
  case ja x i z m=>
    have e1:∀t':T,(∀s∈bZ (.ja x i z m),gs t' s=gs t s)→gv t' x=gv t x:=λt' ht=>eN λs hs=>ht s (by simp [bZ,hs])
    have e2:∀t':T,(∀s∈bZ (.ja x i z m),gs t' s=gs t s)→gv t' i=gv t i:=λt' ht=>eN λs hs=>ht s (by simp [bZ,hs])
    simp only [bz,cn] at hq
    split at hq
    · rename_i k nn hi
      split at hq
      · rename_i row off hx
        obtain ⟨sub,h1,h2⟩:=hq
        exact ⟨_,h2,λt' _ ht _=>by simp only [bz,e1 t' ht,e2 t' ht,hx,hi];exact ⟨sub,h1,by simp only [ν]⟩⟩
      · rename_i id off hx
        exact ⟨_,hq.2,λt' _ ht _=>by simp only [bz,cn,e1 t' ht,e2 t' ht,hx,hi];exact ⟨hq.1,by simp only [ν]⟩⟩
      · exact hq.elim
    · exact hq.elim
  case ml x k ks zv ok=>
    have e1:∀t':T,(∀s∈bZ (.ml x k ks zv ok),gs t' s=gs t s)→gv t' x=gv t x:=λt' ht=>eN λs hs=>ht s (by simp [bZ,hs])
    have e2:∀t':T,(∀s∈bZ (.ml x k ks zv ok),gs t' s=gs t s)→gv t' k=gv t k:=λt' ht=>eN λs hs=>ht s (by simp [bZ,hs])
    cases hms:Qe h (gv t x)
    case true=>rw [hms] at hq;exact hq.elim
    rw [hms] at hq
    simp only [ε,bz] at hq
    split at hq
    · rename_i id hx
      split at hq
      · rename_i es hg
        obtain ⟨h1,r,h2,h3⟩:=hq
        cases r with
        |none=>exact ⟨_,h3,λt' _ ht hM=>by simp only [bz,e1 t' ht,e2 t' ht,hx,hM _ _ hg (by simp)];exact ⟨h1,none,h2,by simp only [ν]⟩⟩
        |some p=>exact ⟨_,h3.2,λt' _ ht hM=>by simp only [bz,e1 t' ht,e2 t' ht,hx,hM _ _ hg (by simp)];exact ⟨h1,some p,h2,h3.1,by simp only [ν]⟩⟩
      · rename_i es hg
        obtain ⟨h1,r,h2,h3⟩:=hq
        cases r with
        |none=>exact ⟨_,h3,λt' _ ht hM=>by simp only [bz,e1 t' ht,e2 t' ht,hx,hM _ _ hg (by simp)];exact ⟨h1,none,h2,by simp only [ν]⟩⟩
        |some p=>exact ⟨_,h3.2,λt' _ ht hM=>by simp only [bz,e1 t' ht,e2 t' ht,hx,hM _ _ hg (by simp)];exact ⟨h1,some p,h2,h3.1,by simp only [ν]⟩⟩
      · rename_i es r l hg
        obtain ⟨h1,r,h2,h3⟩:=hq
        cases r with
        |none=>exact ⟨_,h3,λt' _ ht hM=>by simp only [bz,e1 t' ht,e2 t' ht,hx,hM _ _ hg (by simp)];exact ⟨h1,none,h2,by simp only [ν]⟩⟩
        |some p=>exact ⟨_,h3.2,λt' _ ht hM=>by simp only [bz,e1 t' ht,e2 t' ht,hx,hM _ _ hg (by simp)];exact ⟨h1,some p,h2,h3.1,by simp only [ν]⟩⟩
      · rename_i hg
        simp only [Qe,hx,hg] at hms
        cases hms
      · exact hq.elim
    · rename_i hx
      exact ⟨_,hq.2,λt' _ ht _=>by simp only [bz,e1 t' ht,e2 t' ht,hx];exact ⟨hq.1,by simp only [ν]⟩⟩
    · exact hq.elim
  case pu f x=>
    have e1:∀t':T,(∀s∈bZ (.pu f x),gs t' s=gs t s)→gv t' x=gv t x:=λt' ht=>eN λs hs=>ht s (by simp [bZ,hs])
    simp only [bz] at hq
    split at hq
    · rename_i v hv
      exact ⟨_,hq,λt' _ ht _=>by simp only [bz,e1 t' ht,hv,ν]⟩
    · exact hq.elim
  case lm x=>
    have e1:∀t':T,(∀s∈bZ (.lm x),gs t' s=gs t s)→gv t' x=gv t x:=λt' ht=>eN λs hs=>ht s (by simp [bZ,hs])
    simp only [bz] at hq
    split at hq
    · rename_i id hx
      split at hq
      · rename_i es hg
        exact ⟨_,hq,λt' _ ht hM=>by simp only [bz,e1 t' ht,hx,hM _ _ hg (by simp),ν]⟩
      · rename_i es hg
        exact ⟨_,hq,λt' _ ht hM=>by simp only [bz,e1 t' ht,hx,hM _ _ hg (by simp),ν]⟩
      · rename_i hg
        exact ⟨_,hq,λt' _ ht hM=>by simp only [bz,e1 t' ht,hx,hM _ _ hg (by simp),ν]⟩
      · rename_i hg
        exact ⟨_,hq,λt' _ ht hM=>by simp only [bz,e1 t' ht,hx,hM _ _ hg (by simp),ν]⟩
      · exact hq.elim
    · rename_i hx
      exact ⟨_,hq,λt' _ ht _=>by simp only [bz,e1 t' ht,hx,ν]⟩
    · exact hq.elim
  case bin op x y=>
    have e1:∀t':T,(∀s∈bZ (.bin op x y),gs t' s=gs t s)→gv t' x=gv t x:=λt' ht=>eN λs hs=>ht s (by simp [bZ,hs])
    have e2:∀t':T,(∀s∈bZ (.bin op x y),gs t' s=gs t s)→gv t' y=gv t y:=λt' ht=>eN λs hs=>ht s (by simp [bZ,hs])
    simp only [bz] at hq
    split at hq
    · rename_i aa bb hx hy
      split at hq
      · exact ⟨_,hq.2,λt' _ ht _=>by simp only [bz,e1 t' ht,e2 t' ht,hx,hy];exact ⟨hq.1,by simp only [ν]⟩⟩
      · exact hq.elim
    · rename_i k aa k' bb hx hy
      cases hsh:SL op
      rotate_left
      · rw [hsh] at hq
        simp only [δ] at hq
        exact ⟨_,hq.2,λt' _ ht _=>by simp only [bz,e1 t' ht,e2 t' ht,hx,hy,hsh,δ];exact ⟨hq.1,by simp only [ν]⟩⟩
      rw [hsh] at hq
      simp only [ε] at hq
      cases hk:Nat.beq (kn k) (kn k')
      · rw [hk] at hq;exact hq.elim
      · rw [hk] at hq
        simp only [δ] at hq
        split at hq<;>(try (exact hq.elim))
        · rcases hq with hq | hq
          · exact ⟨_,hq.2,λt' _ ht _=>by simp only [bz,e1 t' ht,e2 t' ht,hx,hy,hsh,ε,hk,δ,xh];exact .inl ⟨hq.1,by simp only [ν]⟩⟩
          · exact ⟨_,hq,λt' _ ht _=>by simp only [bz,e1 t' ht,e2 t' ht,hx,hy,hsh,ε,hk,δ,xh];exact .inr (by simp only [ν])⟩
        · rcases hq with hq | hq
          · exact ⟨_,hq.2,λt' _ ht _=>by simp only [bz,e1 t' ht,e2 t' ht,hx,hy,hsh,ε,hk,δ,xh];exact .inl ⟨hq.1,by simp only [ν]⟩⟩
          · exact ⟨_,hq,λt' _ ht _=>by simp only [bz,e1 t' ht,e2 t' ht,hx,hy,hsh,ε,hk,δ,xh];exact .inr (by simp only [ν])⟩
        · rcases hq with hq | hq
          · exact ⟨_,hq.2,λt' _ ht _=>by simp only [bz,e1 t' ht,e2 t' ht,hx,hy,hsh,ε,hk,δ,xh];exact .inl ⟨hq.1,by simp only [ν]⟩⟩
          · exact ⟨_,hq,λt' _ ht _=>by simp only [bz,e1 t' ht,e2 t' ht,hx,hy,hsh,ε,hk,δ,xh];exact .inr (by simp only [ν])⟩
        · obtain ⟨h0,hq⟩:=hq
          rcases hq with hq | hq
          · exact ⟨_,hq.2,λt' _ ht _=>by simp only [bz,e1 t' ht,e2 t' ht,hx,hy,hsh,ε,hk,δ,xh];exact ⟨h0,.inl ⟨hq.1,by simp only [ν]⟩⟩⟩
          · exact ⟨_,hq,λt' _ ht _=>by simp only [bz,e1 t' ht,e2 t' ht,hx,hy,hsh,ε,hk,δ,xh];exact ⟨h0,.inr (by simp only [ν])⟩⟩
        · exact ⟨_,hq.2,λt' _ ht _=>by simp only [bz,e1 t' ht,e2 t' ht,hx,hy,hsh,ε,hk,δ];exact ⟨hq.1,by simp only [ν]⟩⟩
        all_goals exact ⟨_,hq,λt' _ ht _=>by simp only [bz,e1 t' ht,e2 t' ht,hx,hy,hsh,ε,hk,δ,ν]⟩
    · exact hq.elim
  case eq ne st ks x y=>
    have e1:∀t':T,(∀s∈bZ (.eq ne st ks x y),gs t' s=gs t s)→gv t' x=gv t x:=λt' ht=>eN λs hs=>ht s (by simp [bZ,hs])
    have e2:∀t':T,(∀s∈bZ (.eq ne st ks x y),gs t' s=gs t s)→gv t' y=gv t y:=λt' ht=>eN λs hs=>ht s (by simp [bZ,hs])
    simp only [bz] at hq
    obtain ⟨h1,hq⟩:=hq
    unfold Tp at hq
    split at hq
    · rename_i e he
      exact ⟨_,hq,λt' _ ht _=>by simp only [bz,e1 t' ht,e2 t' ht,Tp,he,ν,ω];exact h1⟩
    · exact hq.elim
  case un op x=>
    have e1:∀t':T,(∀s∈bZ (.un op x),gs t' s=gs t s)→gv t' x=gv t x:=λt' ht=>eN λs hs=>ht s (by simp [bZ,hs])
    simp only [bz] at hq
    split at hq
    · rename_i b hx
      exact ⟨_,hq,λt' _ ht _=>by simp only [bz,e1 t' ht,hx,ν]⟩
    · rename_i k aa hx
      rcases hq with hq | hq
      · exact ⟨_,hq.2,λt' _ ht _=>by simp only [bz,e1 t' ht,hx,xh];exact .inl ⟨hq.1,by simp only [ν]⟩⟩
      · exact ⟨_,hq,λt' _ ht _=>by simp only [bz,e1 t' ht,hx,xh];exact .inr (by simp only [ν])⟩
    · exact hq.elim
  case cv k x=>
    have e1:∀t':T,(∀s∈bZ (.cv k x),gs t' s=gs t s)→gv t' x=gv t x:=λt' ht=>eN λs hs=>ht s (by simp [bZ,hs])
    simp only [bz] at hq
    split at hq
    · rename_i k' aa hx
      rcases hq with hq | hq
      · exact ⟨_,hq.2,λt' _ ht _=>by simp only [bz,e1 t' ht,hx,xh];exact .inl ⟨hq.1,by simp only [ν]⟩⟩
      · exact ⟨_,hq,λt' _ ht _=>by simp only [bz,e1 t' ht,hx,xh];exact .inr (by simp only [ν])⟩
    · exact hq.elim
  case ln x=>
    have e1:∀t':T,(∀s∈bZ (.ln x),gs t' s=gs t s)→gv t' x=gv t x:=λt' ht=>eN λs hs=>ht s (by simp [bZ,hs])
    split at hq
    · rename_i z r hx
      exact ⟨_,hq,λt' _ ht _=>by simp only [bz,e1 t' ht,hx];exact λ_=>by simp only [ν]⟩
    · rename_i z r hx
      exact ⟨_,hq,λt' _ ht _=>by simp only [bz,e1 t' ht,hx];exact λ_=>by simp only [ν]⟩
    · rename_i id hx
      split at hq
      · rename_i z r hg
        exact ⟨_,hq,λt' _ ht hM=>by simp only [bz,e1 t' ht,hx,hM _ _ hg (by simp)];exact λ_=>by simp only [ν]⟩
      · exact hq.elim
    · exact hq.elim
  case ls x=>
    have e1:∀t':T,(∀s∈bZ (.ls x),gs t' s=gs t s)→gv t' x=gv t x:=λt' ht=>eN λs hs=>ht s (by simp [bZ,hs])
    split at hq
    · rename_i r hx
      exact ⟨_,hq,λt' _ ht _=>by simp only [bz,e1 t' ht,hx];exact λ_=>by simp only [ν]⟩
    · exact hq.elim
  case mn x y=>
    have e1:∀t':T,(∀s∈bZ (.mn x y),gs t' s=gs t s)→gv t' x=gv t x:=λt' ht=>eN λs hs=>ht s (by simp [bZ,hs])
    have e2:∀t':T,(∀s∈bZ (.mn x y),gs t' s=gs t s)→gv t' y=gv t y:=λt' ht=>eN λs hs=>ht s (by simp [bZ,hs])
    simp only [bz] at hq
    split at hq
    · rename_i k aa k' bb hx hy
      exact ⟨_,hq,λt' _ ht _=>by simp only [bz,e1 t' ht,e2 t' ht,hx,hy,ν]⟩
    · exact hq.elim
  case mx x y=>
    have e1:∀t':T,(∀s∈bZ (.mx x y),gs t' s=gs t s)→gv t' x=gv t x:=λt' ht=>eN λs hs=>ht s (by simp [bZ,hs])
    have e2:∀t':T,(∀s∈bZ (.mx x y),gs t' s=gs t s)→gv t' y=gv t y:=λt' ht=>eN λs hs=>ht s (by simp [bZ,hs])
    simp only [bz] at hq
    split at hq
    · rename_i k aa k' bb hx hy
      exact ⟨_,hq,λt' _ ht _=>by simp only [bz,e1 t' ht,e2 t' ht,hx,hy,ν]⟩
    · exact hq.elim
  case ex x i=>
    have e1:∀t':T,(∀s∈bZ (.ex x i),gs t' s=gs t s)→gv t' x=gv t x:=λt' ht=>eN λs hs=>ht s (by simp [bZ,hs])
    simp only [bz] at hq
    revert hq
    (repeat' split)<;>intro hq<;>(try (exact hq.elim))
    all_goals exact ⟨_,hq,λt' _ ht _=>by simp only [bz,e1 t' ht, *,ν]⟩
  case nc x=>
    have e1:∀t':T,(∀s∈bZ (.nc x),gs t' s=gs t s)→gv t' x=gv t x:=λt' ht=>eN λs hs=>ht s (by simp [bZ,hs])
    simp only [bz] at hq
    revert hq
    (repeat' split)<;>intro hq<;>(try (exact hq.elim))
    all_goals first
      |exact ⟨_,hq,λt' _ ht _=>by simp only [bz,e1 t' ht, *,ν]⟩
      | (rename_i f c hg
         cases hb:Nat.blt f 2000000<;>rw [hb] at hq
         · exact hq.elim
         · exact ⟨_,hq,λt' _ ht _=>by simp only [bz,e1 t' ht,hg,hb,δ,ν]⟩)
  case ix x i=>
    have e1:∀t':T,(∀s∈bZ (.ix x i),gs t' s=gs t s)→gv t' x=gv t x:=λt' ht=>eN λs hs=>ht s (by simp [bZ,hs])
    have e2:∀t':T,(∀s∈bZ (.ix x i),gs t' s=gs t s)→gv t' i=gv t i:=λt' ht=>eN λs hs=>ht s (by simp [bZ,hs])
    simp only [bz] at hq
    split at hq
    · rename_i s k m hx hi
      obtain ⟨b,h1,h2⟩:=hq
      exact ⟨_,h2,λt' _ ht _=>by simp only [bz,e1 t' ht,e2 t' ht,hx,hi];exact ⟨b,h1,by simp only [ν]⟩⟩
    · exact hq.elim
  case mf f caps=>
    simp only [bz,bo] at hq
    refine ⟨_,hq.2,λt' _ ht _=>?_⟩
    have hg:∀p∈caps,gv t' p=gv t p:=λp hp=>eN λs hs=>ht s (by simp only [bZ,aQ];exact ⟨p,hp,hs⟩)
    simp only [bz,bo]
    rw [aj hg,Dc (g:=λx=>uV (gv t x)) caps (λp hp=>by rw [hg p hp])]
    exact ⟨hq.1,by simp only [ν]⟩
  case cf f args=>
    simp only [bo] at hq
    obtain ⟨h0,r,h2,h3⟩:=hq
    refine ⟨r,h3,λt' h1 ht _=>?_⟩
    have hg:∀p∈args,cM (gv t' p)=cM (gv t p):=λp hp=>by rw [eN λs hs=>ht s (by simp only [bZ,aQ];exact ⟨p,hp,hs⟩)]
    simp only [bz,bo]
    rw [aj hg]
    have h4:=gK.1 h0
    have h6:qO (Sat P) f (args.map λa=>cM (gv t a)) t' h1 (λv' t'' h'=>v'=r∧t''=t'∧h'=h1) (λ_ _ _=>False):=by
      simp only [qO,h4]
      exact h2.mono λo h' ⟨g1,g2⟩=>by subst g1 g2;simp only [ν]
    cases ow f
    · simp only [qH,h4,ε]
      exact h6
    · exact h6
  case ap x y z b=>
    have e1:∀t':T,(∀s∈bZ (.ap x y z b),gs t' s=gs t s)→K0 t' x=K0 t x:=λt' ht=>by
      have:=eN (t:=t) (t':=t') (x:=x) λs hs=>ht s (by simp [bZ,hs])
      cases x with
      |s i=>exact this
      |g i=>exact this
      |k v=>cases v<;>first | exact this | rfl
    have e2:∀t':T,(∀s∈bZ (.ap x y z b),gs t' s=gs t s)→gv t' y=gv t y:=λt' ht=>eN λs hs=>ht s (by simp [bZ,hs])
    split at hq
    · rename_i z' r hx
      have eg:K0 t (.k (.cl z' r)) = .cl z' r:=rfl
      simp only [bz,eg] at hq
      split at hq
      · rename_i z'' ys hy
        exact ⟨_,hq.2,λt' _ ht _=>by simp only [bz,e1 t' ht,e2 t' ht,hx,hy];exact ⟨hq.1,by simp only [ν]⟩⟩
      · rename_i z'' ys hy
        exact ⟨_,hq.2,λt' _ ht _=>by simp only [bz,e1 t' ht,e2 t' ht,hx,hy];exact ⟨hq.1,by simp only [ν]⟩⟩
      · exact hq.elim
    · rename_i z0 hx
      split at hq
      · rename_i z'' ys hy
        exact ⟨_,hq.2,λt' _ ht _=>by simp only [bz,e1 t' ht,e2 t' ht,hx,hy];exact ⟨hq.1,u5 (by simp only [ν])⟩⟩
      · rename_i z'' ys hy
        exact ⟨_,hq.2,λt' _ ht _=>by simp only [bz,e1 t' ht,e2 t' ht,hx,hy];exact ⟨hq.1,u5 (by simp only [ν])⟩⟩
      · exact hq.elim
    · exact hq.elim
  case ss x lo hi=>
    have e1:∀t':T,(∀s∈bZ (.ss x lo hi),gs t' s=gs t s)→gv t' x=gv t x:=λt' ht=>eN λs hs=>ht s (by simp [bZ,hs])
    have e2:∀t':T,(∀s∈bZ (.ss x lo hi),gs t' s=gs t s)→∀u,lo=some u→gv t' u=gv t u:=λt' ht u hu=>eN λs hs=>ht s (by simp [bZ,KV,hs,hu])
    have e3:∀t':T,(∀s∈bZ (.ss x lo hi),gs t' s=gs t s)→∀u,hi=some u→gv t' u=gv t u:=λt' ht u hu=>eN λs hs=>ht s (by simp [bZ,KV,hs,hu])
    cases lo with
    |none=>
      simp only [bz] at hq
      split at hq
      · rename_i k l hl
        cases hl
        split at hq
        · rename_i r hx
          exact ⟨_,hq.2,λt' _ ht _=>by simp only [bz,e1 t' ht,hx];exact ⟨hq.1,by simp only [ν]⟩⟩
        · exact hq.elim
      · rename_i k l hi hl
        cases hl
        split at hq
        · rename_i k' u hu
          split at hq
          · rename_i r hx
            exact ⟨_,hq.2,λt' _ ht _=>by simp only [bz,e1 t' ht,e3 t' ht _ rfl,hu,hx];exact ⟨hq.1,by simp only [ν]⟩⟩
          · exact hq.elim
        · exact hq.elim
      · exact hq.elim
    |some lo=>
      simp only [bz] at hq
      split at hq
      · rename_i k l hl
        split at hq
        · rename_i r hx
          exact ⟨_,hq.2,λt' _ ht _=>by simp only [bz,e1 t' ht,e2 t' ht _ rfl,hl,hx];exact ⟨hq.1,by simp only [ν]⟩⟩
        · exact hq.elim
      · rename_i k l hi hl
        split at hq
        · rename_i k' u hu
          split at hq
          · rename_i r hx
            exact ⟨_,hq.2,λt' _ ht _=>by simp only [bz,e1 t' ht,e2 t' ht _ rfl,e3 t' ht _ rfl,hl,hu,hx];exact ⟨hq.1,by simp only [ν]⟩⟩
          · exact hq.elim
        · exact hq.elim
      · exact hq.elim
  case s3 x lo hi m z=>
    replace hq:(∀i,gv t x≠.os i)∧bz (Sat P) ow (.s3 x lo hi m z) t h (λv _ _=>K v) λ_ _ _=>False:=by
      split at hq
      · exact hq.elim
      · rename_i hno
        exact ⟨hno,hq⟩
    obtain ⟨hno,hq⟩:=hq
    have hno':∀i,dv (gv t x)≠.os i:=λi hi=>by
      cases hg:gv t x<;>rw [hg] at hi<;>simp only [dv,reduceCtorEq,V.os.injEq] at hi
      subst hi
      exact hno _ hg
    have e1:∀t':T,(∀s∈bZ (.s3 x lo hi m z),gs t' s=gs t s)→gv t' x=gv t x:=λt' ht=>eN λs hs=>ht s (by simp [bZ,hs])
    have e2:∀t':T,(∀s∈bZ (.s3 x lo hi m z),gs t' s=gs t s)→∀u,lo=some u→gv t' u=gv t u:=λt' ht u hu=>eN λs hs=>ht s (by simp [bZ,KV,hs,hu])
    have e3:∀t':T,(∀s∈bZ (.s3 x lo hi m z),gs t' s=gs t s)→∀u,hi=some u→gv t' u=gv t u:=λt' ht u hu=>eN λs hs=>ht s (by simp [bZ,KV,hs,hu])
    have e4:∀t':T,(∀s∈bZ (.s3 x lo hi m z),gs t' s=gs t s)→∀u,m=some u→gv t' u=gv t u:=λt' ht u hu=>eN λs hs=>ht s (by simp [bZ,KV,hs,hu])
    cases lo with
    |none=>
      simp only [bz] at hq
      split at hq
      · rename_i k l hl
        cases hl
        split at hq
        · rename_i z' r hx
          exact ⟨_,hq.2,λt' _ ht _=>by simp only [bz,e1 t' ht,hx];exact ⟨hq.1,by simp only [ν]⟩⟩
        · rename_i z' r hx
          exact ⟨_,hq.2,λt' _ ht _=>by simp only [bz,e1 t' ht,hx];exact ⟨hq.1,by simp only [ν]⟩⟩
        · rename_i i hx;exact absurd hx (hno' i)
        · exact hq.elim
      · rename_i k l hi hl
        cases hl
        split at hq
        · rename_i k' u hu
          split at hq
          · rename_i z' r hx
            exact ⟨_,hq.2,λt' _ ht _=>by simp only [bz,e1 t' ht,e3 t' ht _ rfl,hu,hx];exact ⟨hq.1,by simp only [ν]⟩⟩
          · rename_i z' r hx
            exact ⟨_,hq.2,λt' _ ht _=>by simp only [bz,e1 t' ht,e3 t' ht _ rfl,hu,hx];exact ⟨hq.1,by simp only [ν]⟩⟩
          · rename_i i hx;exact absurd hx (hno' i)
          · exact hq.elim
        · exact hq.elim
      · rename_i k l hi m hl
        cases hl
        split at hq
        · rename_i k' u k'' u' hu hm
          split at hq
          · rename_i z' r hx
            exact ⟨_,hq.2,λt' _ ht _=>by simp only [bz,e1 t' ht,e3 t' ht _ rfl,e4 t' ht _ rfl,hu,hm,hx];exact ⟨hq.1,by simp only [ν]⟩⟩
          · rename_i z' r hx
            exact ⟨_,hq.2,λt' _ ht _=>by simp only [bz,e1 t' ht,e3 t' ht _ rfl,e4 t' ht _ rfl,hu,hm,hx];exact ⟨hq.1,by simp only [ν]⟩⟩
          · exact hq.elim
        · exact hq.elim
      · exact hq.elim
    |some lo=>
      simp only [bz] at hq
      split at hq
      · rename_i k l hl
        split at hq
        · rename_i z' r hx
          exact ⟨_,hq.2,λt' _ ht _=>by simp only [bz,e1 t' ht,e2 t' ht _ rfl,hl,hx];exact ⟨hq.1,by simp only [ν]⟩⟩
        · rename_i z' r hx
          exact ⟨_,hq.2,λt' _ ht _=>by simp only [bz,e1 t' ht,e2 t' ht _ rfl,hl,hx];exact ⟨hq.1,by simp only [ν]⟩⟩
        · rename_i i hx;exact absurd hx (hno' i)
        · exact hq.elim
      · rename_i k l hi hl
        split at hq
        · rename_i k' u hu
          split at hq
          · rename_i z' r hx
            exact ⟨_,hq.2,λt' _ ht _=>by simp only [bz,e1 t' ht,e2 t' ht _ rfl,e3 t' ht _ rfl,hl,hu,hx];exact ⟨hq.1,by simp only [ν]⟩⟩
          · rename_i z' r hx
            exact ⟨_,hq.2,λt' _ ht _=>by simp only [bz,e1 t' ht,e2 t' ht _ rfl,e3 t' ht _ rfl,hl,hu,hx];exact ⟨hq.1,by simp only [ν]⟩⟩
          · rename_i i hx;exact absurd hx (hno' i)
          · exact hq.elim
        · exact hq.elim
      · rename_i k l hi m hl
        split at hq
        · rename_i k' u k'' u' hu hm
          split at hq
          · rename_i z' r hx
            exact ⟨_,hq.2,λt' _ ht _=>by simp only [bz,e1 t' ht,e2 t' ht _ rfl,e3 t' ht _ rfl,e4 t' ht _ rfl,hl,hu,hm,hx];exact ⟨hq.1,by simp only [ν]⟩⟩
          · rename_i z' r hx
            exact ⟨_,hq.2,λt' _ ht _=>by simp only [bz,e1 t' ht,e2 t' ht _ rfl,e3 t' ht _ rfl,e4 t' ht _ rfl,hl,hu,hm,hx];exact ⟨hq.1,by simp only [ν]⟩⟩
          · exact hq.elim
        · exact hq.elim
      · exact hq.elim
end
section
variable {P:Program} {E:gR} {n:Nat} {G:Nat→Prop} {ρ:List Value} {t:T} {h:H} {a:Act} {w:World} {o:Oper} {b7:Act→World→Prop} {Q:Exit→Act→World→Prop}
theorem Jt {P:Program} {ty:TypeId} {op:Op} {cs:List V} (h:fq P ty op=some (.al cs)):∃t,op = .alloc t∧rZ P t=some cs:=by
  cases op
  case alloc t=>
    have al:(rZ P t).map X.al=some (.al cs)→∃t',Op.alloc t = .alloc t'∧rZ P t'=some cs:=λh=>by
      simp only [aG,X.al.injEq] at h
      obtain ⟨x,hx,rfl⟩:=h
      exact ⟨t,rfl,hx⟩
    simp only [fq] at h
    split at h
    · split at h
      · simp only [aK,aD] at h
        obtain ⟨zs,hz,h⟩:=h
        repeat' split at h
        all_goals cases h
      · exact al h
    · exact al h
  all_goals
    exfalso
    simp only [fq] at h
    repeat' split at h
    all_goals
      first
        |contradiction
        |(simp [aD] at h;done)
        | (simp [aD] at h
           obtain ⟨_,_,_,_,h⟩:=h
           (repeat' split at h)<;>simp at h)
        | (simp [aD] at h
           obtain ⟨_,_,_,_,_,h⟩:=h
           (repeat' split at h)<;>simp at h)
        | (simp [aD] at h
           obtain ⟨_,_,h⟩:=h
           (repeat' split at h)<;>simp at h)
theorem Js {P:Program} {ty:TypeId} {op:Op} {f:Nat} {oa:List O} (h:fq P ty op=some (.cf f oa)):∃c,op = .call c∧c.callee = .value (.func f)∧f<5000000∧args P c.args.toList c.argTypes.toList=some oa:=by
  cases op
  case call c=>
    obtain ⟨callee,as,ts⟩:=c
    cases callee with
    |value x=>
      cases x<;>simp only [fq] at h
      case func g=>
        split at h
        · rename_i hlt
          simp only [aG,X.cf.injEq] at h
          obtain ⟨oa,ha,rfl,rfl⟩:=h
          exact ⟨_,rfl,rfl,hlt,ha⟩
        · cases h
      all_goals
        simp [aD] at h
    |invoke r m=>cases h
    |builtin b=>
      exfalso
      cases b<;>simp only [fq] at h<;>(repeat' split at h)<;>first
        |contradiction
        |(simp [aD] at h;done)
        | (simp [aD] at h
           obtain ⟨_,_,h⟩:=h
           (repeat' split at h)<;>simp at h)
        | (simp [aD] at h
           obtain ⟨_,_,_,_,h⟩:=h
           (repeat' split at h)<;>simp at h)
  all_goals
    exfalso
    simp only [fq] at h
    repeat' split at h
    all_goals
      first
        |contradiction
        |(simp [aD] at h;done)
        | (simp [aD] at h
           obtain ⟨_,_,_,_,h⟩:=h
           (repeat' split at h)<;>simp at h)
        | (simp [aD] at h
           obtain ⟨_,_,_,_,_,h⟩:=h
           (repeat' split at h)<;>simp at h)
        | (simp [aD] at h
           obtain ⟨_,_,h⟩:=h
           (repeat' split at h)<;>simp at h)
theorem Jr {P:Program} {ty:TypeId} {op:Op} {pl:Nat} (h:fq P ty op=some (.mm pl)):∃t,op = .makeMap t none:=by
  cases op
  case makeMap t r=>
    cases r with
    |none=>exact ⟨t,rfl⟩
    |some r=>simp only [fq] at h;cases h
  all_goals
    exfalso
    simp only [fq] at h
    repeat' split at h
    all_goals
      first
        |contradiction
        |(simp [aD] at h;done)
        | (simp [aD] at h
           obtain ⟨_,_,_,_,h⟩:=h
           (repeat' split at h)<;>simp at h)
        | (simp [aD] at h
           obtain ⟨_,_,_,_,_,h⟩:=h
           (repeat' split at h)<;>simp at h)
        | (simp [aD] at h
           obtain ⟨_,_,h⟩:=h
           (repeat' split at h)<;>simp at h)
def xo (ρ:List Value) (i:Nat):Prop:=∃v,ρ[i]? = some v∧v≠undef
theorem dV.ref {v:Value} {x:V} (h:dV G w ρ v x):∀i∈ir x,xo ρ i:=by
 cases h<;>simp only [ir,cY,false_imp_iff,implies_true,aM,forall_eq]<;>(try exact ⟨_,‹_›,by simp [undef]⟩)
theorem dP.ref {v:Value} {x:V} (h:dP G w ρ v x):∀i∈kG x,xo ρ i:=by
 cases h with
 |k h=>intro i hi;exact h.ref i (by cases h<;>simpa [kG] using hi)
 |fc f u cs caps h0 h1 h2=>
  intro i hi;simp only [kG,aQ] at hi;obtain ⟨x,hx,hi⟩:=hi;obtain ⟨j,hxj⟩:=aq.1 hx;exact (h2 j x hxj).ref i hi
theorem dW.ref {v:Value} {x:V} (h:dW G w ρ v x):∀i∈jC x,xo ρ i:=by
 cases h with
 |c h=>
  intro i hi;refine h.ref i ?_;cases h with
  |k h=>cases h<;>simpa [jC] using hi
  |fc=>simpa [jC] using hi
 |ag cs vs h1 h2=>
  intro i hi;simp only [jC,aQ] at hi;obtain ⟨x,hx,hi⟩:=hi;obtain ⟨j,hxj⟩:=aq.1 hx;exact (h2 j x hxj).ref i hi
theorem bB.ref {v:Value} {x:V} (h:bB G w ρ v x):∀i∈eR x,xo ρ i:=by
 cases h with
 |o h=>
  intro i hi;refine h.ref i ?_;cases h with
  |c h=>cases h with
   |k h=>cases h<;>simpa [eR] using hi
   |fc=>simpa [eR] using hi
  |ag cs vs h1 h2=>simpa [eR] using hi
 |tu cs vs h1 h2=>
  intro i hi;simp only [eR,aQ] at hi;obtain ⟨x,hx,hi⟩:=hi;obtain ⟨j,hxj⟩:=aq.1 hx;exact (h2 j x hxj).ref i hi
theorem cm.ref {hd:Value} {x:B} (h:cm G w ρ hd x):∀i∈et x,xo ρ i:=by
 cases x with
 |no=>simp [et]
 |nw=>simp [et]
 |cells cs=>
  obtain ⟨b,arr,ty,rfl,h1,h2,h3⟩:=h;intro i hi;simp only [et,aQ] at hi;obtain ⟨x,hx,hi⟩:=hi;obtain ⟨j,hxj⟩:=aq.1 hx;exact (h3 j x hxj).ref i hi
 |mp es=>
  obtain ⟨r,arr,clk,rfl,h1,h2,h3,h4⟩:=h;intro i hi;simp only [et,aQ] at hi;obtain ⟨x,hx,hi⟩:=hi;obtain ⟨j,hxj⟩:=aq.1 hx;have hj:j<arr.size:=by rw [h2];exact (aA.1 hxj).1
  rcases aS.1 hi with hi | hi
  ·exact (h4 j _ x (aJ hj) hxj).1.ref i hi
  ·exact (h4 j _ x (aJ hj) hxj).2.ref i hi
 |dm es=>simp [et]
 |di es r l=>simp [et]
 |ms z es out it=>
  obtain ⟨⟨r,arr,clk,rfl,h1,h2,h3,h4,h5,h6,h7⟩,_⟩:=h;intro i hi
  match out,hi,h6,h7 with
  |some (j,v),hi,h6,h7=>
   have hj:j<arr.size:=by rw [h2];exact h6 j v rfl
   exact (h7 j v _ rfl (aJ hj)).ref i hi
 |rows z rs=>simp [et]
 |rx z rs k r=>
  obtain ⟨b,cap,arr,ty,rfl,h1,h2,h3,h4,h0,h5,h6⟩:=h;intro i hi;simp only [et,aQ] at hi;obtain ⟨x,hx,hi⟩:=hi;obtain ⟨j,hxj⟩:=aq.1 hx;exact (h6 j x hxj).ref i hi
theorem au.place (hC:au E n G ρ t h a w) {id:Nat} (hx:h[id]? = some .nw) (hid:E.ρ.length≤id) {hd:Value} {x:B} (hb:cm G w ρ hd x) (hf:∀b∈e9 hd x,E.w.heap.size≤b∧¬G b∧¬own ρ h b) :
  au E n G (ρ.set id hd) t (h.set id x) a w:=by
 have hO:=hC.ok;have hil:id<ρ.length:=by rw [hO.hr.len];exact (aA.1 hx).1
 have hihl:id<h.length:=(aA.1 hx).1;have hu:ρ[id]? = some undef:=by
  have:=hO.hr.rep id _ _ (aB hil) hx;rw [aB hil];exact κ some this
 have hne:∀j,xo ρ j→j≠id:=by
  rintro j ⟨v,h1,h2⟩ rfl
  rw [hu] at h1;cases h1;exact h2 rfl
 have hg:∀j,xo ρ j→(ρ.set id hd)[j]? = ρ[j]?:=λj hj=>by rw [bK,η (λe=>hne j hj e.symm)]
 have get:∀(j:Nat) (v:Value) (y:B),(ρ.set id hd)[j]? = some v→(h.set id x)[j]? = some y→(j≠id∧ρ[j]? = some v∧h[j]? = some y)∨(j=id∧v=hd∧y=x):=by
  intro j v y h1 h2;rw [bK] at h1 h2;split at h1
  ·rename_i hj;subst hj;rw [ζ rfl,ζ hihl] at h2;cases h1;cases h2;exact .inr ⟨rfl,rfl,rfl⟩
  ·rename_i hj;rw [η hj] at h2;exact .inl ⟨λe=>hj e.symm,h1,h2⟩
 have hown:∀b,own (ρ.set id hd) (h.set id x) b→own ρ h b∨b∈e9 hd x:=by
  rintro b ⟨j,v,y,h1,h2,h3,h4⟩
  rcases get j v y h1 h2 with ⟨_,g1,g2⟩ | ⟨_,rfl,rfl⟩
  ·exact .inl ⟨j,v,y,g1,g2,h3,h4⟩
  ·exact .inr h4
 refine ⟨⟨⟨by simp [hO.hr.len],λj v y h1 h2=>?_,λj j' v v' y y' b h1 h2 h3 h4 h5 h6 h7 h8=>?_,hO.hr.gl,λb hb ho=>?_,hO.hr.uH⟩,hO.gm,hO.go,λb hb=>?_,hO.frame,hO.size,hO.os,hO.tape,hO.out,λj v hv hs=>?_,by simpa using hO.hl,λr hr=>?_⟩,
  hC.df,hC.sz,λi=>(hC.tm i).mono (λ_ h=>h) (λ_ _=>rfl) (λj hj=>hg j ((hC.tm i).ref j hj))⟩
 ·rcases get j v y h1 h2 with ⟨_,g1,g2⟩ | ⟨rfl,rfl,rfl⟩
  ·have hr:=hO.hr.rep j v y g1 g2;exact hr.mono (λ_ h=>h) (λ_ _=>rfl) (λ_ _=>rfl) (λk hk=>hg k (hr.ref k hk))
  ·exact hb.mono (λ_ h=>h) (λ_ _=>rfl) (λ_ _=>rfl) (λk hk=>hg k (hb.ref k hk))
 ·rcases get j v y h1 h2 with ⟨hj,g1,g2⟩ | ⟨rfl,rfl,rfl⟩<;>rcases get j' v' y' h4 h5 with ⟨hj',k1,k2⟩ | ⟨rfl,rfl,rfl⟩
  ·exact hO.hr.nW j j' v v' y y' b g1 g2 h3 k1 k2 h6 h7 h8
  ·exact absurd ⟨j,v,y,g1,g2,h3,h7⟩ (hf b h8).2.2
  ·exact absurd ⟨j',v',y',k1,k2,h6,h8⟩ (hf b h7).2.2
  ·rfl
 ·rcases hown b ho with h1 | h1
  ·exact hO.hr.gd b hb h1
  ·exact (hf b h1).2.1 hb
 ·rcases hown b hb with h1 | h1
  ·exact hO.oo b h1
  ·exact .inl (hf b h1).1
 ·have hj:j≠id:=by
   have:=(aA.1 hv).1;omega
  rw [bK,η (λe=>hj e.symm)];exact hO.hand j v hv hs
 ·obtain ⟨g1,g2,g3⟩:=hO.sN r hr;refine ⟨g1,g2,λg4=>?_⟩;obtain ⟨j,v,y,h1,h2,h3,h4⟩:=g4;rcases get j v y h1 h2 with ⟨_,k1,k2⟩ | ⟨rfl,rfl,rfl⟩
  ·exact g3 ⟨j,v,y,k1,k2,h3,h4⟩
  ·exact hb.VW h3 h4 g1
theorem au.room (hC:au E n G ρ t h a w):∀k:Nat,∃ρ',au E n G ρ' t (h++List.replicate k .nw) a w
 |0=>⟨ρ,by simpa using hC⟩
 |k+1=>by
  obtain ⟨ρ',h1⟩:=hC.room k;refine ⟨ρ' ++ [undef],?_⟩;have:=h1.push (gY.refl w) undef .nw (by simp [f_,undef]) rfl;rw [List.replicate_succ',←bO];exact this
end
theorem k0 {x:V} (h:∀g c,x≠.fc g c):(∀f,tB f x=wj f x)∧kG x=ir x∧∀i,rp i x=vC i x:=by
 cases x<;>first | exact ⟨λ_=>rfl,rfl,λ_=>rfl⟩ | exact absurd rfl (h _ _)
theorem k1 {x:V} (h:∀c,x≠.ag c):(∀f,pS f x=tB f x)∧jC x=kG x∧∀i,qj i x=rp i x:=by
 cases x<;>first | exact ⟨λ_=>rfl,rfl,λ_=>rfl⟩ | exact absurd rfl (h _)
theorem k2 {x:V} (h:∀c,x≠.tu c):(∀f,gb f x=pS f x)∧eR x=jC x∧∀i,BV i x=qj i x:=by
 cases x<;>first | exact ⟨λ_=>rfl,rfl,λ_=>rfl⟩ | exact absurd rfl (h _)
theorem CW {f:Nat→Nat} {x:V} (h:∀i∈ir x,f i=i):wj f x=x:=by
 cases x<;>first | rfl | (simp only [wj];rw [h _ (by simp [ir])])
theorem p7 {f:Nat→Nat} {x:V} (h:∀i∈kG x,f i=i):tB f x=x:=by
 by_cases hx:∃g c,x=V.fc g c
 ·obtain ⟨g,c,rfl⟩:=hx;simp only [kG,aQ] at h;simp only [tB,fM (λx hx=>CW λi hi=>h i ⟨x,hx,hi⟩)]
 ·obtain ⟨e1,e2,_⟩:=k0 (λg c e=>hx ⟨g,c,e⟩);rw [e1];exact CW (by rw [←e2];exact h)
theorem CY {f:Nat→Nat} {x:V} (h:∀i∈jC x,f i=i):pS f x=x:=by
 by_cases hx:∃c,x=V.ag c
 ·obtain ⟨c,rfl⟩:=hx;simp only [jC,aQ] at h;simp only [pS,fM (λx hx=>p7 λi hi=>h i ⟨x,hx,hi⟩)]
 ·obtain ⟨e1,e2,_⟩:=k1 (λc e=>hx ⟨c,e⟩);rw [e1];exact p7 (by rw [←e2];exact h)
theorem CX {f:Nat→Nat} {x:B} (h:∀i∈et x,f i=i):eb f x=x:=by
 cases x with
 |ms z es out it=>
  cases out with
  |none=>rfl
  |some q=>simp only [eb,bA,p7 h]
 |cells c=>
  simp only [et,aQ] at h;simp only [eb,fM (λx hx=>p7 λi hi=>h i ⟨x,hx,hi⟩)]
 |mp c=>
  simp only [et,aQ,aS] at h;simp only [eb,fM (l:=c) (f:=λp=>(pS f p.1,pS f p.2)) (λx hx=>by
   rw [CY λi hi=>h i ⟨x,hx,.inl hi⟩,CY λi hi=>h i ⟨x,hx,.inr hi⟩])]
 |rx z rs k c=>
  simp only [et,aQ] at h;simp only [eb,fM (λx hx=>p7 λi hi=>h i ⟨x,hx,hi⟩)]
 |_=>rfl
theorem G4 {f g:Nat→Nat} {x:V} (h:∀i∈ir x,f i=g i):wj f x=wj g x:=by
 cases x<;>first | rfl | (simp only [wj];rw [h _ (by simp [ir])])
theorem tA {f g:Nat→Nat} {x:V} (h:∀i∈kG x,f i=g i):tB f x=tB g x:=by
 by_cases hx:∃g c,x=V.fc g c
 ·obtain ⟨F,c,rfl⟩:=hx;simp only [kG,aQ] at h;simp only [tB,aj (λx hx=>G4 λi hi=>h i ⟨x,hx,hi⟩)]
 ·obtain ⟨e1,e2,_⟩:=k0 (λg c e=>hx ⟨g,c,e⟩);rw [e1,e1];exact G4 (by rw [←e2];exact h)
theorem wm {f g:Nat→Nat} {x:V} (h:∀i∈jC x,f i=g i):pS f x=pS g x:=by
 by_cases hx:∃c,x=V.ag c
 ·obtain ⟨c,rfl⟩:=hx;simp only [jC,aQ] at h;simp only [pS,aj (λx hx=>tA λi hi=>h i ⟨x,hx,hi⟩)]
 ·obtain ⟨e1,e2,_⟩:=k1 (λc e=>hx ⟨c,e⟩);rw [e1,e1];exact tA (by rw [←e2];exact h)
theorem Pk {f g:Nat→Nat} {x:V} (h:∀i∈eR x,f i=g i):gb f x=gb g x:=by
 by_cases hx:∃c,x=V.tu c
 ·obtain ⟨c,rfl⟩:=hx;simp only [eR,aQ] at h;simp only [gb,aj (λx hx=>wm λi hi=>h i ⟨x,hx,hi⟩)]
 ·obtain ⟨e1,e2,_⟩:=k2 (λc e=>hx ⟨c,e⟩);rw [e1,e1];exact wm (by rw [←e2];exact h)
theorem Pj {f g:Nat→Nat} {x:B} (h:∀i∈et x,f i=g i):eb f x=eb g x:=by
 cases x with
 |ms z es out it=>
  cases out with
  |none=>rfl
  |some q=>simp only [eb,bA,tA h]
 |cells c=>
  simp only [et,aQ] at h;simp only [eb,aj (λx hx=>tA λi hi=>h i ⟨x,hx,hi⟩)]
 |mp c=>
  simp only [et,aQ,aS] at h;simp only [eb,aj (l:=c) (f:=λp=>(pS f p.1,pS f p.2)) (g:=λp=>(pS g p.1,pS g p.2)) (λx hx=>by
   rw [wm λi hi=>h i ⟨x,hx,.inl hi⟩,wm λi hi=>h i ⟨x,hx,.inr hi⟩])]
 |rx z rs k c=>
  simp only [et,aQ] at h;simp only [eb,aj (λx hx=>tA λi hi=>h i ⟨x,hx,hi⟩)]
 |_=>rfl
theorem G3 {f g:Nat→Nat} (x:V):wj f (wj g x)=wj (λi=>f (g i)) x:=by cases x<;>rfl
theorem lO {f g:Nat→Nat} (x:V):tB f (tB g x)=tB (λi=>f (g i)) x:=by
 cases x with
 |fc F c=>simp only [tB,dK];congr 1;exact aj λx _=>G3 x
 |_=>rfl
theorem s_ {f g:Nat→Nat} (x:V):pS f (pS g x)=pS (λi=>f (g i)) x:=by
 cases x with
 |ag c=>simp only [pS,dK];congr 1;exact aj λx _=>lO x
 |fc F c=>exact lO (.fc F c)
 |_=>rfl
theorem sy {f g:Nat→Nat} (x:V):gb f (gb g x)=gb (λi=>f (g i)) x:=by
 cases x with
 |tu c=>simp only [gb,dK];congr 1;exact aj λx _=>s_ x
 |ag c=>exact s_ (.ag c)
 |fc F c=>exact lO (.fc F c)
 |_=>rfl
theorem sx {f g:Nat→Nat} (x:B):eb f (eb g x)=eb (λi=>f (g i)) x:=by
 cases x with
 |ms z es out it=>
  cases out with
  |none=>rfl
  |some q=>simp only [eb,bA,lO]
 |cells c=>simp only [eb,dK];congr 1;exact aj λx _=>lO x
 |mp c=>simp only [eb,dK];congr 1;exact aj λx _=>by simp only [Function.comp,s_]
 |rx z rs k c=>simp only [eb,dK];congr 1;exact aj λx _=>lO x
 |_=>rfl
theorem zE {i:Nat} {x:V} (h:i∉ir x):vC i x=x:=by
 cases x<;>first | rfl | (simp only [ir,aM] at h;simp only [vC,fy (kQ h),ε])
theorem nO {i:Nat} {x:V} (h:i∉kG x):rp i x=x:=by
 by_cases hx:∃g c,x=V.fc g c
 ·obtain ⟨g,c,rfl⟩:=hx;simp only [kG,aQ,not_exists,not_and] at h;simp only [rp,fM (λx hx=>zE (h x hx))]
 ·obtain ⟨_,e2,e3⟩:=k0 (λg c e=>hx ⟨g,c,e⟩);rw [e3];exact zE (by rw [←e2];exact h)
theorem qC {i:Nat} {x:V} (h:i∉jC x):qj i x=x:=by
 by_cases hx:∃c,x=V.ag c
 ·obtain ⟨c,rfl⟩:=hx;simp only [jC,aQ,not_exists,not_and] at h;simp only [qj,fM (λx hx=>nO (h x hx))]
 ·obtain ⟨_,e2,e3⟩:=k1 (λc e=>hx ⟨c,e⟩);rw [e3];exact nO (by rw [←e2];exact h)
theorem Ho {i:Nat} {x:V} (h:i∉eR x):BV i x=x:=by
 by_cases hx:∃c,x=V.tu c
 ·obtain ⟨c,rfl⟩:=hx;simp only [eR,aQ,not_exists,not_and] at h;simp only [BV,fM (λx hx=>qC (h x hx))]
 ·obtain ⟨_,e2,e3⟩:=k2 (λc e=>hx ⟨c,e⟩);rw [e3];exact qC (by rw [←e2];exact h)
theorem Hl {i:Nat} {x:B} (h:i∉et x):gi i x=x:=by
 cases x with
 |ms z es out it=>
  cases out with
  |none=>rfl
  |some q=>simp only [gi,bA,nO h]
 |cells c=>
  simp only [et,aQ,not_exists,not_and] at h;simp only [gi,fM (λx hx=>nO (h x hx))]
 |mp c=>
  simp only [et,aQ,not_exists,not_and,aS,not_or] at h;simp only [gi,fM (l:=c) (f:=λp=>(qj i p.1,qj i p.2)) (λx hx=>by rw [qC (h x hx).1,qC (h x hx).2])]
 |rx z rs k c=>
  simp only [et,aQ,not_exists,not_and] at h;simp only [gi,fM (λx hx=>nO (h x hx))]
 |_=>rfl
theorem BS:∀(os:List Nat) (t:T),(∀i∈os,∀s,i∉eR (gs t s))→∀s,gs (os.foldl (λt i=>kF i t) t) s=gs t s:=by
 intro os
 induction os with
 |nil=>intro t _ s;rfl
 |cons i os ih=>
  intro t h s;have e:∀s,gs (kF i t) s=gs t s:=λs=>by rw [kF,qn _ rfl,Ho (h i (by simp) s)]
  rw [cN,ih (kF i t) (λj hj s=>by rw [e s];exact h j (by simp [hj]) s) s,e s]
theorem BU:∀(os:List Nat) (h:H) (i:Nat),(∀j∈os,∀b,h[i]? = some b→j∉et b)→(mW os h)[i]? = h[i]?:=by
 intro os
 induction os with
 |nil=>intro h i _;rfl
 |cons j os ih=>
  intro h i hc;have e:(h.map (gi j))[i]? = h[i]?:=by
   rw [aC];cases hb:h[i]? with
   |none=>rfl
   |some b=>rw [bA,Hl (hc j (by simp) b hb)]
  rw [mW,ih (h.map (gi j)) i (λk hk b hb=>hc k (by simp [hk]) b (by rw [←e];exact hb)),e]
theorem EP (h:H):∀(n:Nat) (l acc:List Nat),∀i∈acc,i∈reach h n l acc:=by
 intro n
 induction n with
 |zero=>intro l acc i hi;exact hi
 |succ n ih=>
  intro l acc i hi;cases l with
  |nil=>exact hi
  |cons j r=>
   simp only [reach];cases has acc j
   ·exact ih _ _ i (by simp [hi])
   ·exact ih _ _ i hi
theorem y4 {h h':H}:∀(n:Nat) (l acc:List Nat),(∀i∈reach h n l acc,get? h' i=get? h i)→reach h' n l acc=reach h n l acc:=by
 intro n
 induction n with
 |zero=>intro l acc _;rfl
 |succ n ih=>
  intro l acc hh;cases l with
  |nil=>rfl
  |cons j r=>
   simp only [reach] at hh ⊢;cases hj:has acc j
   ·rw [hj] at hh;simp only [ε] at hh ⊢;have e:=hh j (EP h n _ _ j (by simp));rw [e];exact ih _ _ hh
   ·rw [hj] at hh;simp only [δ] at hh ⊢;exact ih _ _ hh
theorem Rq {α:Type}:∀(l:List (Nat×α)) (a:List α),(l.map (·.1)).Nodup→(∀p∈l,p.1<a.length)→(l.foldl (λa p=>a.set p.1 p.2) a).length=a.length∧(∀p∈l,(l.foldl (λa p=>a.set p.1 p.2) a)[p.1]? = some p.2) ∧
  ∀i,(∀p∈l,p.1≠i)→(l.foldl (λa p=>a.set p.1 p.2) a)[i]? = a[i]?:=by
 intro l
 induction l with
 |nil=>intro a _ _;exact ⟨rfl,by simp,λ_ _=>rfl⟩
 |cons p l ih=>
  intro a hn hl;simp only [cH,cr] at hn;obtain ⟨g1,g2,g3⟩:=ih (a.set p.1 p.2) hn.2 (λq hq=>by simpa using hl q (by simp [hq]));refine ⟨by simpa using g1,λq hq=>?_,λi hi=>?_⟩
  ·rcases a8.1 hq with rfl | hq
   ·rw [cN,g3 q.1 (λp hp e=>hn.1 (bF.2 ⟨p,hp,e⟩)),bK,ζ rfl,ζ (hl q (by simp))]
   ·exact g2 q hq
  ·rw [cN,g3 i (λq hq=>hi q (by simp [hq])),bK,η (hi p (by simp))]
theorem Fk {α:Type} {nf:List Nat} {vs a:List α} (hl:nf.length=vs.length) (hn:nf.Nodup) (hlt:∀i∈nf,i<a.length) :
  ((nf.zip vs).foldl (λa p=>a.set p.1 p.2) a).length=a.length∧(∀(k i:Nat),nf[k]? = some i→((nf.zip vs).foldl (λa p=>a.set p.1 p.2) a)[i]? = vs[k]?)∧∀i,i∉nf→((nf.zip vs).foldl (λa p=>a.set p.1 p.2) a)[i]? = a[i]?:=by
 have e:(nf.zip vs).map (·.1)=nf:=eD (by omega);have hm:∀p∈nf.zip vs,p.1∈nf:=λp hp=>by rw [←e];exact bF.2 ⟨p,hp,rfl⟩
 obtain ⟨g1,g2,g3⟩:=Rq (nf.zip vs) a (by rw [e];exact hn) (λp hp=>hlt _ (hm p hp));refine ⟨g1,λk i hk=>?_,λi hi=>g3 i λp hp he=>hi (he ▸ hm p hp)⟩;have hkl:k<vs.length:=by rw [←hl];exact (aA.1 hk).1
 rw [aB hkl];have hp:(i,vs[k])∈nf.zip vs:=aq.2 ⟨k,by rw [iv];exact ⟨hk,aB hkl⟩⟩;exact g2 _ hp
section
variable {P:Program} {E:gR} {n:Nat} {G:Nat→Prop} {ρ:List Value} {t:T} {h:H} {a:Act} {w:World}
theorem au.move {ns:List B} (hC:au E n G ρ t (h++ns) a w) {nf:List Nat} (hl:nf.length=ns.length) (hnd:nf.Nodup) (hnw:∀i∈nf,h[i]? = some .nw) (hlo:∀i∈nf,E.ρ.length≤i) (hE:E.ρ.length≤h.length) (hEh:E.h.length≤h.length) {f:Nat→Nat}
  (hf1:∀k,k<h.length→f k=k) (hf2:∀(k i:Nat),nf[k]? = some i→f (h.length+k)=i) (hht:∀s,∀i∈eR (gs t s),i<h.length) (hhh:∀(i:Nat) (b:B),h[i]? = some b→∀j∈et b,j<h.length) :
  ∃ρ',au E n G ρ' t ((nf.zip (ns.map (eb f))).foldl (λa w=>a.set w.1 w.2) h) a w∧∀(v:Value) (x:V),bB G w ρ v x→bB G w ρ' v (gb f x):=by
 have hO:=hC.ok;have hlen:ρ.length=h.length+ns.length:=by rw [hO.hr.len,aL]
 have hnlt:∀i∈nf,i<h.length:=λi hi=>(aA.1 (hnw i hi)).1;obtain ⟨a1,a2,a3⟩:=Fk (vs:=ns.map (eb f)) (a:=h) (by simpa using hl) hnd hnlt;obtain ⟨b1,b2,b3⟩:=Fk (vs:= ρ.drop h.length) (a:= ρ.take h.length) (by simp;omega) hnd (λi hi=>by have:=hnlt i hi;simp;omega);generalize hh':(nf.zip (ns.map (eb f))).foldl (λa w=>a.set w.1 w.2) h=h' at *;generalize hρ':(nf.zip (ρ.drop h.length)).foldl (λa w=>a.set w.1 w.2) (ρ.take h.length)=ρ' at *;have bl:ρ'.length=h.length:=by rw [b1];simp;omega
 have b2':∀(k i:Nat),nf[k]? = some i→ρ'[i]? = ρ[h.length+k]?:=λk i hk=>by rw [b2 k i hk,aw]
 have b3':∀i,i∉nf→i<h.length→ρ'[i]? = ρ[i]?:=λi hi hlt=>by rw [b3 i hi,ae,ζ hlt]
 have hun:∀i,xo ρ i→i∉nf:=by
  rintro i ⟨v,h1,h2⟩ hi
  have hx:=hnw i hi;have hlt:=hnlt i hi;have:=hO.hr.rep i v .nw h1 (by rw [aO hlt];exact hx);exact h2 this
 have hg:∀i,xo ρ i→ρ'[f i]? = ρ[i]?:=by
  intro i hi;have hni:=hun i hi;obtain ⟨v,h1,_⟩:=hi;have hil:=(aA.1 h1).1
  by_cases hlt:i<h.length
  ·rw [hf1 i hlt,b3' i hni hlt]
  ·obtain ⟨j,hj⟩:∃j,nf[i - h.length]? = some j:=⟨_,aB (by omega)⟩
   have:=hf2 _ _ hj;have e:h.length+(i - h.length)=i:=by omega
   rw [e] at this;rw [this,b2' _ _ hj,e]
 have src:∀(i:Nat) (v:Value) (y:B),ρ'[i]? = some v→h'[i]? = some y→∃(o:Nat) (y0:B),ρ[o]? = some v∧(h++ns)[o]? = some y0∧(y0 = .no↔y = .no)∧gh y=gh y0∧((∃k,nf[k]? = some i∧o=h.length+k)∨(i∉nf∧o=i∧i<h.length))∧(cm G w ρ v y0→cm G w ρ' v y):=by
  intro i v y h1 h2;have hil:i<h.length:=by rw [←bl];exact (aA.1 h1).1
  by_cases hi:i∈nf
  ·obtain ⟨k,hk⟩:=aq.1 hi;rw [b2' k i hk] at h1;rw [a2 k i hk,aC,aG] at h2;obtain ⟨y0,hy,rfl⟩:=h2;refine ⟨h.length+k,y0,h1,by rw [aY (by omega)];simpa using hy,(k_ f y0).symm,nR f y0,.inl ⟨k,hk,rfl⟩,λhr=>?_⟩;exact hr.pT λj hj=>hg j (hr.ref j hj)
  ·rw [b3' i hi hil] at h1;rw [a3 i hi] at h2;refine ⟨i,y,h1,by rw [aO hil];exact h2,Iff.rfl,rfl,.inr ⟨hi,rfl,hil⟩,λhr=>?_⟩;exact hr.mono (λ_ h=>h) (λ_ _=>rfl) (λ_ _=>rfl) (λj hj=>by
    have:=hg j (hr.ref j hj);rwa [hf1 j (hhh i y h2 j hj)] at this)
 have back:∀b,own ρ' h' b→own ρ (h++ns) b:=by
  rintro b ⟨i,v,y,h1,h2,h3,h4⟩
  obtain ⟨o,y0,g1,g2,g3,g6,_⟩:=src i v y h1 h2;rw [e9,g6] at h4;exact ⟨o,v,y0,g1,g2,λe=>h3 (g3.1 e),h4⟩
 refine ⟨ρ',⟨⟨⟨by rw [bl,a1],λi v y h1 h2=>?_,λi i' v v' y y' b h1 h2 h3 h4 h5 h6 h7 h8=>?_,hO.hr.gl,λb hb ho=>hO.hr.gd b hb (back b ho),hO.hr.uH⟩,hO.gm,hO.go,λb hb=>hO.oo b (back b hb),hO.frame,hO.size,hO.os,hO.tape,hO.out,λi v hv hs=>?_,by rw [a1];exact hEh,λr hr=>let ⟨g1,g2,g3⟩:=hO.sN r hr;⟨g1,g2,λg4=>g3 (back r g4)⟩⟩,
  hC.df,hC.sz,λs=>(hC.tm s).mono (λ_ h=>h) (λ_ _=>rfl) (λj hj=>?_)⟩,λv x hx=>hx.pT λj hj=>hg j (hx.ref j hj)⟩
 ·obtain ⟨o,y0,g1,g2,_,_,_,g5⟩:=src i v y h1 h2;exact g5 (hO.hr.rep o v y0 g1 g2)
 ·obtain ⟨o,y0,g1,g2,g3,g6,g4,_⟩:=src i v y h1 h2;obtain ⟨o',y0',k1,k2,k3,k6,k4,_⟩:=src i' v' y' h4 h5;rw [e9,g6] at h7;rw [e9,k6] at h8;have hoo:=hO.hr.nW o o' v v' y0 y0' b g1 g2 (λe=>h3 (g3.1 e)) k1 k2 (λe=>h6 (k3.1 e)) h7 h8;rcases g4 with ⟨k,hk,rfl⟩ | ⟨_,rfl,hlt⟩<;>rcases k4 with ⟨k',hk',rfl⟩ | ⟨_,rfl,hlt'⟩
  ·have:k=k':=by omega
   subst this;rw [hk] at hk';exact an hk'
  ·omega
  ·omega
  ·exact hoo
 ·have h0:=hO.hand i v hv hs;have hiE:=(aA.1 hv).1;have hi:i∉nf:=λhi=>by have:=hlo i hi;omega
  rw [b3' i hi (by omega)];exact h0
 ·have:=hg j ((hC.tm s).ref j hj);rwa [hf1 j (hht s j hj)] at this
end
end Go.Vx
