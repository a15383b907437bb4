/- Lemmas. Conditions: none. -/
import Derived.Test.YtjpgfgajkjhonaaGreatDoorQRAF
import Derived.RangeFuncSeq
namespace Go.Vx
section pL
variable{G:Nat->Prop}{w:World}{ρ ρ':List Value}{f:Nat->Nat}
theorem dL.pL{v:Value}{x:V}(h:dL G w ρ v x)(y:∀i∈ij x,ρ'[f i]?=ρ[i]?):dL G w ρ' v (wW f x):=by
 cases h with
 |un=>exact .un _
 |ud=>exact .ud
 |d h=>exact .d h
 |p id off b h=>exact .p _ off b ((y id (by simp[ij])).trans h)
 |e b o off row U u g j=>exact .e b o off row U u g j
 |os id a n c h=>exact .os _ a n c ((y id (by simp[ij])).trans h)
 |q id z i off b n c h=>exact .q _ z i off b n c ((y id (by simp[ij])).trans h)
 |cl a n z rows h=>exact .cl a n z rows h
 |nl z=>exact .nl z
 |mp id r h=>exact .mp _ r ((y id (by simp[ij])).trans h)
 |ov id z i _ a n c h k=>exact .ov _ z i _ a n c ((y id (by simp[ij])).trans h) k
 |it id r m h=>exact .it _ r m ((y id (by simp[ij])).trans h)
theorem dI.pL{v:Value}{x:V}(h:dI G w ρ v x)(b:∀i∈kI x,ρ'[f i]?=ρ[i]?):dI G w ρ' v (sk f x):=by
 cases h with
 |k h=>
  have c:sk f x=wW f x:=by cases h<;>rfl
  have l:kI x=ij x:=by cases h<;>rfl
  rw[c];exact .k (h.pL (by grind))
 |fc g u cs caps d m e=>
  refine .fc g _ cs _ d (by grind) (λi x y=>?_);rw[aB]at y;cases z:caps[i]? with
  |none=>grind
  |some x0=>
   rw[z]at y;cases y;exact(e i x0 z).pL (λj p=>b j (by simp only[kI,aO];grind))
theorem dM.pL{v:Value}{x:V}(h:dM G w ρ v x)(u:∀i∈jJ x,ρ'[f i]?=ρ[i]?):dM G w ρ' v (pK f x):=by
 cases h with
 |c h=>
  have b:pK f x=sk f x:=by
   cases h with
   |k h=>cases h<;>rfl
   |fc=>rfl
  have e:jJ x=kI x:=by
   cases h with
   |k h=>cases h<;>rfl
   |fc=>rfl
  rw[b];exact .c (h.pL (by grind))
 |ag cs vs g d=>
  refine .ag cs _ (by grind) (λi x y=>?_);rw[aB]at y;cases z:vs[i]? with
  |none=>grind
  |some x0=>
   rw[z]at y;cases y;exact(d i x0 z).pL (λj l=>u j (by simp only[jJ,aO];grind))
theorem au.pL{v:Value}{x:V}(h:au G w ρ v x)(u:∀i∈eT x,ρ'[f i]?=ρ[i]?):au G w ρ' v (gS f x):=by
 cases h with
 |o h=>
  have b:gS f x=pK f x:=by
   cases h with
   |c h=>cases h with
    |k h=>cases h<;>rfl
    |fc=>rfl
   |ag=>rfl
  have e:eT x=jJ x:=by
   cases h with
   |c h=>cases h with
    |k h=>cases h<;>rfl
    |fc=>rfl
   |ag=>rfl
  rw[b];exact .o (h.pL (by grind))
 |tu cs vs g d=>
  refine .tu cs _ (by grind) (λi x y=>?_);rw[aB]at y;cases z:vs[i]? with
  |none=>grind
  |some x0=>
   rw[z]at y;cases y;exact(d i x0 z).pL (λj l=>u j (by simp only[eT,aO];grind))
theorem cY.pL{v:Value}{x:B}(h:cY G w ρ v x)(g:∀i∈eZ x,ρ'[f i]?=ρ[i]?):cY G w ρ' v (eR f x):=by
 cases x with
 |no=>trivial
 |nw=>exact h
 |cells cs=>
  obtain⟨b,arr,ty,rfl,d,A,m⟩:=h;refine⟨b,arr,ty,rfl,d,by grind,λi x y=>?_⟩;rw[aB]at y;cases c:cs[i]? with
  |none=>grind
  |some x0=>
   rw[c]at y;cases y;exact(m i x0 c).pL (λj p=>g j (by simp only[eZ,aO];grind))
 |mp es=>
  obtain⟨r,arr,clk,rfl,d,A,m,s⟩:=h;refine⟨r,arr,clk,rfl,d,by grind,m,λi e x he y=>?_⟩;rw[aB]at y;cases c:es[i]? with
  |none=>grind
  |some x0=>
   rw[c]at y;cases y;exact⟨(s i e x0 he c).1.pL (λj p=>g j (by simp only[eZ,aO];grind)),
    (s i e x0 he c).2.pL (λj p=>g j (by simp only[eZ,aO];grind))⟩
 |dm es=>exact cY.mono (x:=.dm es) h (λ_ h=>h) (λ_ _=>rfl) (λ_ _=>rfl) (λi q=>by cases q)
 |di es r l=>exact cY.mono (x:=.di es r l) h (λ_ h=>h) (λ_ _=>rfl) (λ_ _=>rfl) (λi q=>by cases q)
 |ms z es out it=>
  have d:=cY.mono (x:=.ms z es none it) (w':=w) (ρ':= ρ') ⟨j_.drop h.1,h.2⟩ (λ_ h=>h) (λ_ _=>rfl) (λ_ _=>rfl) (λi q=>by cases q);exact⟨d.1.outs h.1 (λi v u D hr=>hr.pL (λj p=>g j (by subst D;exact p))),h.2⟩
 |rows z rs=>exact h
 |rx z rs k r=>
  obtain⟨b,C,arr,ty,rfl,d,A,m,s,J,F,I⟩:=h;refine⟨b,C,arr,ty,rfl,d,A,m,s,by grind,F,λi x y=>?_⟩;rw[aB]at y;cases c:r[i]? with
  |none=>grind
  |some x0=>
   rw[c]at y;cases y;exact(I i x0 c).pL (λj p=>g j (by simp only[eZ,aO];grind))
theorem nH(f:Nat->Nat)(x:B):gh (eR f x)=gh x:=by cases x<;>rfl
theorem ka(f:Nat->Nat)(x:B):eR f x=.no<->x=.no:=by cases x<;>simp[eR]
theorem Po{f:Nat->Nat}{x:V}(h:ij x=[]):wW f x=x:=by cases x<;>simp[ij]at h<;>rfl
theorem fC{α:Type}{f:α->α}{l:List α}(h:∀x∈l,f x=x):l.map f=l:=by
 induction l with
 |nil=>rfl
 |cons x l y=>grind
theorem AZ{f:Nat->Nat}{x:V}(h:kI x=[]):sk f x=x:=by
 cases x with
 |fc g c=>
  simp only[kI,br]at h;simp only[sk,fC (λx y=>Po (h x y))]
 |p|os|q|mp|ov|it=>simp[kI,ij]at h
 |_=>rfl
theorem GJ{f:Nat->Nat}{x:V}(h:jJ x=[]):pK f x=x:=by
 cases x with
 |ag c=>
  simp only[jJ,br]at h;simp only[pK,fC (λx y=>AZ (h x y))]
 |fc g c=>exact AZ (x:=.fc g c) h
 |p|os|q|mp|ov|it=>simp[jJ,kI,ij]at h
 |_=>rfl
theorem AY{f:Nat->Nat}{x:V}(h:eT x=[]):gS f x=x:=by
 cases x with
 |tu c=>
  simp only[eT,br]at h;simp only[gS,fC (λx y=>GJ (h x y))]
 |ag c=>exact GJ (x:=.ag c) h
 |fc g c=>exact AZ (x:=.fc g c) h
 |p|os|q|mp|ov|it=>simp[eT,jJ,kI,ij]at h
 |_=>rfl
end pL
def NG(G:Nat->Prop)(w:World)(ρ:List Value)(e:Ending):Out->Prop
 |.ret r=>∃v,e=.returned v/\au G w ρ v r
 |.fg r=>∃v,e=.panicked [{v:=v,recovered:=false}]/\au G w ρ v r
def eo(P:Program)(f:Nat):Bool:=
 match P.funcs[f]? with
 |some fn=>fn.name != "runtime.NumGoroutine" && fn.body.isSome
 |none=>false
structure uz(P:Program)(f:Nat)(vs:List V)(h:H)(K:Out->H->Prop):Prop where
  ok:eo P f=true
  run:∀(G:Nat->Prop)(w:World)(ρ as:List Value),HR G w ρ h->as.length=vs.length->(∀(i:Nat)(x:V),vs[i]?=some x->au G w ρ (as.getD i undef) x) ->
    Calls P f as.toArray w λe w'=>∃(G':Nat->Prop)(ρ':List Value)(h':H)(out:Out),Ok ⟨w,G,ρ,h,[],[]⟩ G' w' ρ' h'/\NG G' w' ρ' e out/\K out h'
def Fw(r:Option Nat):Fence:={Fence.wide with round:=r}
def rW:D->Value
 |.int k n=>.int k n
 |.bool b=>.bool b
 |.str s=>.string ⟨s.toArray⟩
 |_=>undef
structure zZ(P:Program)(g:Nat)(caps:List V)(hb:H)(xs:List (List D)):Prop where
  ok:eo P g=true
  run:∀(ρ as:List Value)(l:Nat)(J:Nat->World->Prop)(Jx:World->Prop),as.length=caps.length ->
    (∀i W W',J i W->gK W W'->J i W')->(∀W W',Jx W->gK W W'->Jx W') ->
    (∀i W,J i W->∃G,HR G W ρ hb/\∀(j:Nat)(x:V),caps[j]?=some x->au G W ρ (as.getD j undef) x) ->
    (∀(i:Nat)(r:List D)(W1:World),xs[i]?=some r->J i W1->YieldAt (Fw none) 0 P l (r.map rW).toArray W1 λe W2=>(e=.returned (.bool true)/\J (i+1) W2)\/(e=.returned (.bool false)/\Jx W2)) ->
    ∀W,J 0 W->CallsIn (Fw none) 0 P g (#[.func (.yield l) #[] #[]]++as.toArray) W λe W'=>(∃v,e=.returned v)/\(J xs.length W'\/Jx W')
def Sat(P:Program)(f:Nat)(vs:List V)(h:H)(K:Out->H->Prop):Prop:=
 uz P f vs h K\/(5000000<=f/\∃(z:Nat)(xs:List (List D)),zZ P (f-5000000) vs h xs/\K (.ret (.d (.sl z xs))) [])
theorem uz.mono{P:Program}{f:Nat}{vs:List V}{h:H}{K K':Out->H->Prop}(hs:uz P f vs h K)(x:∀o h,K o h->K' o h):uz P f vs h K':=
 ⟨hs.1,λG w ρ as y z u=>(hs.2 G w ρ as y z u).mono λ_ _ ⟨G',ρ',v,out,a,b,c⟩=>⟨G',ρ',v,out,a,b,x _ _ c⟩⟩
theorem Sat.mono{P:Program}{f:Nat}{vs:List V}{h:H}{K K':Out->H->Prop}(hs:Sat P f vs h K)(x:∀o h,K o h->K' o h):Sat P f vs h K':=
 hs.imp (λh=>h.mono x) λ⟨y,z,xs,u,v⟩=>⟨y,z,xs,u,x _ _ v⟩
theorem Sat.fn{P:Program}{f:Nat}{vs:List V}{h:H}{K:KT}(hs:Sat P f vs h K)(x:f<5000000):uz P f vs h K:=
 hs.resolve_right λh=>absurd h.1 (by omega)
def bK(P:Program)(f:Nat)(vs:List V)(r:V):Prop:=Sat P f vs [] λout h=>out=.ret r/\h=[]
theorem bK.use{P:Program}{f:Nat}{vs:List V}{r:V}{K:KT}(hs:bK P f vs r)(x:K (.ret r) []):Sat P f vs [] K:=
 hs.mono λo h ⟨y,z⟩=>by grind
section back
theorem cK{l:List Nat}{i:Nat}:has l i=true<->i∈l:=by
 simp only[has,dR];simp_all
theorem iH{l:List Nat}(h:lu l=true):l.Nodup:=by
 induction l with
 |nil=>grind
 |cons x l y=>
  simp only[lu,aP,dF]at h;refine cm.2 ⟨λz=>?_,y h.2⟩;have:=cK.2 z
  grind
theorem sy{ids:List Nat}{i:Nat}(h:i∈ids):pos ids i<ids.length:=
 List.findIdx_lt_length_of_exists ⟨i,h,fV i⟩
theorem iA{ids:List Nat}{i:Nat}(h:i∈ids):ids[pos ids i]?=some i:=by
 have hl:=sy h;rw[aA hl];have:=List.findIdx_getElem (p:=Nat.beq i) (w:=hl);exact κ some (kH this).symm
theorem MK{ids:List Nat}(y:ids.Nodup){k i:Nat}(h:ids[k]?=some i):pos ids i=k:=by
 have x:=aJ h;have z:=iA x;have hl:=(aC.1 h).1;exact(List.getElem?_inj (sy x) y).1 (z.trans h.symm)
theorem sE{n k i:Nat}{ids:List Nat}(h:ids[k]?=some i):home n ids k=i:=by simp[home,get?_eq,h]
theorem xE{n k:Nat}{ids:List Nat}(h:ids.length<=k):home n ids k=n+k-ids.length:=by simp[home,get?_eq,gp h]
theorem Jo{ids:List Nat}{g:Nat->Nat}{h x:H}:(back ids g h x).length=h.length+(x.length-ids.length):=by simp[back]
theorem zQ{ids:List Nat}{g:Nat->Nat}{h y:H}{i:Nat}(z:i∉ids)(hl:i<h.length):(back ids g h y)[i]?=h[i]?:=by
 have x:has ids i=false:=by
  cases x:has ids i;rfl
  .exact absurd (cK.1 x) z
 simp only[back];rw[aT (by simp_all)]
 grind
theorem zS{ids:List Nat}{g:Nat->Nat}{h x:H}{i:Nat}(y:i∈ids)(hl:i<h.length)(z:ids.length<=x.length):(back ids g h x)[i]?=(x[pos ids i]?).map (eR g):=by
 have u:=cK.2 y;have v:=sy y;simp only[back];rw[aT (by simp_all)];simp[aA hl,u,get?_eq,aA (show pos ids i<x.length by omega)]
theorem zR{ids:List Nat}{g:Nat->Nat}{h x:H}{i:Nat}(hl:h.length<=i):(back ids g h x)[i]?=(x[ids.length+(i-h.length)]?).map (eR g):=by
 simp only[back];rw[aY (by simp_all)];simp_all
def fF(ids:List Nat)(ρ ρ':List Value):List Value:=
 (ρ.zipIdx.map λp=>bif has ids p.2 then(ρ'[pos ids p.2]?).getD undef else p.1)++ρ'.drop ids.length
theorem uP{ids:List Nat}{ρ ρ':List Value}:(fF ids ρ ρ').length=ρ.length+(ρ'.length-ids.length):=by simp[fF]
theorem uN{ids:List Nat}{ρ ρ':List Value}{i:Nat}(y:i∉ids)(hl:i<ρ.length):(fF ids ρ ρ')[i]?=ρ[i]?:=by
 have x:has ids i=false:=by
  cases x:has ids i;rfl
  .exact absurd (cK.1 x) y
 simp only[fF];rw[aT (by simp_all)]
 grind
theorem pF{ids:List Nat}{ρ ρ':List Value}{i:Nat}(x:i∈ids)(hl:i<ρ.length)(y:ids.length<=ρ'.length):(fF ids ρ ρ')[i]?=ρ'[pos ids i]?:=by
 have z:=cK.2 x;have u:=sy x;simp only[fF];rw[aT (by simp_all)]
 grind
theorem uO{ids:List Nat}{ρ ρ':List Value}{i:Nat}(hl:ρ.length<=i):(fF ids ρ ρ')[i]?=ρ'[ids.length+(i-ρ.length)]?:=by
 simp only[fF];rw[aY (by simp_all)];simp_all
theorem zP{ids:List Nat}(v:ids.Nodup){ρ ρ':List Value}(x:∀i∈ids,i<ρ.length)(y:ids.length<=ρ'.length)(k:Nat):(fF ids ρ ρ')[home ρ.length ids k]?=ρ'[k]?:=by
 by_cases z:k<ids.length
 .have u:=aA z;rw[sE u,pF (cP z) (x _ (cP z)) y,MK v u]
 .rw[xE (by omega),uO (by omega)]
  grind
end back
section
variable{P:Program}{E:gL}{n:Nat}{G:Nat->Prop}{ρ:List Value}{t:T}{h:H}{a:Act}{w:World}{o:Oper}{bV:Act->World->Prop}{Q:Exit->Act->World->Prop}{K KP:V->T->H->Prop}
theorem sD:∀(os:List Nat)(t:T)(K:T->Prop),HX os t K=K (os.foldl (λt i=>ju i t) t)
 |[],_,_=>rfl
 |i::os,t,K=>by simp[ET,jR,sD os]
theorem Lw(os:List Nat)(t:T)(i:Nat):∃f:V->V,gs (os.foldl (λt i=>ju i t) t) i=f (gs t i) /\
  ∀(G:Nat->Prop)(w:World)(ρ ρ2:List Value)(v:Value)(x:V),au G w ρ v x->(∀j∈os,∃v0,ρ[j]?=some v0/\kN v0=true)->(∀j,j∉os->ρ2[j]?=ρ[j]?)->ρ2.length=ρ.length->au G w ρ2 v (f x):=by
 induction os generalizing t with
 |nil=>
  refine⟨id,rfl,λG w ρ ρ2 v x hr _ u _=>hr.mono (λ_ h=>h) (λ_ _=>rfl) (λj _=>u j (by simp))⟩
 |cons j os e=>
  have⟨f,g,hr⟩:=e (ju j t);refine⟨λx=>f (Aw j x),?_,λG w ρ ρ2 v x c d u hl=>?_⟩
  .rw[cQ,g,ju,q6 _ rfl]
  .have⟨v0,y,z⟩:=d j (by simp);have l:j<ρ.length:=(aC.1 y).1;have m:j<ρ2.length:=by omega
   by_cases p:j∈os
   .refine hr G w ρ ρ2 v _ ?_ (λk b=>d k (by grind)) (λk b=>u k (by
     grind)) hl
    have:=c.tX (v1:=v0) y z;rwa[mh y]at this
   .refine hr G w (ρ.set j ρ2[j]) ρ2 v _ (c.tX y z) (λk b=>?_) (λk b=>?_) (by grind)
    grind
    grind
theorem HZ(os:List Nat)(h:H)(i:Nat):∃f:B->B,(mP os h)[i]?=(h[i]?).map f/\(∀x,f x=.no<->x=.no)/\(∀x,gh (f x)=gh x) /\
  ∀(G:Nat->Prop)(w:World)(ρ ρ2:List Value)(v:Value)(x:B),cY G w ρ v x->(∀j∈os,∃v0,ρ[j]?=some v0/\kN v0=true)->(∀j,j∉os->ρ2[j]?=ρ[j]?)->ρ2.length=ρ.length->cY G w ρ2 v (f x):=by
 induction os generalizing h with
 |nil=>
  refine⟨id,by simp[mP],λx=>Iff.rfl,λx=>rfl,λG w ρ ρ2 v x hr _ u _=>?_⟩
  by_cases l:x=.no
  .subst l;trivial
  .exact hr.mono (λ_ h=>h) (λ_ _=>rfl) (λ_ _=>rfl) (λj _=>u j (by simp))
 |cons j os m=>
  have⟨f,p,b,c,hr⟩:=m (h.map (gV j));refine⟨λx=>f (gV j x),?_,λx=>(b _).trans (by cases x<;>simp[gV]),λx=>(c _).trans (ny _ _),λG w ρ ρ2 v x e g u hl=>?_⟩
  .rw[mP,p,aB,Option.map_map];rfl
  .have⟨v0,y,z⟩:=g j (by simp);have q:j<ρ.length:=(aC.1 y).1;have r:j<ρ2.length:=by omega
   by_cases s:j∈os
   .refine hr G w ρ ρ2 v _ ?_ (λk d=>g k (by grind)) (λk d=>u k (by
     grind)) hl
    have:=e.tX (v1:=v0) y z;rwa[mh y]at this
   .refine hr G w (ρ.set j ρ2[j]) ρ2 v _ (e.tX y z) (λk d=>?_) (λk d=>?_) (by grind)
    grind
    grind
theorem lO(os:List Nat)(h:H):(mP os h).length=h.length:=by
 induction os generalizing h with
 |nil=>rfl
 |cons j os x=>rw[mP,x];simp
theorem HR.part(hr:HR G w ρ h){ids:List Nat}(L:ids.Nodup)(p:∀i∈ids,i<h.length)(jb:∀i∈ids,∀x,h[i]?=some x->∀j∈eZ x,j∈ids) :
  HR G w (ids.map λi=>(ρ[i]?).getD undef) (ids.map λi=>eR (pos ids) ((get? h i).getD .no)) /\
  (∀b,own (ids.map λi=>(ρ[i]?).getD undef) (ids.map λi=>eR (pos ids) ((get? h i).getD .no)) b->∃i v x,i∈ids/\ρ[i]?=some v/\h[i]?=some x/\x≠.no/\b∈eU v x):=by
 have M:=hr.len;have get:∀(k:Nat)(v:Value)(y:B),(ids.map λi=>(ρ[i]?).getD undef)[k]?=some v->(ids.map λi=>eR (pos ids) ((get? h i).getD .no))[k]?=some y ->
   ∃i x,ids[k]?=some i/\i∈ids/\ρ[i]?=some v/\h[i]?=some x/\y=eR (pos ids) x:=by
  intro k v y z u;simp only[aB,aG]at z u;obtain⟨i,q,rfl⟩:=z;obtain⟨D,l,rfl⟩:=u;rw[q]at l;cases l;have g:=aJ q;have hl:=p i g;refine⟨i,h[i],q,g,?_,aA hl,?_⟩
  grind
  .rw[get?_eq,aA hl];rfl
 have c:∀b,own (ids.map λi=>(ρ[i]?).getD undef) (ids.map λi=>eR (pos ids) ((get? h i).getD .no)) b->∃i v x,i∈ids/\ρ[i]?=some v/\h[i]?=some x/\x≠.no/\b∈eU v x:=by
  rintro b ⟨k,v,y,z,u,r,m⟩
  obtain⟨i,x,_,g,g1,d,rfl⟩:=get k v y z u;exact⟨i,v,x,g,g1,d,λe=>r ((ka _ _).2 e),by rw[eU,nH]at m;exact m⟩
 refine⟨⟨by simp,λk v y z u=>?_,λk N v v' y O b z u r m R S F I=>?_,hr.gl,λb U W=>?_,hr.sF⟩,c⟩
 .obtain⟨i,x,_,g,g1,d,rfl⟩:=get k v y z u;refine(hr.rep i v x g1 d).pL (λj X=>?_);have s:=jb i g x d j X;rw[aB,iA s]
  grind
 .obtain⟨i,x,J,g,g1,d,rfl⟩:=get k v y z u;obtain⟨D,Y,Z,hm',A,C,rfl⟩:=get N v' O m R;rw[eU,nH]at F I;have:=hr.oB i D v v' x Y b g1 d (λe=>r ((ka _ _).2 e)) A C (λe=>S ((ka _ _).2 e)) F I;subst this;exact(List.getElem?_inj (aC.1 J).1 L).1 (J.trans Z.symm)
 .have⟨i,v,x,_,g1,d,g3,g4⟩:=c b W;exact hr.gd b U ⟨i,v,x,g1,d,g3,g4⟩
theorem ak.back(hC:ak E n G ρ t h a w){ids:List Nat}(hn:ids.Nodup)(hlt:∀i∈ids,i<h.length)(hnn:∀i∈ids,h[i]?≠some B.no)(jb:∀i∈ids,∀x,h[i]?=some x->∀j∈eZ x,j∈ids)
    {G':Nat->Prop} {w':World} {ρ':List Value} {h':H} (hO:Ok ⟨w,G,ids.map λi=>(ρ[i]?).getD undef,ids.map λi=>eR (pos ids) ((get? h i).getD .no),[],[]⟩ G' w' ρ' h') :
    ak E n G' (fF ids ρ ρ') ((rowsOf h ids).foldl (λt i=>ju i t) t) (Vx.back ids (home h.length ids) (mP (rowsOf h ids) h) h') a w' /\
      ∀(v:Value)(x:V),au G' w' ρ' v x->au G' w' (fF ids ρ ρ') v (gS (home h.length ids) x):=by
  have⟨hP,hown⟩:=hC.ok.hr.part hn hlt jb
  have hr:=hC.ok.hr
  have hρl:=hr.len
  have hll:ids.length<=h'.length:=by simpa using hO.hl
  have hl':=hO.hr.len
  have hltρ:∀i∈ids,i<ρ.length:=λi hi=>by grind
  have hb2:=λk=>zP (ρ := ρ) (ρ':= ρ') hn hltρ (by omega) k
  rw[hρl]at hb2
  generalize hρc:(ids.map λi=>(ρ[i]?).getD undef)=ρc at *
  generalize hhc:(ids.map λi=>eR (pos ids) ((get? h i).getD .no))=hc at *
  have hoc:∀b,own ρc hc b->own ρ h b:=λb hb=>by
    have⟨i,v,x,_,g1,g2,g3,g4⟩:=hown b hb
    exact⟨i,v,x,g1,g2,g3,g4⟩
  have hold:∀b,b<w.heap.size->¬own ρc hc b->w'.heap[b]?=w.heap[b]?:=hO.frame
  have hGb:∀b,G b->w'.heap[b]?=w.heap[b]?:=λb hb=>hold b (hr.gl b hb) (λho=>hr.gd b hb (hoc b ho))
  have hGG:∀b,G b->G' b:=hO.gm
  have hsz:w.heap.size<=w'.heap.size:=hO.size
  have hoth:∀(i:Nat)(v:Value)(x:B)(b:Nat),i∉ids->ρ[i]?=some v->h[i]?=some x->x≠.no->b∈eU v x->b<w.heap.size/\(¬own ρc hc b)/\¬G' b/\¬own ρ' h' b:=by
    intro i v x b hi g1 g2 g3 g4
    have hb:=hr.lt g1 g2 g3 g4
    have hno:¬own ρc hc b:=λho=>by
      have⟨i',v',x',hm,k1,k2,k3,k4⟩:=hown b ho
      exact hi (by rw[hr.oB i i' v v' x x' b g1 g2 g3 k1 k2 k3 g4 k4];grind)
    refine⟨hb,hno,λhg=>?_,λho=>?_⟩
    · rcases hO.go b hg with h1|⟨_,h1|h1⟩
      · exact hr.gd b h1 ⟨i,v,x,g1,g2,g3,g4⟩
      grind
      grind
    · rcases hO.oo b ho with h1|h1
      grind
      grind
  have hos1:∀j∈rowsOf h ids,∃v0,ρ[j]?=some v0/\kN v0=true:=by
    intro j hj
    simp only[rowsOf,dh,get?_eq]at hj
    have⟨hjm,hjr⟩:=hj
    have hjl:=hlt j hjm
    have hx:=aA hjl
    rw[hx]at hjr
    have hv:=aA (hltρ j hjm)
    refine⟨_,hv,?_⟩
    have hrep:=hr.rep j _ _ hv hx
    simp only[bo]at hjr
    generalize(h:List B)[j]=x at *
    cases x<;>simp[BC]at hjr
    · rcases hrep with⟨he,_⟩|⟨_,_,_,_,he,_⟩<;>rw[he]<;>rfl
    · have⟨_,_,_,_,he,_⟩:=hrep;rw[he];rfl
  have hmid:∀j,j∉rowsOf h ids->((fF ids ρ ρ').take ρ.length)[j]?=ρ[j]?:=by
    intro j hjr
    rw[ao]
    by_cases hjl:j<ρ.length
    · rw [ζ hjl]
      by_cases hj:j∈ids
      · rw [pF hj hjl (by omega)]
        have hv:=aA hjl
        have hx:=aA (hlt j hj)
        have hns:kN ρ[j]=false:=by
          have hrep:=hr.rep j _ _ hv hx
          have hxn:=hnn j hj
          rw[hx]at hxn
          have hrw:j∈rowsOf h ids<->BC ((h:List B)[j]'(hlt j hj))=true:=by
            simp only[rowsOf,dh,get?_eq,hx,bo]
            grind
          generalize(h:List B)[j]'(hlt j hj)=x at *
          cases x with
          |no=>grind
          |nw=>
            have hu:_=undef:=hrep
            rw[hu];rfl
          |cells cs=>have⟨b,arr,ty,he,_⟩:=hrep;rw[he];rfl
          |mp es=>have⟨b,arr,clk,he,_⟩:=hrep;rw[he];rfl
          |dm es=>have⟨b,arr,clk,he,_⟩:=hrep;rw[he];rfl
          |di es r l=>have⟨⟨b,arr,clk,he,_⟩,_⟩:=hrep;rw[he];rfl
          |ms z es out it=>have⟨⟨b,arr,clk,he,_⟩,_⟩:=hrep;rw[he];rfl
          |rows z rs=>exact absurd (hrw.2 rfl) hjr
          |rx z rs k r=>exact absurd (hrw.2 rfl) hjr
        rw[hv]
        refine hO.hand (pos ids j) _ ?_ hns
        show ρc[pos ids j]?=_
        rw[<-hρc]
        simp only[aB,iA hj,bE,hv,bo]
      · exact uN hj hjl
    grind
  have htl:((fF ids ρ ρ').take ρ.length).length=ρ.length:=by rw[bC,uP];omega
  have hext:∀i,i<ρ.length->(fF ids ρ ρ')[i]?=((fF ids ρ ρ').take ρ.length)[i]?:=λi hi=>by grind
  have hren:∀(v:Value)(x:V),au G' w' ρ' v x->au G' w' (fF ids ρ ρ') v (gS (home h.length ids) x):=λv x hv=>hv.pL (λi _=>hb2 i)
  have hbl:(Vx.back ids (home h.length ids) (mP (rowsOf h ids) h) h').length=h.length+(h'.length-ids.length):=by rw[Jo,lO]
  have get:∀(i:Nat)(v:Value)(y:B),(fF ids ρ ρ')[i]?=some v->(Vx.back ids (home h.length ids) (mP (rowsOf h ids) h) h')[i]?=some y ->
      (i∉ids/\ρ[i]?=some v/\∃(x:B)(f:B->B),h[i]?=some x/\y=f x/\(f x=.no<->x=.no)/\gh (f x)=gh x/\(cY G' w' ρ v x->cY G' w' (fF ids ρ ρ') v y)) \/
      (∃k x,home h.length ids k=i/\ρ'[k]?=some v/\h'[k]?=some x/\y=eR (home h.length ids) x):=by
    intro i v y h1 h2
    by_cases hil:i<h.length
    · by_cases hi:i∈ids
      · rw[pF hi (by omega) (by omega)]at h1
        rw[zS hi (by rw[lO];grind) hll]at h2
        simp only[aG]at h2
        obtain⟨x,hx,rfl⟩:=h2
        exact .inr ⟨pos ids i,x,sE (iA hi),h1,hx,rfl⟩
      · rw[uN hi (by omega)]at h1
        rw[zQ hi (by rw[lO];grind)]at h2
        have⟨f,hf,hno,hgf,hrf⟩:=HZ (rowsOf h ids) h i
        rw[hf]at h2
        simp only[aG]at h2
        obtain⟨x,hx,rfl⟩:=h2
        refine .inl ⟨hi,h1,x,f,hx,rfl,hno x,hgf x,λhrep=>?_⟩
        have h3:=hrf G' w' ρ _ v x hrep hos1 hmid htl
        by_cases hfx:f x=.no
        · rw[hfx];trivial
        · exact h3.mono (λ_ h=>h) (λ_ _=>rfl) (λ_ _=>rfl) (λj hj=>hext j (by have:=h3.lt j hj;omega))
    · rw[uO (by omega)]at h1
      rw[zR (by rw[lO];omega),lO]at h2
      simp only[aG]at h2
      obtain⟨x,hx,rfl⟩:=h2
      rw[hρl]at h1
      exact .inr ⟨_,x,by rw[xE (by omega)];omega,h1,hx,rfl⟩
  have hOk:Ok E G' w' (fF ids ρ ρ') (Vx.back ids (home h.length ids) (mP (rowsOf h ids) h) h'):=by
    have hownb:∀b,own (fF ids ρ ρ') (Vx.back ids (home h.length ids) (mP (rowsOf h ids) h) h') b->(own ρ h b\/w.heap.size<=b)/\¬G' b:=by
      rintro b ⟨i,v,y,h1,h2,h3,h4⟩
      rcases get i v y h1 h2 with⟨hi,g1,x,f,g2,rfl,g4,g6,_⟩|⟨k,x,_,g1,g2,rfl⟩
      · rw[eU,g6]at h4
        have hxn:x≠.no:=λe=>h3 (g4.2 e)
        exact⟨.inl ⟨i,v,x,g1,g2,hxn,h4⟩,(hoth i v x b hi g1 g2 hxn h4).2.2.1⟩
      · rw[eU,nH]at h4
        have hxn:x≠.no:=λe=>h3 ((ka _ _).2 e)
        have ho:own ρ' h' b:=⟨k,v,x,g1,g2,hxn,h4⟩
        refine⟨?_,λhg=>hO.hr.gd b hg ho⟩
        rcases hO.oo b ho with h5|h5
        grind
        grind
    refine⟨⟨by rw[uP,hbl];omega,λi v y h1 h2=>?_,λi i' v v' y y' b h1 h2 h3 h4 h5 h6 h7 h8=>?_,hO.hr.gl,λb hb ho=>(hownb b ho).2 hb,hO.hr.sF⟩,λb hb=>hGG b (hC.ok.gm b hb),λb hb=>?_,λb hb=>?_,
      λb hb hnb=>?_,aV hC.ok.size hsz,hO.os.trans hC.ok.os,hO.tape.trans hC.ok.tape,hO.out.trans hC.ok.out,λi v hv hs=>?_,by rw[hbl];have:=hC.ok.hl;omega,λr hr'=>?_⟩
    · rcases get i v y h1 h2 with⟨hi,g1,x,f,g2,rfl,g4,_,g5⟩|⟨k,x,_,g1,g2,rfl⟩
      · by_cases hxn:x=.no
        · rw[g4.2 hxn];trivial
        · exact g5 ((hr.rep i v x g1 g2).mono hGG hGb (λb hb=>by
            grind) (λ_ _=>rfl))
      · exact(hO.hr.rep k v x g1 g2).pL (λj _=>hb2 j)
    · rcases get i v y h1 h2 with⟨hi,g1,x,f,g2,rfl,g4,g6,_⟩|⟨k,x,e1,g1,g2,rfl⟩<;>rcases get i' v' y' h4 h5 with⟨hi',k1,x',f',k2,rfl,k4,k6,_⟩|⟨k',x',e2,k1,k2,rfl⟩
      · rw[eU,g6]at h7
        rw[eU,k6]at h8
        exact hr.oB i i' v v' x x' b g1 g2 (λe=>h3 (g4.2 e)) k1 k2 (λe=>h6 (k4.2 e)) h7 h8
      · rw[eU,g6]at h7
        rw[eU,nH]at h8
        exact absurd ⟨k',v',x',k1,k2,λe=>h6 ((ka _ _).2 e),h8⟩ (hoth i v x b hi g1 g2 (λe=>h3 (g4.2 e)) h7).2.2.2
      · rw[eU,nH]at h7
        rw[eU,k6]at h8
        exact absurd ⟨k,v,x,g1,g2,λe=>h3 ((ka _ _).2 e),h7⟩ (hoth i' v' x' b hi' k1 k2 (λe=>h6 (k4.2 e)) h8).2.2.2
      · rw[eU,nH]at h7 h8
        have:=hO.hr.oB k k' v v' x x' b g1 g2 (λe=>h3 ((ka _ _).2 e)) k1 k2 (λe=>h6 ((ka _ _).2 e)) h7 h8
        grind
    · rcases hO.go b hb with h1|⟨hc,h1|h1⟩
      · exact(hC.ok.go b h1).imp (λh=>h) λh2=>⟨h2.1.same (hGb b h1),h2.2⟩
      · exact .inr ⟨hc,.inl (aV hC.ok.size h1)⟩
      · exact .inr ⟨hc,hC.ok.oo b (hoc b h1)⟩
    · rcases(hownb b hb).1 with h1|h1
      · exact hC.ok.oo b h1
      · exact .inl (aV hC.ok.size h1)
    · have hbw:b<w.heap.size:=b9 hb hC.ok.size
      rw[hold b hbw (λho=>?_)]
      · exact hC.ok.frame b hb hnb
      · rcases hC.ok.oo b (hoc b ho)with h1|h1
        grind
        grind
    · have h0:=hC.ok.hand i v hv hs
      grind
    · have⟨h1,h2,h3⟩:=hC.ok.sC r hr'
      have hlt:=(aQ.1 h1).1
      refine⟨(hold r hlt λho=>h3 (hoc r ho)).trans h1,λh4=>?_,λh4=>?_⟩
      · rcases hO.go r h4 with h5|⟨_,h5|h5⟩
        grind
        grind
        grind
      grind
  refine⟨⟨hOk,hC.df,hC.sz,λi=>?_⟩,hren⟩
  have⟨f,hf,hrf⟩:=Lw (rowsOf h ids) t i
  rw[hf]
  have h3:=hrf G' w' ρ _ _ _ ((hC.tm i).mono hGG hGb (λ_ _=>rfl)) hos1 hmid htl
  exact h3.mono (λ_ h=>h) (λ_ _=>rfl) (λj hj=>hext j (by have:=h3.lt j hj;omega))
end
section
variable{P:Program}{E:gL}{n:Nat}{G:Nat->Prop}{ρ:List Value}{t:T}{h:H}{a:Act}{w:World}{o:Oper}{bV:Act->World->Prop}{Q:Exit->Act->World->Prop}{K KP:V->T->H->Prop}
def SE(E:gL)(n:Nat)(a:Act)(KP:V->T->H->Prop)(Q:Exit->Act->World->Prop):Prop:=
 ∀(v':Value)(w':World)(G':Nat->Prop)(ρ':List Value)(t':T)(x:H)(v:V),ak E n G' ρ' t' x a w'->au G' w' ρ' v' v->KP v t' x->Q (.panic [{v:=v',recovered:=false}]) a w'
theorem Mm{v:Value}{x:V}(y:dL G w ρ v x):dL G w ρ v (clean x):=by
 cases y with
 |cl a n z rows h=>exact .d h
 |nl z=>exact .d (.xg z)
 |un=>exact .un _
 |ud=>exact .ud
 |d h=>exact .d h
 |p id off b h=>exact .p id off b h
 |e b o off row U u g j=>exact .e b o off row U u g j
 |os id a n c h=>exact .os id a n c h
 |q id z i off b n c h=>exact .q id z i off b n c h
 |mp id r h=>exact .mp id r h
 |ov id z i _ a n c h y=>exact .ov id z i _ a n c h y
 |it id r m h=>exact .it id r m h
theorem xP{v:Value}{x:V}(z:dI G w ρ v x):dI G w ρ v (clean x):=by
 cases z with
 |k h=>exact .k (Mm h)
 |fc f u cs caps y b e=>
  cases caps with
  |nil=>
   rw[xL y (by grind)];exact .k (.d (.fn f))
  |cons c r=>exact .fc f _ cs _ y b e
theorem qd{v:Value}{x:V}(d:au G w ρ v x):au G w ρ v (cH x):=by
 cases d with
 |o h=>cases h with
  |c h=>
   have:cH x=clean x:=by
    cases h with
    |k h=>cases h<;>rfl
    |fc=>rfl
   rw[this];exact .o (.c (xP h))
  |ag cs vs u y=>
   refine .o (.ag cs _ (by grind) (λi x z=>?_));rw[aB]at z;cases b:vs[i]? with
   |none=>grind
   |some x0=>rw[b]at z;cases z;exact xP (y i x0 b)
 |tu cs vs u y=>exact .tu cs vs u y
theorem sG{K:T->H->List V->Prop}:∀(ids:List Nat)(G:Nat->Prop)(t:T)(h:H)(vs:List V)(U:Nat->Value),ak E n G ρ t h a w->(∀(i:Nat)(x:V),vs[i]?=some x->au G w ρ (U i) x)->tq ids t h vs K ->
  ∃(G':Nat->Prop)(t':T)(e:H)(vs':List V),ak E n G' ρ t' e a w/\vs'.length=vs.length/\(∀(i:Nat)(x:V),vs'[i]?=some x->au G' w ρ (U i) x)/\K t' e vs':=by
 intro ids
 induction ids with
 |nil=>intro G t h vs U g j y;exact⟨G,t,h,vs,g,rfl,j,y⟩
 |cons id ids m=>
  intro G t h vs U g j y;simp only[ve,Ch,get?_eq]at y;split at y
  .rename_i z rs k;simp only[pC,jR,f_]at y;have⟨v0,u,hd,v⟩:=g.free k;have⟨G',t',e,vs',g1,p,g3,q⟩:=m _ _ _ _ U v (λi x c=>by
    rw[aB]at c;cases d:vs[i]? with
    |none=>grind
    |some x0=>rw[d]at c;cases c;exact(j i x0 d).sub u (λb l=>.inl l) hd) y
   grind
  .rename_i cs k;split at y
   .rename_i ds r;simp only[pC,jR,f_]at y;have⟨v0,u,hd,v⟩:=g.UG k r;have⟨G',t',e,vs',g1,p,g3,q⟩:=m _ _ _ _ U v (λi x c=>by
     rw[aB]at c;cases d:vs[i]? with
     |none=>grind
     |some x0=>rw[d]at c;cases c;exact(j i x0 d).sub u (λb l=>.inl l) hd) y
    grind
   grind
  grind
theorem xS(S:ak E n G ρ t h a w)(hn:iQ E n a o K bV)(hp:SE E n a KP Q){f:Nat}(d:f<5000000){as:Array Value}{vs:List V}(U:eo P f=true->(execOp a.eval o).run P w=.ok (.enter f as) w)(hl:as.size=vs.length)
  (hv:∀(i:Nat)(x:V),vs[i]?=some x->au G w ρ (as.getD i undef) x) (c:qA (Sat P) f vs t h K KP):o.wp P a w bV Q:=by
 have s:∀{R:Ending->World->Prop},eo P f=true->Calls P f as w R->(∀e w',R e w'->match e with
   |.returned v=>bV (a.put o.dst v) w'
   |.panicked J=>Q (.panic J) a w'
   |.outgrown=>False)->o.wp P a w bV Q:=by
  intro R g L A;unfold Oper.wp;rw[U g,Oper.upon_enter];refine L.mono λe w' hr=>?_
  grind
 have C:∀i,as.toList.getD i undef=as.getD i undef:=by
  simp_all
 simp only[qA]at c;split at c
 .skip
  rename_i D;simp only[br]at D;have⟨g,hS⟩:=c.fn d;have W:=S.ok.hr;have hr0:HR G w [] []:=⟨rfl,by simp,by simp,W.gl,(λb _ ho=>by have⟨_,_,_,h1,_⟩:=ho;grind),W.sF⟩
  have L:=hS G w [] as.toList hr0 (by grind) (λi x q=>by
   rw[C];exact(hv i x q).mono (λ_ h=>h) (λ_ _=>rfl) (λj X=>by grind))
  rw[cr]at L;refine s g L ?_
  rintro e w' ⟨G',ρ',O,out,hO,A,c⟩
  have hO':Ok ⟨w,G,([]:List Nat).map λi=>(ρ[i]?).getD undef,([]:List Nat).map λi=>eR (pos []) ((get? h i).getD .no),[],[]⟩ G' w' ρ' O:=hO;have⟨z,y⟩:=S.back (ids:=[]) List.nodup_nil (by simp) (by simp) (by simp) hO';have M:rowsOf h []=[]:=rfl;rw[M]at z;simp only[List.foldl_nil,mP]at z;have hbk:Vx.back [] (home h.length []) h O=h++O.map (eR (home h.length [])):=by
   simp only[Vx.back,ah,List.drop_zero];congr 1;apply cR;intro i;simp only[aB,lW];cases h[i]?<;>rfl
  have m:home h.length []=λi=>h.length+i:=by rfl
  rw[hbk,m]at z;rw[m]at y;cases O with
  |nil=>
   have hρ':ρ'=[]:=bP hO.hr.len;subst hρ';simp only[kC,cV]at z;have F:∀(v:Value)(r:V),au G' w' [] v r->gS (λi=>h.length+i) r=r:=λv r hr=>AY (by
    cases hh:eT r with
    |nil=>rfl
    |cons i l=>have:=hr.lt i (by grind);grind)
   cases out with
   |ret r=>
    obtain⟨v,rfl,hr⟩:=A;have:=y v r hr;rw[F v r hr]at this;exact hn v w' G' _ t h r z this c
   |fg r=>
    obtain⟨v,rfl,hr⟩:=A;have:=y v r hr;rw[F v r hr]at this;exact hp v w' G' _ t h r z this c
  |cons b O=>
   simp only[f_]at c;cases out with
   |ret r=>
    obtain⟨v,rfl,hr⟩:=A;exact hn v w' G' _ t _ _ z (y v r hr) c
   |fg r=>
    obtain⟨v,rfl,hr⟩:=A;exact hp v w' G' _ t _ _ z (y v r hr) c
 .skip
  rename_i i is D;simp only[bf,f_,BV]at c;generalize reach h 100 (i::is) []=ids at c;have⟨I,hkS⟩:=c;have⟨g,hS⟩:=hkS.fn d;simp only[FQ,aP]at I;have⟨⟨h1,h2⟩,h3⟩:=I;have Y:=iH h1;have u:∀i∈ids,i<h.length/\h[i]?≠some B.no/\∀x,h[i]?=some x->∀j∈eZ x,j∈ids:=by
   intro i p;have:=aS.1 h2 i p;simp only[aP]at this;have⟨⟨g1,g2⟩,g3⟩:=this;have d:i<h.length:=by
    simp_all
   have q:=aA d;rw[get?_eq,q]at g2 g3;simp only[bo]at g2 g3;refine⟨d,?_,?_⟩
   .rw[q];intro e;rw[aq e]at g2;cases g2
   .intro x Z j X;rw[q]at Z;cases Z;exact cK.1 (aS.1 g3 j X)
  have hvid:∀x∈vs,∀j∈eT x,j∈ids:=λx q j X=>by
   have hm:j∈i::is:=by grind
   exact cK.1 (aS.1 h3 j hm)
  have⟨hP,_⟩:=S.ok.hr.part Y (λi p=>(u i p).1) (λi p=>(u i p).2.2);have hρl:=S.ok.hr.len;have L:=hS G w _ as.toList hP (by grind) (λk x q=>by
   rw[aB]at q;cases N:vs[k]? with
   |none=>grind
   |some x0=>
    rw[N]at q;cases q;rw[C];refine(hv k x0 N).pL (λj X=>?_);have hjm:=hvid x0 (aJ N) j X;have hjl:=(u j hjm).1;rw[aB,iA hjm,bE,aA (by omega)];rfl)
  rw[cr]at L;refine s g L ?_
  rintro e w' ⟨G',ρ',O,out,hO,A,c⟩
  simp only[sD]at c;have⟨z,y⟩:=S.back Y (λi p=>(u i p).1) (λi p=>(u i p).2.1) (λi p=>(u i p).2.2) hO;cases out with
  |ret r=>
   obtain⟨v,rfl,hr⟩:=A;exact hn v w' G' _ _ _ _ z (y v r hr) c
  |fg r=>
   obtain⟨v,rfl,hr⟩:=A;exact hp v w' G' _ _ _ _ z (y v r hr) c
theorem oG(b:ak E n G ρ t h a w):∀(xs:List Operand)(ts:List TypeId)(os:List O),args P xs ts=some os->os.length=xs.length/\∀(i:Nat)(x:O),os[i]?=some x->au G w ρ ((xs.map a.eval).getD i undef) (gv t x)
 |[],ts,os,h=>by cases ts<;>(simp only[args]at h;cases h;simp)
 |x::xs,[],os,h=>by
  simp only[args,aI,aD]at h;have⟨y,c,d,u,he⟩:=h;cases he;have⟨g1,e⟩:=oG b xs [] d u;refine⟨by grind,λi z v=>?_⟩;cases i with
  |zero=>simp at v;subst v;simpa using bG b c
  |succ i=>grind
 |x::xs,ty::ts,os,h=>by
  simp only[args,aI,aD]at h;have⟨y,c,d,u,he⟩:=h;cases he;have⟨g1,e⟩:=oG b xs ts d u;refine⟨by grind,λi z v=>?_⟩;cases i with
  |zero=>simp at v;subst v;simpa using bG b c
  |succ i=>grind
theorem gC{f:Nat}{as:Array Value}(h:eo P f=true):(callFunc f as).run P w=.ok (.enter f as) w:=by
 unfold eo at h;unfold callFunc;cases x:P.funcs[f]? with
 |none=>grind
 |some fn=>
  rw[x]at h;simp only[aP,bne_iff_ne,ne_eq]at h;have y:¬fn.body=none:=λe=>by grind
  simp_all
def all(w:World)(b:Nat):Prop:=b<w.heap.size
theorem Ms{v:Value}{x:V}{d:D}(y:dI G w ρ v x)(hd:Mt x=some d):bp G w v d:=by
 cases y with
 |k y=>
  cases y<;>simp only[Mt,reduceCtorEq,aE]at hd
  grind
  grind
  .subst hd;exact .xg _
 |fc f u cs caps z b c=>
  cases caps with
  |cons=>contradiction
  |nil=>
   simp only[Mt,aE]at hd;subst hd;rw[xL z (by grind)];exact .fn f
theorem EK{α β:Type}{f:α->Option β}:∀{l:List α}{r:List β},l.mapM f=some r->r.length=l.length/\∀(k:Nat)(y:β),r[k]?=some y->∃x,l[k]?=some x/\f x=some y:=by
 intro l
 induction l with
 |nil=>grind
 |cons x l z=>
  intro r h;simp only[iU,aI,aD,jK,aE]at h
  grind
theorem DI(hr:HR G w ρ h){v:Value}{x:V}(B:dL G w ρ v x):dL (all w) w [] v (uv h x):=by
 have i:∀b,G b->all w b:=hr.gl;cases B with
 |un=>exact .un _
 |ud=>exact .ud
 |d h=>exact .d (h.mono i (λ_ _=>rfl))
 |e b o off row U k s m=>exact .e b o off row U (i b k) s λj x g=>(m j x g).mono i (λ_ _=>rfl)
 |cl a n z rows h=>exact .cl a n z rows (h.mono i (λ_ _=>rfl))
 |nl z=>exact .nl z
 |q=>exact .un _
 |mp=>exact .un _
 |ov=>exact .un _
 |it=>exact .un _
 |os id a n c l =>
  simp only[uv,get?_eq];split
  .rename_i z rs g;have C:=hr.rep id _ _ l g;refine .d (C.data.mono (λb u=>?_) (λ_ _=>rfl));rcases u with u|u
   grind
   .exact hr.lt l g (by simp) (bR.2 (.inl u))
  .exact .un _
 |p id off b l =>
  simp only[uv,get?_eq];split
  .rename_i cs g;split
   .rename_i ds r;have⟨F,arr,ty,u,k,s,m⟩:=hr.rep id _ _ l g;simp only[Value.pointer.injEq,aE,Addr.mk.injEq,ω]at u;obtain⟨rfl,_⟩:=u;have⟨m1,m2⟩:=EK r;have:=dL.e (G:=all w) (w:=w) (ρ :=[]) b 0 off ds (λj=>arr.getD j undef) (aQ.1 k).1 (λj x A=>by
     have hl:j<arr.size:=by grind
     rw[dC k,cF,aF,aN hl];rfl) (λj x A=>by
     have⟨y,D,hd⟩:=m2 j x A;exact(Ms (m j y D) hd).mono i (λ_ _=>rfl))
    grind
   .exact .un _
  .exact .un _
theorem DL(hr:HR G w ρ h){v:Value}{x:V}(y:dI G w ρ v x):dI (all w) w [] v (uw h x):=by
 cases y with
 |k y=>
  have e:uw h x=uv h x:=by cases y<;>rfl
  rw[e];exact .k (DI hr y)
 |fc f u cs caps c g d=>
  refine .fc f _ cs _ c (by grind) (λi x z=>?_);rw[aB]at z;cases b:caps[i]? with
  |none=>grind
  |some x0=>rw[b]at z;cases z;exact DI hr (d i x0 b)
theorem DK(hr:HR G w ρ h){v:Value}{x:V}(y:au G w ρ v x):au (all w) w [] v (rY h x):=by
 cases y with
 |tu=>exact .k (.un _)
 |o y=>cases y with
  |c y=>
   have e:rY h x=uw h x:=by
    cases y with
    |k y=>cases y<;>rfl
    |fc=>rfl
   rw[e];exact .c (DL hr y)
  |ag cs vs d b=>
   refine .o (.ag cs _ (by grind) (λi x z=>?_));rw[aB]at z;cases u:vs[i]? with
   |none=>grind
   |some x0=>rw[u]at z;cases z;exact DL hr (b i x0 u)
theorem wO{G':Nat->Prop}{w':World}{v:Value}{d:D}(x:bp G w v d)(hs:KI d=true):bp G' w' v d:=by
 cases x<;>simp only[KI,cj]at hs
 .exact .int _ _
 .exact .bool _
 .exact .str _ ‹_›
 .exact .np
 .exact .nf
 .exact .ni
 .exact .nm
 .exact .fn _
theorem AT{G':Nat->Prop}{ρ':List Value}{v:Value}{x:V}(y:au G w ρ v x)(hs:Ph x=true):dM G' w ρ' v x:=by
 cases x<;>simp only[Ph,cj]at hs;exact .c (.k (.d (wO y.qu hs)))
theorem LD{G':Nat->Prop}{ρ':List Value}{v:Value}{x:V}(y:au G w ρ v x)(hs:Pg x=true):au G' w ρ' v x:=by
 by_cases z:∃c,x=.tu c
 .obtain⟨c,rfl⟩:=z;obtain⟨cs,rfl,b,d⟩:=y.Uh;exact .tu cs c b λi x u=>AT (.o (d i x u)) (aS.1 hs x (aJ u))
 .have:Pg x=Ph x:=by cases x<;>first|rfl|exact absurd ⟨_,rfl⟩ z
  exact .o (AT y (this ▸ hs))
end
end Go.Vx
