/- Lemmas. Conditions: none. -/
import Derived.Test.YtmigecldjbgneaaGreatDoorQKAF
import Derived.RangeFuncSeq
namespace Go.Vx
section rn
variable{G:Nat->Prop}{w:World}{ρ ρ':List Value}{f:Nat->Nat}
theorem dN.rn{v:Value}{x:V}(h:dN G w ρ v x)(hf:∀i∈lN x,ρ'[f i]?=ρ[i]?):dN G w ρ' v (L_ f x):=by
 cases h with
 |un=>exact .un _
 |ud=>exact .ud
 |d h=>exact .d h
 |p id off b h=>exact .p _ off b ((hf id (by simp[lN])).trans h)
 |e b o off row U h1 h2 h3=>exact .e b o off row U h1 h2 h3
 |os id a n c h=>exact .os _ a n c ((hf id (by simp[lN])).trans h)
 |q id z i off b n c h=>exact .q _ z i off b n c ((hf id (by simp[lN])).trans h)
 |cl a n z rows h=>exact .cl a n z rows h
 |nl z=>exact .nl z
 |mp id r h=>exact .mp _ r ((hf id (by simp[lN])).trans h)
 |ov id z i _ a n c h hv=>exact .ov _ z i _ a n c ((hf id (by simp[lN])).trans h) hv
 |it id r m h=>exact .it _ r m ((hf id (by simp[lN])).trans h)
theorem dO.rn{v:Value}{x:V}(h:dO G w ρ v x)(hf:∀i∈pQ x,ρ'[f i]?=ρ[i]?):dO G w ρ' v (HM f x):=by
 cases h with
 |k h=>
  have e1:HM f x=L_ f x:=by cases h<;>rfl
  have e2:pQ x=lN x:=by cases h<;>rfl
  rw[e1];exact .k (h.rn (by grind))
 |fc g u cs caps h0 h1 h2=>
  refine .fc g _ cs _ h0 (by grind) (λi x hx=>?_);rw[aB]at hx;cases hc:caps[i]? with
  |none=>grind
  |some x0=>
   rw[hc]at hx;cases hx;exact(h2 i x0 hc).rn (λj hj=>hf j (by simp only[pQ,aj];grind))
theorem dP.rn{v:Value}{x:V}(h:dP G w ρ v x)(hf:∀i∈nH x,ρ'[f i]?=ρ[i]?):dP G w ρ' v (F_ f x):=by
 cases h with
 |c h=>
  have e1:F_ f x=HM f x:=by
   cases h with
   |k h=>cases h<;>rfl
   |fc=>rfl
  have e2:nH x=pQ x:=by
   cases h with
   |k h=>cases h<;>rfl
   |fc=>rfl
  rw[e1];exact .c (h.rn (by grind))
 |ag cs vs h1 h2=>
  refine .ag cs _ (by grind) (λi x hx=>?_);rw[aB]at hx;cases hc:vs[i]? with
  |none=>grind
  |some x0=>
   rw[hc]at hx;cases hx;exact(h2 i x0 hc).rn (λj hj=>hf j (by simp only[nH,aj];grind))
theorem az.rn{v:Value}{x:V}(h:az G w ρ v x)(hf:∀i∈l8 x,ρ'[f i]?=ρ[i]?):az G w ρ' v (qy f x):=by
 cases h with
 |o h=>
  have e1:qy f x=F_ f x:=by
   cases h with
   |c h=>cases h with
    |k h=>cases h<;>rfl
    |fc=>rfl
   |ag=>rfl
  have e2:l8 x=nH x:=by
   cases h with
   |c h=>cases h with
    |k h=>cases h<;>rfl
    |fc=>rfl
   |ag=>rfl
  rw[e1];exact .o (h.rn (by grind))
 |tu cs vs h1 h2=>
  refine .tu cs _ (by grind) (λi x hx=>?_);rw[aB]at hx;cases hc:vs[i]? with
  |none=>grind
  |some x0=>
   rw[hc]at hx;cases hx;exact(h2 i x0 hc).rn (λj hj=>hf j (by simp only[l8,aj];grind))
theorem cQ.rn{v:Value}{x:B}(h:cQ G w ρ v x)(hf:∀i∈jL x,ρ'[f i]?=ρ[i]?):cQ G w ρ' v (nG f x):=by
 cases x with
 |no=>trivial
 |cells cs=>
  obtain⟨b,arr,ty,rfl,h1,h2,h3⟩:=h;refine⟨b,arr,ty,rfl,h1,by grind,λi x hx=>?_⟩;rw[aB]at hx;cases hc:cs[i]? with
  |none=>grind
  |some x0=>
   rw[hc]at hx;cases hx;exact(h3 i x0 hc).rn (λj hj=>hf j (by simp only[jL,aj];grind))
 |mp es=>
  obtain⟨r,arr,clk,rfl,h1,h2,h3,h4⟩:=h;refine⟨r,arr,clk,rfl,h1,by grind,h3,λi e x he hx=>?_⟩;rw[aB]at hx;cases hc:es[i]? with
  |none=>grind
  |some x0=>
   rw[hc]at hx;cases hx;exact⟨(h4 i e x0 he hc).1.rn (λj hj=>hf j (by simp only[jL,aj];grind)),
    (h4 i e x0 he hc).2.rn (λj hj=>hf j (by simp only[jL,aj];grind))⟩
 |dm es=>exact cQ.mono (x:=.dm es) h (λ_ h=>h) (λ_ _=>rfl) (λ_ _=>rfl) (λi hi=>by cases hi)
 |di es r l=>exact cQ.mono (x:=.di es r l) h (λ_ h=>h) (λ_ _=>rfl) (λ_ _=>rfl) (λi hi=>by cases hi)
 |ms z es out it=>
  have h1:=cQ.mono (x:=.ms z es none it) (w':=w) (ρ':= ρ') ⟨kO.drop h.1,h.2⟩ (λ_ h=>h) (λ_ _=>rfl) (λ_ _=>rfl) (λi hi=>by cases hi);exact⟨h1.1.outs h.1 (λi v u ho hr=>hr.rn (λj hj=>hf j (by subst ho;exact hj))),h.2⟩
 |rows z rs=>exact h
 |lk z rs=>exact h
 |nw=>exact h
 |rx z rs k r=>
  obtain⟨b,cap,arr,ty,rfl,h1,h2,h3,h4,h0,h5,h6⟩:=h;refine⟨b,cap,arr,ty,rfl,h1,h2,h3,h4,by grind,h5,λi x hx=>?_⟩;rw[aB]at hx;cases hc:r[i]? with
  |none=>grind
  |some x0=>
   rw[hc]at hx;cases hx;exact(h6 i x0 hc).rn (λj hj=>hf j (by simp only[jL,aj];grind))
theorem rR(f:Nat->Nat)(x:B):gh (nG f x)=gh x:=by cases x<;>rfl
theorem nW(f:Nat->Nat)(x:B):nG f x=.no<->x=.no:=by cases x<;>simp[nG]
theorem Qd{f:Nat->Nat}{x:V}(h:lN x=[]):L_ f x=x:=by cases x<;>simp[lN]at h<;>rfl
theorem x5{α:Type}{f:α->α}{l:List α}(h:∀x∈l,f x=x):l.map f=l:=by
 induction l with
 |nil=>rfl
 |cons x l ih=>grind
theorem BF{f:Nat->Nat}{x:V}(h:pQ x=[]):HM f x=x:=by
 cases x with
 |fc g c=>
  simp only[pQ,cK]at h;simp only[HM,x5 (λx hx=>Qd (h x hx))]
 |p|os|q|mp|ov|it=>simp[pQ,lN]at h
 |_=>rfl
theorem HK{f:Nat->Nat}{x:V}(h:nH x=[]):F_ f x=x:=by
 cases x with
 |ag c=>
  simp only[nH,cK]at h;simp only[F_,x5 (λx hx=>BF (h x hx))]
 |fc g c=>exact BF (x:=.fc g c) h
 |p|os|q|mp|ov|it=>simp[nH,pQ,lN]at h
 |_=>rfl
theorem HI{f:Nat->Nat}{x:V}(h:l8 x=[]):qy f x=x:=by
 cases x with
 |tu c=>
  simp only[l8,cK]at h;simp only[qy,x5 (λx hx=>HK (h x hx))]
 |ag c=>exact HK (x:=.ag c) h
 |fc g c=>exact BF (x:=.fc g c) h
 |p|os|q|mp|ov|it=>simp[l8,nH,pQ,lN]at h
 |_=>rfl
end rn
def Nr(G:Nat->Prop)(w:World)(ρ:List Value)(e:Ending):Out->Prop
 |.ret r=>∃v,e=.returned v/\az G w ρ v r
 |.eU r=>∃v,e=.panicked [{v:=v,recovered:=false}]/\az G w ρ v r
def ev(P:Program)(f:Nat):Bool:=
 match P.funcs[f]? with
 |some fn=>fn.name != "runtime.NumGoroutine" && fn.body.isSome
 |none=>false
structure qo(P:Program)(f:Nat)(vs:List V)(h:H)(K:Out->H->Prop):Prop where
  ok:ev P f=true
  run:∀(G:Nat->Prop)(w:World)(ρ as:List Value),HR G w ρ h->as.length=vs.length->(∀(i:Nat)(x:V),vs[i]?=some x->az G w ρ (as.getD i undef) x) ->
    Calls P f as.toArray w λe w'=>∃(G':Nat->Prop)(ρ':List Value)(h':H)(out:Out),Ok ⟨w,G,ρ,h,[],[]⟩ G' w' ρ' h'/\Nr G' w' ρ' e out/\K out h'
def Fw(r:Option Nat):Fence:={Fence.wide with round:=r}
def sO:D->Value
 |.int k n=>.int k n
 |.bool b=>.bool b
 |.str s=>.string ⟨s.toArray⟩
 |_=>undef
structure AV(P:Program)(g:Nat)(caps:List V)(hb:H)(xs:List (List D)):Prop where
  ok:ev P g=true
  run:∀(ρ as:List Value)(l:Nat)(J:Nat->World->Prop)(Jx:World->Prop),as.length=caps.length ->
    (∀i W W',J i W->ga W W'->J i W')->(∀W W',Jx W->ga W W'->Jx W') ->
    (∀i W,J i W->∃G,HR G W ρ hb/\∀(j:Nat)(x:V),caps[j]?=some x->az G W ρ (as.getD j undef) x) ->
    (∀(i:Nat)(r:List D)(W1:World),xs[i]?=some r->J i W1->YieldAt (Fw none) 0 P l (r.map sO).toArray W1 λe W2=>(e=.returned (.bool true)/\J (i+1) W2)\/(e=.returned (.bool false)/\Jx W2)) ->
    ∀W,J 0 W->CallsIn (Fw none) 0 P g (#[.func (.yield l) #[] #[]]++as.toArray) W λe W'=>(∃v,e=.returned v)/\(J xs.length W'\/Jx W')
def Sat(P:Program)(f:Nat)(vs:List V)(h:H)(K:Out->H->Prop):Prop:=
 qo P f vs h K\/(5000000<=f/\∃(z:Nat)(xs:List (List D)),AV P (f-5000000) vs h xs/\K (.ret (.d (.sl z xs))) [])
theorem qo.mono{P:Program}{f:Nat}{vs:List V}{h:H}{K K':Out->H->Prop}(hs:qo P f vs h K)(hk:∀o h,K o h->K' o h):qo P f vs h K':=
 ⟨hs.1,λG w ρ as h1 h2 h3=>(hs.2 G w ρ as h1 h2 h3).mono λ_ _ ⟨G',ρ',h',out,a,b,c⟩=>⟨G',ρ',h',out,a,b,hk _ _ c⟩⟩
theorem Sat.mono{P:Program}{f:Nat}{vs:List V}{h:H}{K K':Out->H->Prop}(hs:Sat P f vs h K)(hk:∀o h,K o h->K' o h):Sat P f vs h K':=
 hs.imp (λh=>h.mono hk) λ⟨h1,z,xs,h2,h3⟩=>⟨h1,z,xs,h2,hk _ _ h3⟩
theorem Sat.eqs{P:Program}{f:Nat}{vs:List V}{x y:H}{o:Out}{K:KT}(h:Sat P f vs x λout h'=>out=o/\h'=y)(hk:K o y):Sat P f vs x K:=
 h.mono λ_ _ ⟨h1,h2⟩=>by grind
theorem Sat.fn{P:Program}{f:Nat}{vs:List V}{h:H}{K:KT}(hs:Sat P f vs h K)(hf:f<5000000):qo P f vs h K:=
 hs.resolve_right λh=>absurd h.1 (by omega)
def bL(P:Program)(f:Nat)(vs:List V)(r:V):Prop:=Sat P f vs [] λout h=>out=.ret r/\h=[]
theorem bL.use{P:Program}{f:Nat}{vs:List V}{r:V}{K:KT}(hs:bL P f vs r)(hk:K (.ret r) []):Sat P f vs [] K:=
 hs.mono λo h ⟨e1,e2⟩=>by grind
section back
theorem cI{l:List Nat}{i:Nat}:has l i=true<->i∈l:=by
 simp only[has,eO];simp_all
theorem nh{l:List Nat}(h:rI l=true):l.Nodup:=by
 induction l with
 |nil=>grind
 |cons x l ih=>
  simp only[rI,aO,dA]at h;refine db.2 ⟨λhm=>?_,ih h.2⟩;have:=cI.2 hm
  grind
theorem xM{ids:List Nat}{i:Nat}(h:i∈ids):pos ids i<ids.length:=
 List.findIdx_lt_length_of_exists ⟨i,h,kQ i⟩
theorem h_{ids:List Nat}{i:Nat}(h:i∈ids):ids[pos ids i]?=some i:=by
 have hl:=xM h;rw[aA hl];have:=List.findIdx_getElem (p:=Nat.beq i) (w:=hl);exact κ some (kA this).symm
theorem My{ids:List Nat}(hn:ids.Nodup){k i:Nat}(h:ids[k]?=some i):pos ids i=k:=by
 have hi:=aG h;have h1:=h_ hi;have hl:=(aC.1 h).1;exact(List.getElem?_inj (xM hi) hn).1 (h1.trans h.symm)
theorem D0{n k i:Nat}{ids:List Nat}(h:ids[k]?=some i):home n ids k=i:=by simp[home,get?_eq,h]
theorem D1{n k:Nat}{ids:List Nat}(h:ids.length<=k):home n ids k=n+k-ids.length:=by simp[home,get?_eq,cu h]
theorem AS{ids:List Nat}{g:Nat->Nat}{h h':H}:(back ids g h h').length=h.length+(h'.length-ids.length):=by simp[back]
theorem vA{ids:List Nat}{g:Nat->Nat}{h h':H}{i:Nat}(hi:i∉ids)(hl:i<h.length):(back ids g h h')[i]?=h[i]?:=by
 have hb:has ids i=false:=by
  cases hb:has ids i;rfl
  .exact absurd (cI.1 hb) hi
 simp only[back];rw[aR (by simp_all)]
 grind
theorem qm{ids:List Nat}{g:Nat->Nat}{h h':H}{i:Nat}(hi:i∈ids)(hl:i<h.length)(hll:ids.length<=h'.length):(back ids g h h')[i]?=(h'[pos ids i]?).map (nG g):=by
 have hb:=cI.2 hi;have hp:=xM hi;simp only[back];rw[aR (by simp_all)];simp[aA hl,hb,get?_eq,aA (show pos ids i<h'.length by omega)]
theorem Ke{ids:List Nat}{g:Nat->Nat}{h h':H}{i:Nat}(hl:h.length<=i):(back ids g h h')[i]?=(h'[ids.length+(i-h.length)]?).map (nG g):=by
 simp only[back];rw[ae (by simp_all)];simp_all
def fK(ids:List Nat)(ρ ρ':List Value):List Value:=
 (ρ.zipIdx.map λp=>bif has ids p.2 then(ρ'[pos ids p.2]?).getD undef else p.1)++ρ'.drop ids.length
theorem u_{ids:List Nat}{ρ ρ':List Value}:(fK ids ρ ρ').length=ρ.length+(ρ'.length-ids.length):=by simp[fK]
theorem pw{ids:List Nat}{ρ ρ':List Value}{i:Nat}(hi:i∉ids)(hl:i<ρ.length):(fK ids ρ ρ')[i]?=ρ[i]?:=by
 have hb:has ids i=false:=by
  cases hb:has ids i;rfl
  .exact absurd (cI.1 hb) hi
 simp only[fK];rw[aR (by simp_all)]
 grind
theorem mW{ids:List Nat}{ρ ρ':List Value}{i:Nat}(hi:i∈ids)(hl:i<ρ.length)(hll:ids.length<=ρ'.length):(fK ids ρ ρ')[i]?=ρ'[pos ids i]?:=by
 have hb:=cI.2 hi;have hp:=xM hi;simp only[fK];rw[aR (by simp_all)]
 grind
theorem uz{ids:List Nat}{ρ ρ':List Value}{i:Nat}(hl:ρ.length<=i):(fK ids ρ ρ')[i]?=ρ'[ids.length+(i-ρ.length)]?:=by
 simp only[fK];rw[ae (by simp_all)];simp_all
theorem AR{ids:List Nat}(hn:ids.Nodup){ρ ρ':List Value}(hlt:∀i∈ids,i<ρ.length)(hll:ids.length<=ρ'.length)(k:Nat):(fK ids ρ ρ')[home ρ.length ids k]?=ρ'[k]?:=by
 by_cases hk:k<ids.length
 .have hg:=aA hk;rw[D0 hg,mW (dR hk) (hlt _ (dR hk)) hll,My hn hg]
 .rw[D1 (by omega),uz (by omega)]
  grind
end back
section
variable{P:Program}{E:gG}{n:Nat}{G:Nat->Prop}{ρ:List Value}{t:T}{h:H}{a:Act}{w:World}{o:Oper}{bS:Act->World->Prop}{Q:Exit->Act->World->Prop}{K KP:V->T->H->Prop}
theorem xf:∀(os:List Nat)(t:T)(K:T->Prop),E_ os t K=K (os.foldl (λt i=>mK i t) t)
 |[],_,_=>rfl
 |i::os,t,K=>by simp[Ez,j6,xf os]
theorem Mo(os:List Nat)(t:T)(i:Nat):∃f:V->V,gs (os.foldl (λt i=>mK i t) t) i=f (gs t i) /\
  ∀(G:Nat->Prop)(w:World)(ρ ρ2:List Value)(v:Value)(x:V),az G w ρ v x->(∀j∈os,∃v0,ρ[j]?=some v0/\kZ v0=true)->(∀j,j∉os->ρ2[j]?=ρ[j]?)->ρ2.length=ρ.length->az G w ρ2 v (f x):=by
 induction os generalizing t with
 |nil=>
  refine⟨id,rfl,λG w ρ ρ2 v x hr _ h2 _=>hr.mono (λ_ h=>h) (λ_ _=>rfl) (λj _=>h2 j (by simp))⟩
 |cons j os ih=>
  obtain⟨f,hf,hr⟩:=ih (mK j t);refine⟨λx=>f (Mp j x),?_,λG w ρ ρ2 v x hv h1 h2 hl=>?_⟩
  .rw[gb,hf,mK,uY _ rfl]
  .obtain⟨v0,hv0,hs0⟩:=h1 j (by simp);have hjl:j<ρ.length:=(aC.1 hv0).1;have hj2:j<ρ2.length:=by omega
   by_cases hjo:j∈os
   .refine hr G w ρ ρ2 v _ ?_ (λk hk=>h1 k (by grind)) (λk hk=>h2 k (by
     grind)) hl
    have:=hv.uQ (v1:=v0) hv0 hs0;rwa[jv hv0]at this
   .refine hr G w (ρ.set j ρ2[j]) ρ2 v _ (hv.uQ hv0 hs0) (λk hk=>?_) (λk hk=>?_) (by grind)
    grind
    grind
theorem JO(os:List Nat)(h:H)(i:Nat):∃f:B->B,(pb os h)[i]?=(h[i]?).map f/\(∀x,f x=.no<->x=.no)/\(∀x,gh (f x)=gh x) /\
  ∀(G:Nat->Prop)(w:World)(ρ ρ2:List Value)(v:Value)(x:B),cQ G w ρ v x->(∀j∈os,∃v0,ρ[j]?=some v0/\kZ v0=true)->(∀j,j∉os->ρ2[j]?=ρ[j]?)->ρ2.length=ρ.length->cQ G w ρ2 v (f x):=by
 induction os generalizing h with
 |nil=>
  refine⟨id,by simp[pb],λx=>Iff.rfl,λx=>rfl,λG w ρ ρ2 v x hr _ h2 _=>?_⟩
  by_cases hx:x=.no
  .subst hx;trivial
  .exact hr.mono (λ_ h=>h) (λ_ _=>rfl) (λ_ _=>rfl) (λj _=>h2 j (by simp))
 |cons j os ih=>
  obtain⟨f,hf,hno,hgf,hr⟩:=ih (h.map (jP j));refine⟨λx=>f (jP j x),?_,λx=>(hno _).trans (by cases x<;>simp[jP]),λx=>(hgf _).trans (pA _ _),λG w ρ ρ2 v x hv h1 h2 hl=>?_⟩
  .rw[pb,hf,aB,Option.map_map];rfl
  .obtain⟨v0,hv0,hs0⟩:=h1 j (by simp);have hjl:j<ρ.length:=(aC.1 hv0).1;have hj2:j<ρ2.length:=by omega
   by_cases hjo:j∈os
   .refine hr G w ρ ρ2 v _ ?_ (λk hk=>h1 k (by grind)) (λk hk=>h2 k (by
     grind)) hl
    have:=hv.uQ (v1:=v0) hv0 hs0;rwa[jv hv0]at this
   .refine hr G w (ρ.set j ρ2[j]) ρ2 v _ (hv.uQ hv0 hs0) (λk hk=>?_) (λk hk=>?_) (by grind)
    grind
    grind
theorem kB(os:List Nat)(h:H):(pb os h).length=h.length:=by
 induction os generalizing h with
 |nil=>rfl
 |cons j os ih=>rw[pb,ih];simp
theorem DT:∀(os:List Nat)(h:H){i z:Nat}{rs:List (List D)},h[i]?=some (.lk z rs)->(pb os h)[i]?=some (.lk z rs)
 |[],_,_,_,_,hx=>hx
 |j::os,h,_,_,_,hx=>DT os _ (by rw[aB,hx];rfl)
theorem HR.part(hr:HR G w ρ h){ids:List Nat}(hn:ids.Nodup)(hlt:∀i∈ids,i<h.length)(hcl:∀i∈ids,∀x,h[i]?=some x->∀j∈jL x,j∈ids) :
  HR G w (ids.map λi=>(ρ[i]?).getD undef) (ids.map λi=>nG (pos ids) ((get? h i).getD .no)) /\
  (∀b,own (ids.map λi=>(ρ[i]?).getD undef) (ids.map λi=>nG (pos ids) ((get? h i).getD .no)) b->∃i v x,i∈ids/\ρ[i]?=some v/\h[i]?=some x/\x≠.no/\b∈fF v x):=by
 have hρl:=hr.len;have get:∀(k:Nat)(v:Value)(y:B),(ids.map λi=>(ρ[i]?).getD undef)[k]?=some v->(ids.map λi=>nG (pos ids) ((get? h i).getD .no))[k]?=some y ->
   ∃i x,ids[k]?=some i/\i∈ids/\ρ[i]?=some v/\h[i]?=some x/\y=nG (pos ids) x:=by
  intro k v y h1 h2;simp only[aB,aJ]at h1 h2;obtain⟨i,hi,rfl⟩:=h1;obtain⟨i',hi',rfl⟩:=h2;rw[hi]at hi';cases hi';have hm:=aG hi;have hl:=hlt i hm;refine⟨i,h[i],hi,hm,?_,aA hl,?_⟩
  grind
  .rw[get?_eq,aA hl];rfl
 have hown:∀b,own (ids.map λi=>(ρ[i]?).getD undef) (ids.map λi=>nG (pos ids) ((get? h i).getD .no)) b->∃i v x,i∈ids/\ρ[i]?=some v/\h[i]?=some x/\x≠.no/\b∈fF v x:=by
  rintro b ⟨k,v,y,h1,h2,h3,h4⟩
  obtain⟨i,x,_,hm,g1,g2,rfl⟩:=get k v y h1 h2;exact⟨i,v,x,hm,g1,g2,λe=>h3 ((nW _ _).2 e),by rw[fF,rR]at h4;exact h4⟩
 refine⟨⟨by simp,λk v y h1 h2=>?_,λk k' v v' y y' b h1 h2 h3 h4 h5 h6 h7 h8=>?_,hr.gl,λb hb ho=>?_,hr.vR⟩,hown⟩
 .obtain⟨i,x,_,hm,g1,g2,rfl⟩:=get k v y h1 h2;refine(hr.rep i v x g1 g2).rn (λj hj=>?_);have hjm:=hcl i hm x g2 j hj;rw[aB,h_ hjm]
  grind
 .obtain⟨i,x,e1,hm,g1,g2,rfl⟩:=get k v y h1 h2;obtain⟨i',x',e2,hm',g1',g2',rfl⟩:=get k' v' y' h4 h5;rw[fF,rR]at h7 h8;have:=hr.pv i i' v v' x x' b g1 g2 (λe=>h3 ((nW _ _).2 e)) g1' g2' (λe=>h6 ((nW _ _).2 e)) h7 h8;subst this;exact(List.getElem?_inj (aC.1 e1).1 hn).1 (e1.trans e2.symm)
 .obtain⟨i,v,x,_,g1,g2,g3,g4⟩:=hown b ho;exact hr.gd b hb ⟨i,v,x,g1,g2,g3,g4⟩
theorem an.back(hC:an E n G ρ t h a w){ids:List Nat}(hn:ids.Nodup)(hlt:∀i∈ids,i<h.length)(hnn:∀i∈ids,h[i]?≠some B.no)(hcl:∀i∈ids,∀x,h[i]?=some x->∀j∈jL x,j∈ids)
    {G':Nat->Prop} {w':World} {ρ':List Value} {h':H} (hO:Ok ⟨w,G,ids.map λi=>(ρ[i]?).getD undef,ids.map λi=>nG (pos ids) ((get? h i).getD .no),[],[]⟩ G' w' ρ' h') :
    an E n G' (fK ids ρ ρ') ((rowsOf h ids).foldl (λt i=>mK i t) t) (Vx.back ids (home h.length ids) (pb (rowsOf h ids) h) h') a w' /\
      ∀(v:Value)(x:V),az G' w' ρ' v x->az G' w' (fK ids ρ ρ') v (qy (home h.length ids) x):=by
  obtain⟨hP,hown⟩:=hC.ok.hr.part hn hlt hcl
  have hr:=hC.ok.hr
  have hρl:=hr.len
  have hll:ids.length<=h'.length:=by simpa using hO.hl
  have hl':=hO.hr.len
  have hltρ:∀i∈ids,i<ρ.length:=λi hi=>by grind
  have hb2:=λk=>AR (ρ := ρ) (ρ':= ρ') hn hltρ (by omega) k
  rw[hρl]at hb2
  generalize hρc:(ids.map λi=>(ρ[i]?).getD undef)=ρc at *
  generalize hhc:(ids.map λi=>nG (pos ids) ((get? h i).getD .no))=hc at *
  have hoc:∀b,own ρc hc b->own ρ h b:=λb hb=>by
    obtain⟨i,v,x,_,g1,g2,g3,g4⟩:=hown b hb
    exact⟨i,v,x,g1,g2,g3,g4⟩
  have hold:∀b,b<w.heap.size->¬own ρc hc b->w'.heap[b]?=w.heap[b]?:=hO.frame
  have hGb:∀b,G b->w'.heap[b]?=w.heap[b]?:=λb hb=>hold b (hr.gl b hb) (λho=>hr.gd b hb (hoc b ho))
  have hGG:∀b,G b->G' b:=hO.gm
  have hsz:w.heap.size<=w'.heap.size:=hO.size
  have hoth:∀(i:Nat)(v:Value)(x:B)(b:Nat),i∉ids->ρ[i]?=some v->h[i]?=some x->x≠.no->b∈fF v x->b<w.heap.size/\(¬own ρc hc b)/\¬G' b/\¬own ρ' h' b:=by
    intro i v x b hi g1 g2 g3 g4
    have hb:=hr.lt g1 g2 g3 g4
    have hno:¬own ρc hc b:=λho=>by
      obtain⟨i',v',x',hm,k1,k2,k3,k4⟩:=hown b ho
      exact hi (by rw[hr.pv i i' v v' x x' b g1 g2 g3 k1 k2 k3 g4 k4];grind)
    refine⟨hb,hno,λhg=>?_,λho=>?_⟩
    · rcases hO.go b hg with h1|⟨_,h1|h1⟩
      · exact hr.gd b h1 ⟨i,v,x,g1,g2,g3,g4⟩
      grind
      grind
    · rcases hO.oo b ho with h1|h1
      grind
      grind
  have hos1:∀j∈rowsOf h ids,∃v0,ρ[j]?=some v0/\kZ v0=true:=by
    intro j hj
    simp only[rowsOf,dH,get?_eq]at hj
    obtain⟨hjm,hjr⟩:=hj
    have hjl:=hlt j hjm
    have hx:=aA hjl
    rw[hx]at hjr
    have hv:=aA (hltρ j hjm)
    refine⟨_,hv,?_⟩
    have hrep:=hr.rep j _ _ hv hx
    simp only[cR]at hjr
    generalize(h:List B)[j]=x at *
    cases x<;>simp[rP]at hjr
    · rcases hrep with⟨he,_⟩|⟨_,_,_,_,he,_⟩<;>rw[he]<;>rfl
    · obtain⟨_,_,_,_,he,_⟩:=hrep;rw[he];rfl
  have hlk:∀(j z:Nat)(rs:List (List D)),j∈ids->h[j]?=some (.lk z rs)->h'[pos ids j]?=some (.lk z rs)/\ρ'[pos ids j]?=ρ[j]?:=by
    intro j z rs hj hx
    obtain⟨k1,k2⟩:=hO.lk (pos ids j) z rs (by
      show hc[pos ids j]?=_
      rw[<-hhc,aB,h_ hj,bJ,get?_eq,hx];rfl)
    refine⟨k1,k2.trans ?_⟩
    show ρc[pos ids j]?=_
    rw[<-hρc,aB,h_ hj,bJ,aA (hltρ j hj)];rfl
  have hmid:∀j,j∉rowsOf h ids->((fK ids ρ ρ').take ρ.length)[j]?=ρ[j]?:=by
    intro j hjr
    rw[bO]
    by_cases hjl:j<ρ.length
    · rw [ζ hjl]
      by_cases hj:j∈ids
      · rw [mW hj hjl (by omega)]
        have hv:=aA hjl
        have hx:=aA (hlt j hj)
        by_cases hl1:∃z rs,h[j]?=some (.lk z rs)
        · obtain⟨z,rs,hl1⟩:=hl1
          exact(hlk j z rs hj hl1).2
        have hns:kZ ρ[j]=false:=by
          have hrep:=hr.rep j _ _ hv hx
          have hxn:=hnn j hj
          rw[hx]at hxn
          have hrw:j∈rowsOf h ids<->rP ((h:List B)[j]'(hlt j hj))=true:=by
            simp only[rowsOf,dH,get?_eq,hx,cR]
            grind
          generalize(h:List B)[j]'(hlt j hj)=x at *
          cases x with
          |no=>grind
          |cells cs=>obtain⟨b,arr,ty,he,_⟩:=hrep;rw[he];rfl
          |mp es=>obtain⟨b,arr,clk,he,_⟩:=hrep;rw[he];rfl
          |dm es=>obtain⟨b,arr,clk,he,_⟩:=hrep;rw[he];rfl
          |di es r l=>obtain⟨⟨b,arr,clk,he,_⟩,_⟩:=hrep;rw[he];rfl
          |ms z es out it=>obtain⟨⟨b,arr,clk,he,_⟩,_⟩:=hrep;rw[he];rfl
          |rows z rs=>exact absurd (hrw.2 rfl) hjr
          |lk z rs=>exact absurd ⟨z,rs,hx⟩ hl1
          |nw=>
            have hu:_=undef:=hrep
            rw[hu];rfl
          |rx z rs k r=>exact absurd (hrw.2 rfl) hjr
        rw[hv]
        refine hO.hand (pos ids j) _ ?_ hns
        show ρc[pos ids j]?=_
        rw[<-hρc]
        simp only[aB,h_ hj,bJ,hv,cR]
      · exact pw hj hjl
    grind
  have htl:((fK ids ρ ρ').take ρ.length).length=ρ.length:=by rw[a_,u_];omega
  have hext:∀i,i<ρ.length->(fK ids ρ ρ')[i]?=((fK ids ρ ρ').take ρ.length)[i]?:=λi hi=>by grind
  have hren:∀(v:Value)(x:V),az G' w' ρ' v x->az G' w' (fK ids ρ ρ') v (qy (home h.length ids) x):=λv x hv=>hv.rn (λi _=>hb2 i)
  have hbl:(Vx.back ids (home h.length ids) (pb (rowsOf h ids) h) h').length=h.length+(h'.length-ids.length):=by rw[AS,kB]
  have get:∀(i:Nat)(v:Value)(y:B),(fK ids ρ ρ')[i]?=some v->(Vx.back ids (home h.length ids) (pb (rowsOf h ids) h) h')[i]?=some y ->
      (i∉ids/\ρ[i]?=some v/\∃(x:B)(f:B->B),h[i]?=some x/\y=f x/\(f x=.no<->x=.no)/\gh (f x)=gh x/\(cQ G' w' ρ v x->cQ G' w' (fK ids ρ ρ') v y)) \/
      (∃k x,home h.length ids k=i/\ρ'[k]?=some v/\h'[k]?=some x/\y=nG (home h.length ids) x):=by
    intro i v y h1 h2
    by_cases hil:i<h.length
    · by_cases hi:i∈ids
      · rw[mW hi (by omega) (by omega)]at h1
        rw[qm hi (by rw[kB];grind) hll]at h2
        simp only[aJ]at h2
        obtain⟨x,hx,rfl⟩:=h2
        exact .inr ⟨pos ids i,x,D0 (h_ hi),h1,hx,rfl⟩
      · rw[pw hi (by omega)]at h1
        rw[vA hi (by rw[kB];grind)]at h2
        obtain⟨f,hf,hno,hgf,hrf⟩:=JO (rowsOf h ids) h i
        rw[hf]at h2
        simp only[aJ]at h2
        obtain⟨x,hx,rfl⟩:=h2
        refine .inl ⟨hi,h1,x,f,hx,rfl,hno x,hgf x,λhrep=>?_⟩
        have h3:=hrf G' w' ρ _ v x hrep hos1 hmid htl
        by_cases hfx:f x=.no
        · rw[hfx];trivial
        · exact h3.mono (λ_ h=>h) (λ_ _=>rfl) (λ_ _=>rfl) (λj hj=>hext j (by have:=h3.lt j hj;omega))
    · rw[uz (by omega)]at h1
      rw[Ke (by rw[kB];omega),kB]at h2
      simp only[aJ]at h2
      obtain⟨x,hx,rfl⟩:=h2
      rw[hρl]at h1
      exact .inr ⟨_,x,by rw[D1 (by omega)];omega,h1,hx,rfl⟩
  have hOk:Ok E G' w' (fK ids ρ ρ') (Vx.back ids (home h.length ids) (pb (rowsOf h ids) h) h'):=by
    have hownb:∀b,own (fK ids ρ ρ') (Vx.back ids (home h.length ids) (pb (rowsOf h ids) h) h') b->(own ρ h b\/w.heap.size<=b)/\¬G' b:=by
      rintro b ⟨i,v,y,h1,h2,h3,h4⟩
      rcases get i v y h1 h2 with⟨hi,g1,x,f,g2,rfl,g4,g6,_⟩|⟨k,x,_,g1,g2,rfl⟩
      · rw[fF,g6]at h4
        have hxn:x≠.no:=λe=>h3 (g4.2 e)
        exact⟨.inl ⟨i,v,x,g1,g2,hxn,h4⟩,(hoth i v x b hi g1 g2 hxn h4).2.2.1⟩
      · rw[fF,rR]at h4
        have hxn:x≠.no:=λe=>h3 ((nW _ _).2 e)
        have ho:own ρ' h' b:=⟨k,v,x,g1,g2,hxn,h4⟩
        refine⟨?_,λhg=>hO.hr.gd b hg ho⟩
        rcases hO.oo b ho with h5|h5
        grind
        grind
    refine⟨⟨by rw[u_,hbl];omega,λi v y h1 h2=>?_,λi i' v v' y y' b h1 h2 h3 h4 h5 h6 h7 h8=>?_,hO.hr.gl,λb hb ho=>(hownb b ho).2 hb,hO.hr.vR⟩,λb hb=>hGG b (hC.ok.gm b hb),λb hb=>?_,λb hb=>?_,
      λb hb hnb=>?_,aX hC.ok.size hsz,hO.os.trans hC.ok.os,hO.tape.trans hC.ok.tape,hO.out.trans hC.ok.out,λi v hv hs=>?_,by rw[hbl];have:=hC.ok.hl;omega,λr hr'=>?_,λi z rs hi=>?_⟩
    · rcases get i v y h1 h2 with⟨hi,g1,x,f,g2,rfl,g4,_,g5⟩|⟨k,x,_,g1,g2,rfl⟩
      · by_cases hxn:x=.no
        · rw[g4.2 hxn];trivial
        · exact g5 ((hr.rep i v x g1 g2).mono hGG hGb (λb hb=>by
            grind) (λ_ _=>rfl))
      · exact(hO.hr.rep k v x g1 g2).rn (λj _=>hb2 j)
    · rcases get i v y h1 h2 with⟨hi,g1,x,f,g2,rfl,g4,g6,_⟩|⟨k,x,e1,g1,g2,rfl⟩<;>rcases get i' v' y' h4 h5 with⟨hi',k1,x',f',k2,rfl,k4,k6,_⟩|⟨k',x',e2,k1,k2,rfl⟩
      · rw[fF,g6]at h7
        rw[fF,k6]at h8
        exact hr.pv i i' v v' x x' b g1 g2 (λe=>h3 (g4.2 e)) k1 k2 (λe=>h6 (k4.2 e)) h7 h8
      · rw[fF,g6]at h7
        rw[fF,rR]at h8
        exact absurd ⟨k',v',x',k1,k2,λe=>h6 ((nW _ _).2 e),h8⟩ (hoth i v x b hi g1 g2 (λe=>h3 (g4.2 e)) h7).2.2.2
      · rw[fF,rR]at h7
        rw[fF,k6]at h8
        exact absurd ⟨k,v,x,g1,g2,λe=>h3 ((nW _ _).2 e),h7⟩ (hoth i' v' x' b hi' k1 k2 (λe=>h6 (k4.2 e)) h8).2.2.2
      · rw[fF,rR]at h7 h8
        have:=hO.hr.pv k k' v v' x x' b g1 g2 (λe=>h3 ((nW _ _).2 e)) k1 k2 (λe=>h6 ((nW _ _).2 e)) h7 h8
        grind
    · rcases hO.go b hb with h1|⟨hc,h1|h1⟩
      · exact(hC.ok.go b h1).imp (λh=>h) λh2=>⟨h2.1.same (hGb b h1),h2.2⟩
      · exact .inr ⟨hc,.inl (aX hC.ok.size h1)⟩
      · exact .inr ⟨hc,hC.ok.oo b (hoc b h1)⟩
    · rcases(hownb b hb).1 with h1|h1
      · exact hC.ok.oo b h1
      · exact .inl (aX hC.ok.size h1)
    · have hbw:b<w.heap.size:=bj hb hC.ok.size
      rw[hold b hbw (λho=>?_)]
      · exact hC.ok.frame b hb hnb
      · rcases hC.ok.oo b (hoc b ho)with h1|h1
        grind
        grind
    · have h0:=hC.ok.hand i v hv hs
      grind
    · obtain⟨h1,h2,h3⟩:=hC.ok.uB r hr'
      have hlt:=(aW.1 h1).1
      refine⟨(hold r hlt λho=>h3 (hoc r ho)).trans h1,λh4=>?_,λh4=>?_⟩
      · rcases hO.go r h4 with h5|⟨_,h5|h5⟩
        grind
        grind
        grind
      grind
    · obtain⟨k1,k2⟩:=hC.ok.lk i z rs hi
      have hil:=(aC.1 k1).1
      by_cases hm:i∈ids
      · obtain⟨m1,m2⟩:=hlk i z rs hm k1
        exact⟨by rw[qm hm (by rw[kB];exact hil) hll,m1];rfl,by rw[mW hm (by omega) (by omega),m2,k2]⟩
      · exact⟨by rw[vA hm (by rw[kB];exact hil)];exact DT _ _ k1,by rw[pw hm (by omega),k2]⟩
  refine⟨⟨hOk,hC.df,hC.sz,λi=>?_⟩,hren⟩
  obtain⟨f,hf,hrf⟩:=Mo (rowsOf h ids) t i
  rw[hf]
  have h3:=hrf G' w' ρ _ _ _ ((hC.tm i).mono hGG hGb (λ_ _=>rfl)) hos1 hmid htl
  exact h3.mono (λ_ h=>h) (λ_ _=>rfl) (λj hj=>hext j (by have:=h3.lt j hj;omega))
end
section
variable{P:Program}{E:gG}{n:Nat}{G:Nat->Prop}{ρ:List Value}{t:T}{h:H}{a:Act}{w:World}{o:Oper}{bS:Act->World->Prop}{Q:Exit->Act->World->Prop}{K KP:V->T->H->Prop}
def Se(E:gG)(n:Nat)(a:Act)(KP:V->T->H->Prop)(Q:Exit->Act->World->Prop):Prop:=
 ∀(v':Value)(w':World)(G':Nat->Prop)(ρ':List Value)(t':T)(h':H)(v:V),an E n G' ρ' t' h' a w'->az G' w' ρ' v' v->KP v t' h'->Q (.panic [{v:=v',recovered:=false}]) a w'
theorem N7{v:Value}{x:V}(hv:dN G w ρ v x):dN G w ρ v (clean x):=by
 cases hv with
 |cl a n z rows h=>exact .d h
 |nl z=>exact .d (.yv z)
 |un=>exact .un _
 |ud=>exact .ud
 |d h=>exact .d h
 |p id off b h=>exact .p id off b h
 |e b o off row U h1 h2 h3=>exact .e b o off row U h1 h2 h3
 |os id a n c h=>exact .os id a n c h
 |q id z i off b n c h=>exact .q id z i off b n c h
 |mp id r h=>exact .mp id r h
 |ov id z i _ a n c h hv=>exact .ov id z i _ a n c h hv
 |it id r m h=>exact .it id r m h
theorem xy{v:Value}{x:V}(hv:dO G w ρ v x):dO G w ρ v (clean x):=by
 cases hv with
 |k h=>exact .k (N7 h)
 |fc f u cs caps h0 h1 h2=>
  cases caps with
  |nil=>
   rw[xr h0 (by grind)];exact .k (.d (.fn f))
  |cons c r=>exact .fc f _ cs _ h0 h1 h2
theorem wV{v:Value}{x:V}(hv:az G w ρ v x):az G w ρ v (fi x):=by
 cases hv with
 |o h=>cases h with
  |c h=>
   have:fi x=clean x:=by
    cases h with
    |k h=>cases h<;>rfl
    |fc=>rfl
   rw[this];exact .o (.c (xy h))
  |ag cs vs h1 h2=>
   refine .o (.ag cs _ (by grind) (λi x hx=>?_));rw[aB]at hx;cases hc:vs[i]? with
   |none=>grind
   |some x0=>rw[hc]at hx;cases hx;exact xy (h2 i x0 hc)
 |tu cs vs h1 h2=>exact .tu cs vs h1 h2
theorem sr{K:T->H->List V->Prop}:∀(ids:List Nat)(G:Nat->Prop)(t:T)(h:H)(vs:List V)(U:Nat->Value),an E n G ρ t h a w->(∀(i:Nat)(x:V),vs[i]?=some x->az G w ρ (U i) x)->q9 ids t h vs K ->
  ∃(G':Nat->Prop)(t':T)(h':H)(vs':List V),an E n G' ρ t' h' a w/\vs'.length=vs.length/\(∀(i:Nat)(x:V),vs'[i]?=some x->az G' w ρ (U i) x)/\K t' h' vs':=by
 intro ids
 induction ids with
 |nil=>intro G t h vs U hC hU hk;exact⟨G,t,h,vs,hC,rfl,hU,hk⟩
 |cons id ids ih=>
  intro G t h vs U hC hU hk;simp only[wL,D4,get?_eq]at hk;split at hk
  .rename_i z rs hx;simp only[ph,j6,fH]at hk;obtain⟨v0,hv0,hd,hC'⟩:=hC.free hx;obtain⟨G',t',h',vs',g1,g2,g3,g4⟩:=ih _ _ _ _ U hC' (λi x hi=>by
    rw[aB]at hi;cases hc:vs[i]? with
    |none=>grind
    |some x0=>rw[hc]at hi;cases hi;exact(hU i x0 hc).sub hv0 (λb hb=>.inl hb) hd) hk
   grind
  .rename_i cs hx;split at hk
   .rename_i ds hD;simp only[ph,j6,fH]at hk;obtain⟨v0,hv0,hd,hC'⟩:=hC.U_ hx hD;obtain⟨G',t',h',vs',g1,g2,g3,g4⟩:=ih _ _ _ _ U hC' (λi x hi=>by
     rw[aB]at hi;cases hc:vs[i]? with
     |none=>grind
     |some x0=>rw[hc]at hi;cases hi;exact(hU i x0 hc).sub hv0 (λb hb=>.inl hb) hd) hk
    grind
   grind
  grind
theorem qh(hC:an E n G ρ t h a w)(hn:gq E n a o K bS)(hp:Se E n a KP Q){f:Nat}(hlt:f<5000000){as:Array Value}{vs:List V}(hrun:ev P f=true->(execOp a.eval o).run P w=.ok (.enter f as) w)(hl:as.size=vs.length)
  (hv:∀(i:Nat)(x:V),vs[i]?=some x->az G w ρ (as.getD i undef) x) (hk:pR (Sat P) f vs t h K KP):o.wp P a w bS Q:=by
 have upon:∀{R:Ending->World->Prop},ev P f=true->Calls P f as w R->(∀e w',R e w'->match e with
   |.returned v=>bS (a.put o.dst v) w'
   |.panicked chain=>Q (.panic chain) a w'
   |.outgrown=>False)->o.wp P a w bS Q:=by
  intro R hok hc hR;unfold Oper.wp;rw[hrun hok,Oper.upon_enter];refine hc.mono λe w' hr=>?_
  grind
 have hget:∀i,as.toList.getD i undef=as.getD i undef:=by
  simp_all
 simp only[pR]at hk;split at hk
 .skip
  rename_i hids;simp only[cK]at hids;obtain⟨hok,hS⟩:=hk.fn hlt;have hC0:=hC.ok.hr;have hr0:HR G w [] []:=⟨rfl,by simp,by simp,hC0.gl,(λb _ ho=>by obtain⟨_,_,_,h1,_⟩:=ho;grind),hC0.vR⟩
  have hc:=hS G w [] as.toList hr0 (by grind) (λi x hx=>by
   rw[hget];exact(hv i x hx).mono (λ_ h=>h) (λ_ _=>rfl) (λj hj=>by grind))
  rw[dF]at hc;refine upon hok hc ?_
  rintro e w' ⟨G',ρ',h',out,hO,hR,hk⟩
  have hO':Ok ⟨w,G,([]:List Nat).map λi=>(ρ[i]?).getD undef,([]:List Nat).map λi=>nG (pos []) ((get? h i).getD .no),[],[]⟩ G' w' ρ' h':=hO;obtain⟨hC',hren⟩:=hC.back (ids:=[]) List.nodup_nil (by simp) (by simp) (by simp) hO';have hrows:rowsOf h []=[]:=rfl;rw[hrows]at hC';simp only[List.foldl_nil,pb]at hC';have hbk:Vx.back [] (home h.length []) h h'=h++h'.map (nG (home h.length [])):=by
   simp only[Vx.back,ak,List.drop_zero];congr 1;apply bz;intro i;simp only[aB,iT];cases h[i]?<;>rfl
  have hhome:home h.length []=λi=>h.length+i:=by rfl
  rw[hbk,hhome]at hC';rw[hhome]at hren;cases h' with
  |nil=>
   have hρ':ρ'=[]:=bR hO.hr.len;subst hρ';simp only[gO,eI]at hC';have hidr:∀(v:Value)(r:V),az G' w' [] v r->qy (λi=>h.length+i) r=r:=λv r hr=>HI (by
    cases hh:l8 r with
    |nil=>rfl
    |cons i l=>have:=hr.lt i (by grind);grind)
   cases out with
   |ret r=>
    obtain⟨v,rfl,hr⟩:=hR;have:=hren v r hr;rw[hidr v r hr]at this;exact hn v w' G' _ t h r hC' this hk
   |eU r=>
    obtain⟨v,rfl,hr⟩:=hR;have:=hren v r hr;rw[hidr v r hr]at this;exact hp v w' G' _ t h r hC' this hk
  |cons b h'=>
   simp only[fH]at hk;cases out with
   |ret r=>
    obtain⟨v,rfl,hr⟩:=hR;exact hn v w' G' _ t _ _ hC' (hren v r hr) hk
   |eU r=>
    obtain⟨v,rfl,hr⟩:=hR;exact hp v w' G' _ t _ _ hC' (hren v r hr) hk
 .skip
  rename_i i is hids;simp only[bn,fH,mQ]at hk;generalize reach h 100 (i::is) []=ids at hk;obtain⟨hchk,hkS⟩:=hk;obtain⟨hok,hS⟩:=hkS.fn hlt;simp only[LD,aO]at hchk;obtain⟨⟨h1,h2⟩,h3⟩:=hchk;have hnd:=nh h1;have hall:∀i∈ids,i<h.length/\h[i]?≠some B.no/\∀x,h[i]?=some x->∀j∈jL x,j∈ids:=by
   intro i hi;have:=aP.1 h2 i hi;simp only[aO]at this;obtain⟨⟨g1,g2⟩,g3⟩:=this;have hlt:i<h.length:=by
    simp_all
   have hx:=aA hlt;rw[get?_eq,hx]at g2 g3;simp only[cR]at g2 g3;refine⟨hlt,?_,?_⟩
   .rw[hx];intro e;rw[af e]at g2;cases g2
   .intro x hx' j hj;rw[hx]at hx';cases hx';exact cI.1 (aP.1 g3 j hj)
  have hvid:∀x∈vs,∀j∈l8 x,j∈ids:=λx hx j hj=>by
   have hm:j∈i::is:=by grind
   exact cI.1 (aP.1 h3 j hm)
  obtain⟨hP,_⟩:=hC.ok.hr.part hnd (λi hi=>(hall i hi).1) (λi hi=>(hall i hi).2.2);have hρl:=hC.ok.hr.len;have hc:=hS G w _ as.toList hP (by grind) (λk x hx=>by
   rw[aB]at hx;cases hx0:vs[k]? with
   |none=>grind
   |some x0=>
    rw[hx0]at hx;cases hx;rw[hget];refine(hv k x0 hx0).rn (λj hj=>?_);have hjm:=hvid x0 (aG hx0) j hj;have hjl:=(hall j hjm).1;rw[aB,h_ hjm,bJ,aA (by omega)];rfl)
  rw[dF]at hc;refine upon hok hc ?_
  rintro e w' ⟨G',ρ',h',out,hO,hR,hk⟩
  simp only[xf]at hk;obtain⟨hC',hren⟩:=hC.back hnd (λi hi=>(hall i hi).1) (λi hi=>(hall i hi).2.1) (λi hi=>(hall i hi).2.2) hO;cases out with
  |ret r=>
   obtain⟨v,rfl,hr⟩:=hR;exact hn v w' G' _ _ _ _ hC' (hren v r hr) hk
  |eU r=>
   obtain⟨v,rfl,hr⟩:=hR;exact hp v w' G' _ _ _ _ hC' (hren v r hr) hk
theorem qn(hC:an E n G ρ t h a w):∀(xs:List Operand)(ts:List TypeId)(os:List O),args P xs ts=some os->os.length=xs.length/\∀(i:Nat)(x:O),os[i]?=some x->az G w ρ ((xs.map a.eval).getD i undef) (gv t x)
 |[],ts,os,h=>by cases ts<;>(simp only[args]at h;cases h;simp)
 |x::xs,[],os,h=>by
  simp only[args,aK,aE]at h;obtain⟨y,hy,ys,hys,he⟩:=h;cases he;obtain⟨g1,g2⟩:=qn hC xs [] ys hys;refine⟨by grind,λi z hz=>?_⟩;cases i with
  |zero=>simp at hz;subst hz;simpa using bG hC hy
  |succ i=>grind
 |x::xs,ty::ts,os,h=>by
  simp only[args,aK,aE]at h;obtain⟨y,hy,ys,hys,he⟩:=h;cases he;obtain⟨g1,g2⟩:=qn hC xs ts ys hys;refine⟨by grind,λi z hz=>?_⟩;cases i with
  |zero=>simp at hz;subst hz;simpa using bG hC hy
  |succ i=>grind
theorem fz{f:Nat}{as:Array Value}(h:ev P f=true):(callFunc f as).run P w=.ok (.enter f as) w:=by
 unfold ev at h;unfold callFunc;cases hf:P.funcs[f]? with
 |none=>grind
 |some fn=>
  rw[hf]at h;simp only[aO,bne_iff_ne,ne_eq]at h;have hb:¬fn.body=none:=λe=>by grind
  simp_all
def all(w:World)(b:Nat):Prop:=b<w.heap.size
theorem Ng{v:Value}{x:V}{d:D}(hv:dO G w ρ v x)(hd:Nh x=some d):bp G w v d:=by
 cases hv with
 |k hv=>
  cases hv<;>simp only[Nh,reduceCtorEq,aD]at hd
  grind
  grind
  .subst hd;exact .yv _
 |fc f u cs caps h0 h1 h2=>
  cases caps with
  |cons=>contradiction
  |nil=>
   simp only[Nh,aD]at hd;subst hd;rw[xr h0 (by grind)];exact .fn f
theorem Ep{α β:Type}{f:α->Option β}:∀{l:List α}{r:List β},l.mapM f=some r->r.length=l.length/\∀(k:Nat)(y:β),r[k]?=some y->∃x,l[k]?=some x/\f x=some y:=by
 intro l
 induction l with
 |nil=>grind
 |cons x l ih=>
  intro r h;simp only[iR,aK,aE,jZ,aD]at h
  grind
theorem EA(hr:HR G w ρ h){v:Value}{x:V}(hv:dN G w ρ v x):dN (all w) w [] v (Fj h x):=by
 have hG:∀b,G b->all w b:=hr.gl;cases hv with
 |un=>exact .un _
 |ud=>exact .ud
 |d h=>exact .d (h.mono hG (λ_ _=>rfl))
 |e b o off row U h1 h2 h3=>exact .e b o off row U (hG b h1) h2 λj x hx=>(h3 j x hx).mono hG (λ_ _=>rfl)
 |cl a n z rows h=>exact .cl a n z rows (h.mono hG (λ_ _=>rfl))
 |nl z=>exact .nl z
 |q=>exact .un _
 |mp=>exact .un _
 |ov=>exact .un _
 |it=>exact .un _
 |os id a n c hρ =>
  simp only[Fj,get?_eq];split
  .rename_i z rs hx;have hB:=hr.rep id _ _ hρ hx;refine .d (hB.data.mono (λb hb=>?_) (λ_ _=>rfl));rcases hb with hb|hb
   grind
   .exact hr.lt hρ hx (by simp) (bT.2 (.inl hb))
  .exact .un _
 |p id off b hρ =>
  simp only[Fj,get?_eq];split
  .rename_i cs hx;split
   .rename_i ds hds;obtain⟨b',arr,ty,hb,h1,h2,h3⟩:=hr.rep id _ _ hρ hx;simp only[Value.pointer.injEq,aD,Addr.mk.injEq,ω]at hb;obtain⟨rfl,_⟩:=hb;obtain⟨m1,m2⟩:=Ep hds;have:=dN.e (G:=all w) (w:=w) (ρ :=[]) b 0 off ds (λj=>arr.getD j undef) (aW.1 h1).1 (λj x hj=>by
     have hl:j<arr.size:=by grind
     rw[cz h1,cE,aH,aS hl];rfl) (λj x hj=>by
     obtain⟨y,hy,hd⟩:=m2 j x hj;exact(Ng (h3 j y hy) hd).mono hG (λ_ _=>rfl))
    grind
   .exact .un _
  .exact .un _
theorem EC(hr:HR G w ρ h){v:Value}{x:V}(hv:dO G w ρ v x):dO (all w) w [] v (Ka h x):=by
 cases hv with
 |k hv=>
  have e:Ka h x=Fj h x:=by cases hv<;>rfl
  rw[e];exact .k (EA hr hv)
 |fc f u cs caps h0 h1 h2=>
  refine .fc f _ cs _ h0 (by grind) (λi x hx=>?_);rw[aB]at hx;cases hc:caps[i]? with
  |none=>grind
  |some x0=>rw[hc]at hx;cases hx;exact EA hr (h2 i x0 hc)
theorem EB(hr:HR G w ρ h){v:Value}{x:V}(hv:az G w ρ v x):az (all w) w [] v (K8 h x):=by
 cases hv with
 |tu=>exact .k (.un _)
 |o hv=>cases hv with
  |c hv=>
   have e:K8 h x=Ka h x:=by
    cases hv with
    |k hv=>cases hv<;>rfl
    |fc=>rfl
   rw[e];exact .c (EC hr hv)
  |ag cs vs h1 h2=>
   refine .o (.ag cs _ (by grind) (λi x hx=>?_));rw[aB]at hx;cases hc:vs[i]? with
   |none=>grind
   |some x0=>rw[hc]at hx;cases hx;exact EC hr (h2 i x0 hc)
theorem xB{G':Nat->Prop}{w':World}{v:Value}{d:D}(hv:bp G w v d)(hs:HA d=true):bp G' w' v d:=by
 cases hv<;>simp only[HA,cg]at hs
 .exact .int _ _
 .exact .bool _
 .exact .str _ ‹_›
 .exact .np
 .exact .nf
 .exact .ni
 .exact .nm
 .exact .fn _
theorem BC{G':Nat->Prop}{ρ':List Value}{v:Value}{x:V}(hv:az G w ρ v x)(hs:Q7 x=true):dP G' w ρ' v x:=by
 cases x<;>simp only[Q7,cg]at hs;exact .c (.k (.d (xB hv.rj hs)))
theorem Lu{G':Nat->Prop}{ρ':List Value}{v:Value}{x:V}(hv:az G w ρ v x)(hs:Q6 x=true):az G' w ρ' v x:=by
 by_cases hx:∃c,x=.tu c
 .obtain⟨c,rfl⟩:=hx;obtain⟨cs,rfl,h1,h2⟩:=hv.Vk;exact .tu cs c h1 λi x hi=>BC (.o (h2 i x hi)) (aP.1 hs x (aG hi))
 .have:Q6 x=Q7 x:=by cases x<;>first|rfl|exact absurd ⟨_,rfl⟩ hx
  exact .o (BC hv (this ▸ hs))
end
section
variable{P:Program}{E:gG}{n:Nat}{G:Nat->Prop}{ρ:List Value}{t:T}{h:H}{a:Act}{w w':World}{o:Oper}{bS:Act->World->Prop}{Q:Exit->Act->World->Prop}{K KP:V->T->H->Prop}
theorem Lt{G':Nat->Prop}{ρ':List Value}{v:Value}{x:B}(hv:cQ G w ρ v x)(hs:yy x=true):cQ G' w ρ' v x:=by
 cases x<;>simp only[yy,cg]at hs;rename_i z rs;simp only[aP]at hs;rcases hv with hv|⟨b,cap,arr,ty,h0,h1,h2,h3,h4,h5⟩
 .exact .inl hv
 .exact .inr ⟨b,cap,arr,ty,h0,h1,h2,h3,h4,λi row hr=>⟨(h5 i row hr).1,λj x hx=>xB ((h5 i row hr).2 j x hx) (hs row (aG hr) x (aG hx))⟩⟩
theorem Ls{G':Nat->Prop}{ρ':List Value}{f:Nat->Nat}{v:Value}{x:V}(hv:az G w ρ v x)(hs:BB x=true)(hf:∀i∈l8 x,ρ'[f i]?=ρ[i]?):az G' w ρ' v (qy f x):=by
 have one:∀{v:Value}{x:V},dP G w ρ v x->EW x=true->(∀i∈nH x,ρ'[f i]?=ρ[i]?)->dP G' w ρ' v (F_ f x):=by
  intro v x hv hs hf;cases x<;>simp only[EW,Q7,cg]at hs
  .exact BC (.o hv) hs
  .cases hv with
   |c hv=>cases hv with
    |k hv=>cases hv with
     |os id a n c h=>exact .c (.k (.os _ a n c ((hf _ (aF.2 rfl)).trans h)))
 by_cases hx:∃c,x=.tu c
 .obtain⟨c,rfl⟩:=hx;obtain⟨cs,rfl,h1,h2⟩:=hv.Vk;refine .tu cs _ (by grind) λi x hi=>?_;rw[aB,aJ]at hi;obtain⟨x0,hi,rfl⟩:=hi;exact one (h2 i x0 hi) (aP.1 hs x0 (aG hi)) λj hj=>hf j (by simp only[l8,aj];grind)
 .have e1:BB x=EW x:=by cases x<;>first|rfl|exact absurd ⟨_,rfl⟩ hx
  have e2:qy f x=F_ f x:=by cases x<;>first|rfl|exact absurd ⟨_,rfl⟩ hx
  have e3:l8 x=nH x:=by cases x<;>first|rfl|exact absurd ⟨_,rfl⟩ hx
  rw[e2];cases hv with
  |o hv=>exact .o (one hv (e1 ▸ hs) (e3 ▸ hf))
  |tu=>grind
theorem an.T3(hC:an E n G ρ t h a w)(hg:ga w w'){ρ1:List Value}{ns:List B}(hl:ρ1.length=ns.length)(rep:∀(k:Nat)(v:Value)(x:B),ρ1[k]?=some v->ns[k]?=some x->cQ G w' (ρ++ρ1) v x)
  (fresh:∀b,own ρ1 ns b->w.heap.size<=b) (pv:∀(i j:Nat)(v u:Value)(x y:B)(b:Nat),ρ1[i]?=some v->ns[i]?=some x->x≠.no->ρ1[j]?=some u->ns[j]?=some y->y≠.no->b∈fF v x->b∈fF u y->i=j) :
  an E n G (ρ++ρ1) t (h++ns) a w':=by
 have hO:=hC.ok;have hr:=hO.hr;have hpre:∀i,i<ρ.length->(ρ++ρ1)[i]?=ρ[i]?:=λi hi=>aR hi;have hw:∀b,G b->w'.heap[b]?=w.heap[b]?:=λb hb=>hg.iZ b (hr.gl b hb);have get:∀(i:Nat)(v:Value)(y:B),(ρ++ρ1)[i]?=some v->(h++ns)[i]?=some y->(ρ[i]?=some v/\h[i]?=some y)\/∃k,i=h.length+k/\ρ1[k]?=some v/\ns[k]?=some y:=by
  intro i v y h1 h2
  by_cases hi:i<h.length
  .rw[hpre i (by rw[hr.len];grind)]at h1
   grind
  .rw[ae (by rw[hr.len];omega),hr.len]at h1
   grind
 have hown:∀b,own (ρ++ρ1) (h++ns) b->own ρ h b\/w.heap.size<=b:=by
  rintro b ⟨i,v,y,h1,h2,h3,h4⟩
  rcases get i v y h1 h2 with⟨g1,g2⟩|⟨k,_,g1,g2⟩
  .exact .inl ⟨i,v,y,g1,g2,h3,h4⟩
  .exact .inr (fresh b ⟨k,v,y,g1,g2,h3,h4⟩)
 refine⟨⟨⟨by simp[hr.len,hl],λi v y h1 h2=>?_,λi j v u x y b h1 h2 h3 h4 h5 h6 h7 h8=>?_,λb hb=>bj (hr.gl b hb) hg.size,λb hb ho=>?_,hr.vR.mono (λ_ h=>h) hw⟩,hO.gm,λb hb=>(hO.go b hb).imp (λh=>h) λh2=>⟨h2.1.same (hw b hb),h2.2⟩,λb hb=>?_,
  λb hb hn=>(hg.iZ b (bj hb hO.size)).trans (hO.frame b hb hn),aX hO.size hg.size,hg.os.trans hO.os,hg.tape.trans hO.tape,hg.out.trans hO.out,λid v hv hs=>?_,by have:=hO.hl;grind,λr hr'=>?_,λi z rs hi=>by have:=hO.lk i z rs hi;grind⟩,hC.df,hC.sz,
  λi=>(hC.tm i).mono (λ_ h=>h) hw (λj hj=>hpre j ((hC.tm i).lt j hj))⟩
 .rcases get i v y h1 h2 with⟨g1,g2⟩|⟨k,_,g1,g2⟩
  .have hrep:=hr.rep i v y g1 g2
   by_cases hy:y=.no
   .subst hy;trivial
   .exact hrep.mono (λ_ h=>h) hw (λb hb=>hg.iZ b (hr.lt g1 g2 hy hb)) (λj hj=>hpre j (hrep.lt j hj))
  grind
 .rcases get i v x h1 h2 with⟨g1,g2⟩|⟨k,rfl,g1,g2⟩<;>rcases get j u y h4 h5 with⟨k1,k2⟩|⟨k',rfl,k1,k2⟩
  .exact hr.pv i j v u x y b g1 g2 h3 k1 k2 h6 h7 h8
  .have:=hr.lt g1 g2 h3 h7;have:=fresh b ⟨k',u,y,k1,k2,h6,h8⟩;omega
  .have:=hr.lt k1 k2 h6 h8;have:=fresh b ⟨k,v,x,g1,g2,h3,h7⟩;omega
  grind
 .rcases hown b ho with h1|h1
  .exact hr.gd b hb h1
  .have:=hr.gl b hb;omega
 .rcases hown b hb with h1|h1
  .exact hO.oo b h1
  .exact .inl (aX hO.size h1)
 .have:=hO.hand id v hv hs
  grind
 .obtain⟨h1,h2,h3⟩:=hO.uB r hr';have hlt:=(aW.1 h1).1;refine⟨(hg.iZ r hlt).trans h1,h2,λh4=>?_⟩
  grind
theorem Jj(as:Array Value)(i:Nat):as.toList.getD i undef=as.getD i undef:=by
 simp_all
theorem Et(hC:an E n G ρ t h a w){f:Nat}(hlt:f<5000000){as:Array Value}{vs:List V}(hrun:ev P f=true->(execOp a.eval o).run P w=.ok (.enter f as) w)(hl:as.size=vs.length)
  (hv:∀(i:Nat)(x:V),vs[i]?=some x->az G w ρ (as.getD i undef) x) {r:V} {ns:List B} (hS:Sat P f (vs.map (K8 h)) [] λout h'=>out=.ret r/\h'=ns) (hns:ns.all yy=true) (hr:BB r=true)
  (hnx:∀(v:Value)(w':World)(ρ':List Value),an E n G ρ' t (h++ns) a w'->az G w' ρ' v (qy (λk=>h.length+k) r)->bS (a.put o.dst v) w'):o.wp P a w bS Q:=by
 obtain⟨hok,hS⟩:=hS.fn hlt;have hr0:HR (all w) w [] []:=⟨rfl,by simp,by simp,λ_ h=>h,(λb _ ho=>by obtain⟨_,_,_,h1,_⟩:=ho;grind),hC.ok.hr.vR.mono (λb hb=>hC.ok.hr.gl b hb) (λ_ _=>rfl)⟩
 have hc:=hS (all w) w [] as.toList hr0 (by grind) (λi x hx=>by
  rw[Jj];rw[aB]at hx;cases hc:vs[i]? with
  |none=>grind
  |some x0=>rw[hc]at hx;cases hx;exact EB hC.ok.hr (hv i x0 hc))
 rw[dF]at hc;unfold Oper.wp;rw[hrun hok,Oper.upon_enter];refine hc.mono λe w' hr'=>?_;obtain⟨G',ρ1,h',out,hO,hR,rfl,rfl⟩:=hr';obtain⟨v,rfl,hv'⟩:=hR;have hno:∀b,¬own ([]:List Value) ([]:H) b:=λb ho=>by obtain⟨_,_,_,h1,_⟩:=ho;grind
 have hg:ga w w':=⟨hO.size,λb hb=>hO.frame b hb (hno b),hO.os,hO.tape,hO.out⟩
 have hC':=hC.T3 hg (ρ1:= ρ1) hO.hr.len (λk v x g1 g2=>Lt (hO.hr.rep k v x g1 g2) (aP.1 hns x (aG g2))) (λb hb=>(hO.oo b hb).resolve_right (hno b)) hO.hr.pv;refine hnx v w' _ hC' (Ls hv' hr λi hi=>?_);rw[ae (by rw[hC.ok.hr.len];omega),hC.ok.hr.len]
 grind
theorem Jd(ids:List Nat)(h:H):(gone ids h).length=h.length:=by simp[gone]
theorem zr{ids:List Nat}{h:H}{i:Nat}:(gone ids h)[i]?=if i∈ids then(h[i]?).map λ_=>.no else h[i]?:=by
 simp only[gone,aB,iT];cases h[i]? with
 |none=>simp
 |some x=>
  simp only[bJ,cE];split
  .rename_i hi;rw[cI.2 hi];rfl
  .rename_i hi;have:has ids i=false:=by
    rw[kV];exact λh=>hi (cI.1 h)
   grind
theorem oH(hC:an E n G ρ t h a w)(hn:gq E n a o K bS)(hp:Se E n a KP Q){f:Nat}(hlt:f<5000000){as:Array Value}{vs:List V}(hrun:ev P f=true->(execOp a.eval o).run P w=.ok (.enter f as) w)(hl:as.size=vs.length)
  (hv:∀(i:Nat)(x:V),vs[i]?=some x->az G w ρ (as.getD i undef) x) (hk:qc (Sat P) f vs t h K KP):o.wp P a w bS Q:=by
 unfold qc at hk;split at hk
 .exact qh hC hn hp hlt hrun hl hv hk
 .rcases hk with⟨r,hkS,hs,hk⟩|hk
  .obtain⟨hok,hS⟩:=hkS.fn hlt;have hr0:HR (all w) w [] []:=⟨rfl,by simp,by simp,λ_ h=>h,(λb _ ho=>by obtain⟨_,_,_,h1,_⟩:=ho;grind),hC.ok.hr.vR.mono (λb hb=>hC.ok.hr.gl b hb) (λ_ _=>rfl)⟩
   have hget:∀i,as.toList.getD i undef=as.getD i undef:=by
    simp_all
   have hc:=hS (all w) w [] as.toList hr0 (by grind) (λi x hx=>by
    rw[hget];rw[aB]at hx;cases hc:vs[i]? with
    |none=>grind
    |some x0=>rw[hc]at hx;cases hx;exact EB hC.ok.hr (hv i x0 hc))
   rw[dF]at hc;unfold Oper.wp;rw[hrun hok,Oper.upon_enter];refine hc.mono λe w' hr=>?_;obtain⟨G',ρ',h',out,hO,hR,rfl,rfl⟩:=hr;obtain⟨v,rfl,hv'⟩:=hR;have hg:ga w w':=⟨hO.size,λb hb=>hO.frame b hb (λho=>by obtain⟨_,_,_,h1,_⟩:=ho;grind),hO.os,hO.tape,hO.out⟩
   exact hn v w' G ρ t h r (hC.grow hg (λ_ h=>h) (λ_ h=>.inl h)) (Lu hv' hs) hk
  .rcases Re hk with hk|⟨r,ns,hS,hc,hk⟩
   .rw[bn]at hk;obtain⟨G',t',h',vs',k1,k2,k3,k4⟩:=sr _ G t h _ (λi=>as.getD i undef) hC hv hk;exact qh k1 hn hp hlt hrun (by grind) k3 k4
   .rw[bn]at hk;simp only[aO]at hc;exact Et hC hlt hrun hl hv hS hc.1 hc.2 λv w' ρ' hC' hr=>hn v w' G ρ' t _ _ hC' hr hk
theorem Ok.yZ(hO:Ok E G w ρ h){h':H}(hl:h'.length=h.length)(hh:∀(i:Nat)(y:B),h'[i]?=some y->∃x,h[i]?=some x/\(x=.no->y=.no)/\gh y=gh x/\∀v,cQ G w ρ v x->cQ G w ρ v y)
  (hk:∀(i z:Nat)(rs:List (List D)),E.h[i]?=some (.lk z rs)->h'[i]?=some (.lk z rs)):Ok E G w ρ h':=by
 have hown:∀b,own ρ h' b->own ρ h b:=λb ⟨i,v,y,h1,h2,h3,h4⟩=>by
  obtain⟨x,g1,g2,g3,_⟩:=hh i y h2;exact⟨i,v,x,h1,g1,λe=>h3 (g2 e),by rw[fF,<-g3];exact h4⟩
 refine⟨⟨by rw[hl];exact hO.hr.len,λid v y h1 h2=>?_,λi i' v v' y y' b h1 h2 h3 h4 h5 h6 h7 h8=>?_,hO.hr.gl,λb hb ho=>hO.hr.gd b hb (hown b ho),hO.hr.vR⟩,hO.gm,hO.go,λb hb=>hO.oo b (hown b hb),hO.frame,hO.size,hO.os,hO.tape,hO.out,
  hO.hand,by rw[hl];exact hO.hl,λr hr=>let⟨g1,g2,g3⟩:=hO.uB r hr;⟨g1,g2,λg=>g3 (hown r g)⟩,λi z rs hi=>⟨hk i z rs hi,(hO.lk i z rs hi).2⟩⟩
 .obtain⟨x,g1,_,_,g4⟩:=hh id y h2;exact g4 v (hO.hr.rep id v x h1 g1)
 .obtain⟨x,g1,g2,g3,_⟩:=hh i y h2;obtain⟨x',k1,k2,k3,_⟩:=hh i' y' h5;rw[fF,g3]at h7;rw[fF,k3]at h8;exact hO.hr.pv i i' v v' x x' b h1 g1 (λe=>h3 (g2 e)) h4 k1 (λe=>h6 (k2 e)) h7 h8
theorem qS{f:B×Nat->B}{h:H}{i:Nat}:(h.zipIdx.map f)[i]?=(h[i]?).map λx=>f (x,i):=by
 simp only[aB,iT];cases h[i]?<;>simp
theorem an.lock(hC:an E n G ρ t h a w)(ids:List Nat):an E n G ρ t (Ur ids h) a w:=by
 refine⟨hC.ok.yZ (by simp[Ur]) (λi y hy=>?_) (λi z rs hi=>?_),hC.df,hC.sz,hC.tm⟩
 .rw[Ur,qS,aJ]at hy;obtain⟨x,hx,rfl⟩:=hy;refine⟨x,hx,?_⟩;cases has ids i
  .exact⟨id,rfl,λ_=>id⟩
  .cases x<;>first|exact⟨λ_=>rfl,rfl,λ_=>id⟩|exact⟨nofun,rfl,λ_=>id⟩
 .rw[Ur,qS,(hC.ok.lk i z rs hi).1];show some (bif has ids i then _ else _)=_;cases has ids i<;>rfl
theorem an.unlock(hC:an E n G ρ t h a w){ids:List Nat}(hE:∀i∈ids,∀z rs,E.h[i]?≠some (.lk z rs)):an E n G ρ t (Nw ids h) a w:=by
 refine⟨hC.ok.yZ (by simp[Nw]) (λi y hy=>?_) (λi z rs hi=>?_),hC.df,hC.sz,hC.tm⟩
 .rw[Nw,qS,aJ]at hy;obtain⟨x,hx,rfl⟩:=hy;refine⟨x,hx,?_⟩;cases has ids i
  .exact⟨id,rfl,λ_=>id⟩
  .cases x<;>first|exact⟨λ_=>rfl,rfl,λ_=>id⟩|exact⟨nofun,rfl,λ_=>id⟩
 .rw[Nw,qS,(hC.ok.lk i z rs hi).1];have:has ids i=false:=by
   rw[kV];exact λh=>hE i (cI.1 h) z rs hi
  simp only[bJ,this];rfl
theorem K6(hC:an E n G ρ t h a w)(hn:gq E n a o K bS)(hp:Se E n a KP Q){f:Nat}(hlt:f<5000000){as:Array Value}{vs:List V}(hrun:ev P f=true->(execOp a.eval o).run P w=.ok (.enter f as) w)(hl:as.size=vs.length)
  (hv:∀(i:Nat)(x:V),vs[i]?=some x->az G w ρ (as.getD i undef) x) (hk:Du (Sat P) f vs t h K KP):o.wp P a w bS Q:=by
 unfold Du at hk;split at hk
 .exact qh hC hn hp hlt hrun hl hv hk
 rw[mQ,fH]at hk;have hE:∀i∈Uq h (vs.flatMap Tg),∀z rs,E.h[i]?≠some (.lk z rs):=λi hi z rs he=>by
  have:=(hC.ok.lk i z rs he).1;simp only[Uq,dH,get?_eq,this]at hi;exact absurd hi.2 (by simp)
 refine qh (hC.lock _) (K:=λv t h=>flb (Nw (Uq _ _) h) λh=>K v t h) (KP:=λv t h=>flb (Nw (Uq _ _) h) λh=>KP v t h) (λv' w' G' ρ' t' h' v k1 k2 k3=>?_) (λv' w' G' ρ' t' h' v k1 k2 k3=>?_) hlt hrun hl hv hk
 .dsimp only at k3;rw[fH]at k3;exact hn v' w' G' ρ' t' _ v (k1.unlock hE) k2 k3
 .dsimp only at k3;rw[fH]at k3;exact hp v' w' G' ρ' t' _ v (k1.unlock hE) k2 k3
variable(ow:Nat->Bool)
theorem UP(hC:an E n G ρ t h a w)(hn:gq E n a o K bS)(hp:Se E n a KP Q){f:Nat}(hlt:f<5000000){c:Call}{oa:List O}(ho:o.op=.call c)(hcf:c.callee=.value (.func f))(ha:args P c.args.toList c.argTypes.toList=some oa)
  (hk:dV (Sat P) ow (.cf f oa) t h K KP):o.wp P a w bS Q:=by
 obtain⟨g1,g2⟩:=qn hC _ _ _ ha;have hrun:ev P f=true->(execOp a.eval o).run P w=.ok (.enter f (c.args.map a.eval)) w:=λhok=>by
  have:=fz (P:=P) (w:=w) (as:=c.args.map a.eval) hok;simp[execOp,ho,resolve,hcf,Act.eval,Deferred.ofValue,invoke,this]
 have hU:∀(i:Nat)(x:V),(oa.map λx=>fi (gv t x))[i]?=some x->az G w ρ ((c.args.map a.eval).getD i undef) x:=by
  intro i x hx;rw[aB]at hx;cases hc:oa[i]? with
  |none=>grind
  |some y=>
   rw[hc]at hx;cases hx;have:=g2 i y hc;rw[aq,aB,cJ]at this;rw[aH,oV];exact wV this
 simp only[dV,bn]at hk;cases how:ow f<;>rw[how]at hk
 .simp only[ε]at hk;exact oH hC hn hp hlt hrun (by grind) hU hk
 .simp only[δ]at hk;cases hl:ow (f+7000000)<;>rw[hl]at hk
  .exact qh hC hn hp hlt hrun (by grind) hU hk
  .exact K6 hC hn hp hlt hrun (by grind) hU hk
theorem Qx{x:D}{v:Value}(h:bp G w v x):dN G w ρ v (T8 x):=by
 cases h with
 |pt b o off row U h1 h2 h3=>exact .e b o off row U h1 h2 h3
 |int k n=>exact .d (.int k n)
 |bool b=>exact .d (.bool b)
 |str s hs=>exact .d (.str s hs)
 |yv z=>exact .d (.yv z)
 |sle a z=>exact .d (.sle a z)
 |sl b o cap z rows U h1 h2 h3 h4 h5 h6=>exact .d (.sl b o cap z rows U h1 h2 h3 h4 h5 h6)
 |np=>exact .d .np
 |nf=>exact .d .nf
 |ni=>exact .d .ni
 |nm=>exact .d .nm
 |fn f=>exact .d (.fn f)
 |fc F _ cs caps h1 h2 h3=>exact .d (.fc F _ cs caps h1 h2 h3)
theorem SA{x:V}{v:Value}(h:az G w ρ v x):az G w ρ v (XO x):=by
 unfold XO;split
 .rename_i f caps;cases h.rj with
  |fc F _ cs _ h1 h2 h3=>
   refine .o (.c (.fc _ _ cs _ h1 (by grind) λi x hx=>?_));rw[aB,aJ]at hx;obtain⟨y,hy,rfl⟩:=hx;exact Qx (h3 i y hy)
 grind
theorem UQ(hC:an E n G ρ t h a w)(hn:gq E n a o K bS)(hp:Se E n a KP Q){c:Call}{x:Operand}{ox:O}{oa:List O}{t1:TypeId}(ho:o.op=.call c)(hcf:c.callee=.value x)(hx:cO P t1 x=some ox)(ha:args P c.args.toList c.argTypes.toList=some oa)
  (hk:dV (Sat P) ow (.cc ox oa) t h K KP):o.wp P a w bS Q:=by
 obtain⟨g1,g2⟩:=qn hC _ _ _ ha;have hvx:=SA (bG hC hx);have hA:∀(i:Nat)(x:V),(oa.map λx=>fi (gv t x))[i]?=some x->az G w ρ ((c.args.map a.eval).getD i undef) x:=by
  intro i x hx;rw[aB]at hx;cases hc:oa[i]? with
  |none=>grind
  |some y=>
   rw[hc]at hx;cases hx;have:=g2 i y hc;rw[aq,aB,cJ]at this;rw[aH,oV];exact wV this
 simp only[dV,bn]at hk;split at hk
 .rename_i f caps hg;rw[hg]at hvx;obtain⟨cs,hv0,hcl,hcr⟩:=hvx.Pk;cases hb:Nat.blt f 1000000<;>rw[hb]at hk
  .simp only[ε]at hk;cases hb2:Nat.blt f 1500000<;>rw[hb2]at hk
   .simp only[ε]at hk;cases hb3:Nat.blt f 2000000<;>rw[hb3]at hk
    grind
    simp only[δ]at hk;have hv:=Js hv0 (λhl=>by rw[<-fj,hb2]at hl;grind) (by simp_all);have hrun:ev P (f-1500000)=true->(execOp a.eval o).run P w=.ok (.enter (f-1500000) (#[.agg cs]++c.args.map a.eval)) w:=λhok=>by
     have:=fz (P:=P) (w:=w) (as:= #[.agg cs]++c.args.map a.eval) hok;simp[execOp,ho,resolve,hcf,hv,Deferred.ofValue,invoke]at this⊢;simp[this]
    have hU:∀(i:Nat)(x:V),(.ag caps::(oa.map λx=>fi (gv t x)))[i]?=some x->az G w ρ ((#[Value.agg cs]++c.args.map a.eval).getD i undef) x:=by
     intro i x hx
     match i with
     |0=>
      cases hx;rw[show(#[Value.agg cs]++c.args.map a.eval).getD 0 undef=.agg cs by simp[Array.getElem?_append]];exact .o (.ag cs _ hcl λi x hi=>.k (hcr i x hi))
     |i+1=>
      have:=hA i x hx;rw[aH]at this⊢;rw[Array.getElem?_append_right (by simp)];exact this
    exact oH hC hn hp (by have:=hb3;simp[]at this;omega) hrun (by grind) hU hk
   simp only[δ]at hk;have hv:=Jt hv0 (λhl=>by rw[<-fj,hb]at hl;grind) (by simp_all);have hrun:ev P (f-1000000)=true->(execOp a.eval o).run P w=.ok (.enter (f-1000000) (cs++c.args.map a.eval)) w:=λhok=>by
    have:=fz (P:=P) (w:=w) (as:=cs++c.args.map a.eval) hok;simp[execOp,ho,resolve,hcf,hv,Deferred.ofValue,invoke,this]
   have hU:∀(i:Nat)(x:V),(caps++(oa.map λx=>fi (gv t x)))[i]?=some x->az G w ρ ((cs++c.args.map a.eval).getD i undef) x:=by
    intro i x hx
    by_cases hi:i<caps.length
    .rw[aR hi]at hx;have:=hcr i x hx;rw[aH]at this⊢;rw[cX (by omega)];exact .k this
    .rw[ae (by omega)]at hx;have:=hA _ x hx;rw[aH]at this⊢
     grind
   exact oH hC hn hp (by have:=hb2;simp[]at this;omega) hrun (by grind) hU hk
  simp only[δ]at hk;have hv:=xu hv0 (by simp_all);have hrun:ev P f=true->(execOp a.eval o).run P w=.ok (.enter f (c.args.map a.eval++cs)) w:=λhok=>by
   have:=fz (P:=P) (w:=w) (as:=c.args.map a.eval++cs) hok;simp[execOp,ho,resolve,hcf,hv,Deferred.ofValue,invoke,this]
  have hU:∀(i:Nat)(x:V),((oa.map λx=>fi (gv t x))++caps)[i]?=some x->az G w ρ ((c.args.map a.eval++cs).getD i undef) x:=by
   intro i x hx;have hsz:(c.args.map a.eval).size=(oa.map λx=>fi (gv t x)).length:=by grind
   by_cases hi:i<(oa.map λx=>fi (gv t x)).length
   .rw[aR hi]at hx;have:=hA i x hx;rw[aH]at this⊢
    grind
   .rw[ae (by omega)]at hx;have:=hcr _ x hx;rw[aH]at this⊢;rw[Array.getElem?_append_right (by omega),hsz];exact .k this
  exact oH hC hn hp (by have:=hb;simp[]at this;omega) hrun (by grind) hU hk
 .rename_i f hg;rw[hg]at hvx;have hv:=B_ hvx.rj;have hrun:ev P f=true->(execOp a.eval o).run P w=.ok (.enter f (c.args.map a.eval)) w:=λhok=>by
   have:=fz (P:=P) (w:=w) (as:=c.args.map a.eval) hok;simp[execOp,ho,resolve,hcf,hv,Deferred.ofValue,invoke,this]
  cases hb:Nat.blt f 5000000<;>rw[hb]at hk
  grind
  .rw[δ]at hk;exact oH hC hn hp (by simp_all) hrun (by grind) hA hk
 grind
end
end Go.Vx
