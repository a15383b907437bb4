/- Lemmas. Conditions: none. -/
import Derived.Test.YtmigecldjbgneaaGreatDoorQKAN
namespace Go.Vx
def rv(t:T):T:=(pO [] t).filter λp=> !(Kx p.2)
theorem nV{t:T}(f:Nat×V->Bool):∀{r:T},lR t r->lR t (r.filter f)
 |[],_=>trivial
 |p::r,h=>by
  rw[qt];split
  .exact⟨h.1,nV f h.2⟩
  .exact nV f h.2
theorem Bh(t:T):lR t (rv t):=nV _ (uS t t [] λ_ _=>rfl)
theorem FD(t:T):((rv t).all λp=> !(Kx p.2))=true:=by
 rw[aP];exact λp hp=>(dH.1 hp).2
theorem Sat.iter{P:Program}{f:Nat}{vs:List V}{h:H}{xs:List (List D)}(hI:AV P f vs h xs)(z:Nat):Sat P (5000000+f) vs h λo h'=>o=.ret (.d (.sl z xs))/\h'=[]:=
 .inr ⟨Nat.le_add_right ..,z,xs,by grind,rfl,rfl⟩
theorem xF{P:Program}{n0:Nat}{iha ihb:Nat->T->H->(Ex->T->H->Prop)->Prop}{g:O}{p:Nat}{t:T}{h:H}{K:Ex->T->H->Prop}(f:Nat)(caps:List V)(ids:List Nat){β:Type}(l:List β)(fd:β->D){A:Type}(I:Nat->A->Prop)(Hs:A->H)(x0:A)(n1:Nat)
  (h1:gv t g=.fc f caps) (h2:(Nat.blt f 1000000&&(LD h ids (caps.flatMap lN)&&((caps.all λx=> !(PH x))&&ids.all λi=>Xx ((get? h i).getD .no))))=true)
  (hI:AV P f (caps.map (L_ (pos ids))) (ids.map λi=>nG (pos ids) ((get? h i).getD .no)) (l.map λb=>[fd b])) (hd:∀b,TW (fd b)) (h0:I 0 x0) (h3:kX h (Hs x0))
  (hL:∀x,(Hs x).length=n1/\zV n0 (rv t) (Hs x)=true/\(ids.map λj=>get? (Hs x) j)=ids.map λj=>get? h j)
  (hR:∀(i:Nat) (b:β) (x:A),l[i]? = some b→I i x→fl (Sp [p] [fd b] (rv t)) λt1=>iha n1 t1 (Hs x) λe t' h'=>match e with
   |.qD=>ihb h'.length t' h' λe _ h'=>(match e with
    |.qD=>∃y,I (i+1) y/\kX h' (Hs y)
    |.ext j=>fl (rv t) λt=>K (.ext j) t h'
    |.ret=>fl (rv t) λt=>K .ret t h'
    |.eU _=>False)
   |_=>False)
  (hD:∀x,I l.length x->fl (rv t) λt=>K .qD t (Hs x)):TX (Sat P) n0 iha ihb g [p] t h K:=by
 unfold TX;simp only[aO]at h2;simp only[bn]at hR hD;refine⟨f,caps,ids,rv t,A,I,Hs,x0,n1,1,l.map λb=>[fd b],⟨h1,h2.1,h2.2.1,h2.2.2.1,h2.2.2.2⟩,.iter hI 1,⟨rfl,λr hr=>?_⟩,⟨Bh t,⟨h0,h3⟩,FD t⟩,hL,λi r x hr hi=>?_,by grind⟩
 grind
 .rw[aB,aJ]at hr;obtain⟨b,hb,rfl⟩:=hr;exact hR i b x hb hi
theorem sa{ρ:List Value}{h:H}(hl:ρ.length=h.length){cs:List V}{z b i k:Nat}(hb:h[b]?=some (.cells cs))(ho:own (ρ++[.slice none 0 0]) (h.set b (.cells (cs.set i (.os h.length)))++[.rows z []]) k):own ρ h k:=by
 obtain⟨id,v,x,h1,h2,h3,h4⟩:=ho
 by_cases hi:id<ρ.length
 .rw[aR hi]at h1;rw[aR (by grind)]at h2
  by_cases e:b=id
  .subst e;rw[bZ (aC.1 hb).1]at h2;cases h2;exact⟨b,v,_,h1,hb,by simp,h4⟩
  .rw[bq e]at h2;exact⟨id,v,x,h1,h2,h3,h4⟩
 .have hid:id=ρ.length:=by
   grind
  subst hid;simp at h1;rw[ae (by grind)]at h2;simp[hl]at h2;subst h1 h2;contradiction
theorem qo.own{P:Program}{f:Nat}{vs:List V}{h:H}{K:KT}(b i:Nat){cs:List V}{z:Nat}(hb:h[b]?=some (.cells cs))(hi:cs[i]?=some (.nl z))(hs:qo P f vs (h.set b (.cells (cs.set i (.os h.length)))++[.rows z []]) K):qo P f vs h K:=by
  refine⟨hs.1,λG w ρ as hR hl hv=>?_⟩
  have hln:=hR.len
  have hpre:∀j,j<h.length->(ρ++[Value.slice none 0 0])[j]?=ρ[j]?:=λj hj=>aR (by omega)
  have hidB:∀(id:Nat)(v:Value)(x:B),ρ[id]?=some v->h[id]?=some x->∀j∈jL x,j<h.length:=λid v x h1 h2 j hj=>by
    have:=(hR.rep id v x h1 h2).lt j hj
    omega
  have hR':HR G w (ρ++[.slice none 0 0]) (h.set b (.cells (cs.set i (.os h.length)))++[.rows z []]):=by
    refine⟨by grind,λid v x h1 h2=>?_,λid id' v v' x x' k h1 h2 h3 h4 h5 h6 h7 h8=>?_,hR.gl,λk hk ho=>hR.gd k hk (sa hln hb ho),hR.vR⟩
    · by_cases hid:id<ρ.length
      · rw [aR hid] at h1
        rw[aR (by grind)]at h2
        by_cases e:b=id
        · subst e
          rw[bZ (by omega)]at h2
          cases h2
          have hcl:=hidB b v _ h1 hb
          obtain⟨k,arr,ty,rfl,g1,g2,g3⟩:=hR.rep b v _ h1 hb
          refine⟨k,arr,ty,rfl,g1,by grind,λj y hy=>?_⟩
          by_cases ej:i=j
          · subst ej
            rw[bZ (aC.1 hi).1]at hy
            cases hy
            have:=g3 i _ hi
            generalize arr.getD i undef=u at this⊢
            cases this with
            |k h=>cases h with
              |nl=>exact .k (.os _ none 0 0 (by grind))
          · rw[bq ej]at hy
            exact(g3 j y hy).mono (λ_ h=>h) (λ_ _=>rfl) (λq hq=>hpre q (hcl q (by simp only[jL,aj];grind)))
        · rw[bq e]at h2
          exact(hR.rep id v x h1 h2).mono (λ_ h=>h) (λ_ _=>rfl) (λ_ _=>rfl) (λq hq=>hpre q (hidB id v x h1 h2 q hq))
      · have hid:id=ρ.length:=by
          grind
        subst hid
        simp at h1
        rw[ae (by grind)]at h2
        simp[hln]at h2
        subst h1 h2
        exact .inl ⟨rfl,rfl⟩
    · have low:∀(id:Nat)(v:Value)(x:B),(ρ++[Value.slice none 0 0])[id]?=some v->(h.set b (.cells (cs.set i (.os h.length)))++[.rows z []])[id]?=some x->x≠.no->k∈fF v x->∃y,ρ[id]?=some v/\h[id]?=some y/\y≠.no/\k∈fF v y:=by
        intro id v x h1 h2 h3 h4
        by_cases hid:id<ρ.length
        · rw[aR hid]at h1
          rw[aR (by grind)]at h2
          by_cases e:b=id
          · subst e
            rw[bZ (aC.1 hb).1]at h2
            cases h2
            exact⟨_,h1,hb,by simp,h4⟩
          grind
        · have hid:id=ρ.length:=by
            grind
          subst hid
          simp at h1
          rw[ae (by grind)]at h2
          simp[hln]at h2
          subst h1 h2
          contradiction
      obtain⟨y,a1,a2,a3,a4⟩:=low id v x h1 h2 h3 h7
      obtain⟨y',b1,b2,b3,b4⟩:=low id' v' x' h4 h5 h6 h8
      exact hR.pv id id' v v' y y' k a1 a2 a3 b1 b2 b3 a4 b4
  refine(hs.2 G w (ρ++[.slice none 0 0]) as hR' hl (λj x hx=>(hv j x hx).mono (λ_ h=>h) (λ_ _=>rfl) (λq hq=>hpre q (by have:=(hv j x hx).lt q hq;omega)))).mono λe w' ⟨G',ρ',h',out,hO,hrep,hk⟩=>⟨G',ρ',h',out,?_,hrep,hk⟩
  have hle:=hO.hl
  simp at hle
  exact⟨hO.hr,hO.gm,λk hk=>(hO.go k hk).imp (λh=>h) λ⟨c,d⟩=>⟨c,d.imp (λh=>h) (sa hln hb)⟩,λk hk=>(hO.oo k hk).imp (λh=>h) (sa hln hb),λk hk hn=>hO.frame k hk λho=>hn (sa hln hb ho),hO.size,hO.os,hO.tape,hO.out,
    λid v hv hs=>hO.hand id v (by grind) hs,by grind,(λ_ h=>nomatch h),λi z rs hi=>by have:=hO.lk i z rs;grind⟩
theorem Sat.own{P:Program}{f:Nat}{vs:List V}{h:H}{K:KT}(hf:f<5000000)(b i:Nat){cs:List V}{z:Nat}(hb:h[b]?=some (.cells cs))(hi:cs[i]?=some (.nl z))(hs:Sat P f vs (h.set b (.cells (cs.set i (.os h.length)))++[.rows z []]) K):Sat P f vs h K:=
 .inl ((hs.fn hf).own b i hb hi)
section
variable{P:Program}{E:gG}{G G':Nat->Prop}{w w':World}{ρ ρ':List Value}{h h':H}{f:Nat}{vs:List V}{K K':Out->H->Prop}
def Xw(f:Nat->Nat):Out->Out
 |.ret v=>.ret (qy f v)
 |.eU v=>.eU (qy f v)
def YG:Out->List Nat
 |.ret v=>l8 v
 |.eU v=>l8 v
def W7(h h':H)(ids vids:List Nat):Bool:=rI ids&&((ids.all λi=>Nat.blt i h'.length&&(jL ((get? h' i).getD .no)).all (has ids))&&(vids.all (has ids)&&(Nat.ble h.length ids.length&&h.zipIdx.all λp=>rP p.1||(match get? ids p.2 with
 |some j=>Nat.beq j p.2
 |none=>false))))
theorem qo.tell(hs:qo P f vs h K')(hk:∀o h',K' o h'->∃ids,W7 h h' ids (YG o)=true/\K (Xw (pos ids) o) (ids.map λi=>nG (pos ids) ((get? h' i).getD .no))):qo P f vs h K:=
 ⟨hs.1,λG w ρ as h1 h2 h3=>(hs.2 G w ρ as h1 h2 h3).mono λe w' ⟨G',ρ',h',out,hO,hR,hK⟩=>by
  obtain⟨ids,hc,hK⟩:=hk out h' hK;simp only[W7,aO,aP,cT]at hc;obtain⟨c1,c2,c3,c4,c5⟩:=hc;have hn:=nh c1;have hlt:∀i∈ids,i<h'.length:=λi hi=>(fj ..).mp (c2 i hi).1;have hcl:∀i∈ids,∀x,h'[i]?=some x->∀j∈jL x,j∈ids:=λi hi x hx j hj=>cI.1 ((c2 i hi).2 j (by rw[get?_eq,hx];exact hj));have hp:∀i x,h[i]?=some x->rP x=true\/ids[i]?=some i:=λi x hx=>by
   rcases c5 (x,i) (List.mem_zipIdx_iff_getElem?.2 hx)with h4|h4
   .exact .inl h4
   .right;dsimp only at h4;rw[get?_eq]at h4;split at h4
    .rename_i j hj;rw[hj,kA h4]
    .cases h4
  obtain⟨g1,g2⟩:=hO.hr.part hn hlt hcl;have g3:∀b,Vx.own (ids.map λi=>(ρ'[i]?).getD undef) (ids.map λi=>nG (pos ids) ((get? h' i).getD .no)) b->Vx.own ρ' h' b:=λb hb=>by
   obtain⟨i,v,x,_,k1,k2,k3,k4⟩:=g2 b hb;exact⟨i,v,x,k1,k2,k3,k4⟩
  have hren:∀v x,az G' w' ρ' v x->(∀j∈l8 x,j∈ids)->az G' w' (ids.map λi=>(ρ'[i]?).getD undef) v (qy (pos ids) x):=λv x hv hx=>hv.rn λj hj=>by
   have hm:=hx j hj;rw[aB,h_ hm,bJ,aA (by rw[hO.hr.len];exact hlt j hm)];rfl
  refine⟨G',_,_,_,⟨g1,hO.gm,hO.go,λb hb=>hO.oo b (g3 b hb),hO.frame,hO.size,hO.os,hO.tape,hO.out,λi v hv hs=>?_,by simpa using bN c4,(λ_ h=>nomatch h),λi z rs hi=>?_⟩,?_,hK⟩
  .obtain⟨x,hx⟩:∃x,h[i]?=some x:=⟨_,aA (by rw[<-h1.len];exact(aC.1 hv).1)⟩
   rcases hp i x hx with h4|h4
   .exfalso;have hrep:=h1.rep i v x hv hx;cases x<;>simp[rP]at h4
    .rcases hrep with⟨e,_⟩|⟨_,_,_,_,e,_⟩<;>(rw[e]at hs;cases hs)
    .obtain⟨_,_,_,_,e,_⟩:=hrep;rw[e]at hs;cases hs
   .rw[aB,h4,bJ,hO.hand i v hv hs];rfl
  .obtain⟨k1,k2⟩:=hO.lk i z rs hi;have h4:=(hp i _ hi).resolve_left nofun;have hir:i<ρ'.length:=by rw[hO.hr.len];exact(aC.1 k1).1
   rw[aB,aB,h4,bJ,bJ,get?_eq,k1,<-k2,aA hir];exact⟨rfl,rfl⟩
  .cases out with
   |ret r=>exact hR.imp λv ⟨e,hv⟩=>⟨e,hren v r hv λj hj=>cI.1 (c3 j hj)⟩
   |eU r=>exact hR.imp λv ⟨e,hv⟩=>⟨e,hren v r hv λj hj=>cI.1 (c3 j hj)⟩⟩
theorem Sat.tell(hf:f<5000000)(ids:List Nat){o:Out}{x:H}(hs:Sat P f vs h λout h'=>out=o/\h'=x)(hc:W7 h x ids (YG o)=true)(hk:K (Xw (pos ids) o) (ids.map λi=>nG (pos ids) ((get? x i).getD .no))):Sat P f vs h K:=
 .inl ((hs.fn hf).tell λ_ _ ⟨e1,e2⟩=>⟨ids,by rw[e1,e2];exact hc,by rw[e1,e2];exact hk⟩)
end
theorem Ha{P:Program}{f:Nat}{vs:List V}{F:Nat}{rows:List (List D)}{x:D}(hf:f<5000000)
  (hs:Sat P f vs [] λo h=>o=.ret (.ag [.fc F ((List.range rows.length).map λi=>.p i 0),.d x])/\h=rows.map λr=>.cells (r.map .d)) :
  bL P f vs (.ag [.d (.fc F (rows.map λr=>.pt r 0)),.d x]):=by
 have hs:=hs.fn hf;refine .inl ⟨hs.1,λG w ρ as hR hl hv=>?_⟩
 match ρ,hR.len with
 |[],_=>
 refine Calls.mono (hs.2 G w [] as hR hl hv) ?_
 rintro e w' ⟨G',ρ',h',out,hO,hrep,rfl,rfl⟩
 obtain⟨v,rfl,hv2⟩:=hrep;have no:∀b,¬own ([]:List Value) [] b:=by exact nofun
 have hcl:∀b,own ρ' (rows.map λr=>B.cells (r.map V.d)) b->LC w' b:=by
  rintro b ⟨id,v,y,h1,h2,h3,h4⟩
  have hr:=hO.hr.rep id v y h1 h2;rw[aB,aJ]at h2;obtain⟨r,_,rfl⟩:=h2;obtain⟨b',arr,ty,rfl,g1,_⟩:=hr;have:=(fT).1 h4;cases this;exact⟨arr,ty,_,g1⟩
 have hlt:∀b,LC w' b->b<w'.heap.size:=λb ⟨_,_,_,h⟩=>(aW.1 h).1;have same:∀b,G' b->w'.heap[b]?=w'.heap[b]?:=λ_ _=>rfl;refine⟨λb=>G' b\/own ρ' (rows.map λr=>B.cells (r.map V.d)) b,[],[],.ret (.ag [.d (.fc F (rows.map λr=>.pt r 0)),.d x]),⟨⟨rfl,λid v x h1=>by grind,λid _ _ _ _ _ _ h1=>by grind,λb hb=>hb.elim (hO.hr.gl b) λh=>hlt b (hcl b h),λb _=>no b,hO.hr.vR.mono (λ_ h=>.inl h) same⟩,
  λb h=>.inl (hO.gm b h),λb hb=>?_,λb h=>absurd h (no b),hO.frame,hO.size,hO.os,hO.tape,hO.out,λid v h1=>by grind,aL _,(λ_ h=>nomatch h),λi z rs hi=>by grind⟩,⟨v,rfl,?_⟩,rfl,rfl⟩
 .rcases hb with h|h
  .exact hO.go b h
  .exact .inr ⟨hcl b h,hO.oo b h⟩
 .cases hv2 with|o hv2=>
  cases hv2 with
  |c h=>contradiction
  |ag cs _ h1 h2=>
   refine .o (.ag cs _ h1 λi y hy=>?_)
   match i,hy with
   |1,hy=>
    have:=h2 1 _ rfl;cases hy;generalize cs.getD 1 undef=u at this;cases this with|k h=>cases h with|d h=>exact .k (.d (h.mono (λ_ h=>.inl h) same))
   |0,hy=>
    have:=h2 0 _ rfl;cases hy;generalize cs.getD 0 undef=u at this;cases this with
    |k h=>cases h
    |fc _ _ as _ g1 g2 g3=>
     refine .k (.d (.fc _ _ as _ g1 (by grind) λj y hy=>?_));rw[aB,aJ]at hy;obtain⟨r,hr,rfl⟩:=hy;have hj:=(aC.1 hr).1;have g4:=g3 j (.p j 0) (by grind);generalize as.getD j undef=u at g4;cases g4 with
     |p _ _ b hb=>
      have hh:(rows.map λr=>B.cells (r.map V.d))[j]?=some (.cells (r.map V.d)):=by grind
      obtain⟨b',arr,ty,e1,e2,e3,e4⟩:=hO.hr.rep j _ _ hb hh;cases e1;have ho:own ρ' (rows.map λr=>B.cells (r.map V.d)) b:=⟨j,_,_,hb,hh,by simp,(fT).2 rfl⟩
      refine .pt b 0 0 r (λk=>arr.getD k undef) (.inr ho) (λk x hk=>?_) λk x hk=>?_
      .have:k<arr.size:=by grind
       rw[cE,cz e2,aH,aS this];rfl
      .have:=e4 k (.d x) (by grind);generalize arr.getD k undef=u at this;cases this with|k h=>cases h with|d h=>exact h.mono (λ_ h=>.inl h) same
end Go.Vx