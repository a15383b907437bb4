/- Lemmas. Conditions: none. -/
import Derived.Test.YtjpgfgajkjhonaaGreatDoorQRAO
namespace Go.Vx
def rE(t:T):T:=(oW [] t).filter λp=> !(KH p.2)
theorem mg{t:T}(f:Nat×V->Bool):∀{r:T},lD t r->lD t (r.filter f)
 |[],_=>trivial
 |p::r,h=>by
  rw[qH];split
  .exact⟨h.1,mg f h.2⟩
  .exact mg f h.2
theorem A_(t:T):lD t (rE t):=mg _ (tY t t [] λ_ _=>rfl)
theorem EX(t:T):((rE t).all λp=> !(KH p.2))=true:=by
 rw[aS];exact λp hp=>(dh.1 hp).2
theorem Sat.iter{P:Program}{f:Nat}{vs:List V}{h:H}{xs:List (List D)}(hI:zZ P f vs h xs)(z:Nat):Sat P (5000000+f) vs h λo h'=>o=.ret (.d (.sl z xs))/\h'=[]:=
 .inr ⟨Nat.le_add_right ..,z,xs,by rw[Nat.add_sub_cancel_left];exact hI,rfl,rfl⟩
theorem wZ{P:Program}{n0:Nat}{iha ihb:Nat->T->H->(Ex->T->H->Prop)->Prop}{g:O}{p:Nat}{t:T}{h:H}{K:Ex->T->H->Prop}(f:Nat)(caps:List V)(ids:List Nat){β:Type}(l:List β)(fd:β->D){A:Type}(I:Nat->A->Prop)(Hs:A->H)(x0:A)(n1:Nat)
  (h1:gv t g=.fc f caps) (h2:(Nat.blt f 1000000&&(FQ h ids (caps.flatMap ij)&&((caps.all λx=> !(NS x))&&ids.all λi=>Wq ((get? h i).getD .no))))=true)
  (hI:zZ P f (caps.map (wW (pos ids))) (ids.map λi=>eR (pos ids) ((get? h i).getD .no)) (l.map λb=>[fd b])) (hd:∀b,S7 (fd b)) (h0:I 0 x0) (h3:lE h (Hs x0))
  (hL:∀x,(Hs x).length=n1/\yb n0 (rE t) (Hs x)=true/\(ids.map λj=>get? (Hs x) j)=ids.map λj=>get? h j)
  (hR:∀(i:Nat) (b:β) (x:A),l[i]? = some b→I i x→fl (Ry [p] [fd b] (rE t)) λt1=>iha n1 t1 (Hs x) λe t' h'=>match e with
   |.p7=>ihb h'.length t' h' λe _ h'=>(match e with
    |.p7=>∃y,I (i+1) y/\lE h' (Hs y)
    |.ext j=>fl (rE t) λt=>K (.ext j) t h'
    |.ret=>fl (rE t) λt=>K .ret t h'
    |.fg _=>False)
   |_=>False)
  (hD:∀x,I l.length x->fl (rE t) λt=>K .p7 t (Hs x)):Sb (Sat P) n0 iha ihb g [p] t h K:=by
 unfold Sb;simp only[aP]at h2;simp only[bf]at hR hD;refine⟨f,caps,ids,rE t,A,I,Hs,x0,n1,1,l.map λb=>[fd b],⟨h1,h2.1,h2.2.1,h2.2.2.1,h2.2.2.2⟩,.iter hI 1,⟨rfl,λr hr=>?_⟩,⟨A_ t,⟨h0,h3⟩,EX t⟩,hL,λi r x hr hi=>?_,by rw[aH];exact hD⟩
 .obtain⟨b,_,rfl⟩:=bJ.1 hr;exact⟨rfl,λd hm=>by rw[aL.1 hm];exact hd b⟩
 .rw[aB,aG]at hr;obtain⟨b,hb,rfl⟩:=hr;exact hR i b x hb hi
theorem r_{ρ:List Value}{h:H}(hl:ρ.length=h.length){cs:List V}{z b i k:Nat}(hb:h[b]?=some (.cells cs))(ho:own (ρ++[.slice none 0 0]) (h.set b (.cells (cs.set i (.os h.length)))++[.rows z []]) k):own ρ h k:=by
 obtain⟨id,v,x,h1,h2,h3,h4⟩:=ho
 by_cases hi:id<ρ.length
 .rw[aT hi]at h1;rw[aT (by simpa[<-hl]using hi)]at h2
  by_cases e:b=id
  .subst e;rw[b_ (aC.1 hb).1]at h2;cases h2;exact⟨b,v,_,h1,hb,by simp,h4⟩
  .rw[dt e]at h2;exact⟨id,v,x,h1,h2,h3,h4⟩
 .have hid:id=ρ.length:=by
   have:=(aC.1 h1).1;simp at this;omega
  subst hid;simp at h1;rw[aY (by simp[hl])]at h2;simp[hl]at h2;subst h1 h2;simp[eU,fO,gh]at h4
theorem uz.own{P:Program}{f:Nat}{vs:List V}{h:H}{K:KT}(b i:Nat){cs:List V}{z:Nat}(hb:h[b]?=some (.cells cs))(hi:cs[i]?=some (.nl z))(hs:uz P f vs (h.set b (.cells (cs.set i (.os h.length)))++[.rows z []]) K):uz P f vs h K:=by
  refine⟨hs.1,λG w ρ as hR hl hv=>?_⟩
  have hln:=hR.len
  have hpre:∀j,j<h.length->(ρ++[Value.slice none 0 0])[j]?=ρ[j]?:=λj hj=>aT (by omega)
  have hidB:∀(id:Nat)(v:Value)(x:B),ρ[id]?=some v->h[id]?=some x->∀j∈eZ x,j<h.length:=λid v x h1 h2 j hj=>by
    have:=(hR.rep id v x h1 h2).lt j hj
    omega
  have hR':HR G w (ρ++[.slice none 0 0]) (h.set b (.cells (cs.set i (.os h.length)))++[.rows z []]):=by
    refine⟨by simp[hln],λid v x h1 h2=>?_,λid id' v v' x x' k h1 h2 h3 h4 h5 h6 h7 h8=>?_,hR.gl,λk hk ho=>hR.gd k hk (r_ hln hb ho),hR.sF⟩
    · by_cases hid:id<ρ.length
      · rw [aT hid] at h1
        rw[aT (by simpa[<-hln]using hid)]at h2
        by_cases e:b=id
        · subst e
          rw[b_ (by omega)]at h2
          cases h2
          have jb:=hidB b v _ h1 hb
          obtain⟨k,arr,ty,rfl,g1,g2,g3⟩:=hR.rep b v _ h1 hb
          refine⟨k,arr,ty,rfl,g1,by simpa using g2,λj y hy=>?_⟩
          by_cases ej:i=j
          · subst ej
            rw[b_ (aC.1 hi).1]at hy
            cases hy
            have:=g3 i _ hi
            generalize arr.getD i undef=u at this⊢
            cases this with
            |k h=>cases h with
              |nl=>exact .k (.os _ none 0 0 (by rw[<-hln];simp))
          · rw[dt ej]at hy
            exact(g3 j y hy).mono (λ_ h=>h) (λ_ _=>rfl) (λq hq=>hpre q (jb q (by simp only[eZ,aO];exact⟨y,aJ hy,hq⟩)))
        · rw[dt e]at h2
          exact(hR.rep id v x h1 h2).mono (λ_ h=>h) (λ_ _=>rfl) (λ_ _=>rfl) (λq hq=>hpre q (hidB id v x h1 h2 q hq))
      · have hid:id=ρ.length:=by
          have:=(aC.1 h1).1
          simp at this
          omega
        subst hid
        simp at h1
        rw[aY (by simp[hln])]at h2
        simp[hln]at h2
        subst h1 h2
        exact .inl ⟨rfl,rfl⟩
    · have low:∀(id:Nat)(v:Value)(x:B),(ρ++[Value.slice none 0 0])[id]?=some v->(h.set b (.cells (cs.set i (.os h.length)))++[.rows z []])[id]?=some x->x≠.no->k∈eU v x->∃y,ρ[id]?=some v/\h[id]?=some y/\y≠.no/\k∈eU v y:=by
        intro id v x h1 h2 h3 h4
        by_cases hid:id<ρ.length
        · rw[aT hid]at h1
          rw[aT (by simpa[<-hln]using hid)]at h2
          by_cases e:b=id
          · subst e
            rw[b_ (aC.1 hb).1]at h2
            cases h2
            exact⟨_,h1,hb,by simp,h4⟩
          · rw[dt e]at h2
            exact⟨_,h1,h2,h3,h4⟩
        · have hid:id=ρ.length:=by
            have:=(aC.1 h1).1
            simp at this
            omega
          subst hid
          simp at h1
          rw[aY (by simp[hln])]at h2
          simp[hln]at h2
          subst h1 h2
          simp[eU,fO,gh]at h4
      obtain⟨y,a1,a2,a3,a4⟩:=low id v x h1 h2 h3 h7
      obtain⟨y',b1,b2,b3,b4⟩:=low id' v' x' h4 h5 h6 h8
      exact hR.oB id id' v v' y y' k a1 a2 a3 b1 b2 b3 a4 b4
  refine(hs.2 G w (ρ++[.slice none 0 0]) as hR' hl (λj x hx=>(hv j x hx).mono (λ_ h=>h) (λ_ _=>rfl) (λq hq=>hpre q (by have:=(hv j x hx).lt q hq;omega)))).mono λe w' ⟨G',ρ',h',out,hO,hrep,hk⟩=>⟨G',ρ',h',out,?_,hrep,hk⟩
  have hle:=hO.hl
  simp at hle
  exact⟨hO.hr,hO.gm,λk hk=>(hO.go k hk).imp (λh=>h) λ⟨c,d⟩=>⟨c,d.imp (λh=>h) (r_ hln hb)⟩,λk hk=>(hO.oo k hk).imp (λh=>h) (r_ hln hb),λk hk hn=>hO.frame k hk λho=>hn (r_ hln hb ho),hO.size,hO.os,hO.tape,hO.out,
    λid v hv hs=>hO.hand id v (by show(ρ++[_])[id]?=_;rw[aT (aC.1 hv).1];exact hv) hs,by show h.length<=h'.length;omega,λ_ h=>nomatch h⟩
theorem Sat.own{P:Program}{f:Nat}{vs:List V}{h:H}{K:KT}(hf:f<5000000)(b i:Nat){cs:List V}{z:Nat}(hb:h[b]?=some (.cells cs))(hi:cs[i]?=some (.nl z))(hs:Sat P f vs (h.set b (.cells (cs.set i (.os h.length)))++[.rows z []]) K):Sat P f vs h K:=
 .inl ((hs.fn hf).own b i hb hi)
theorem G5{P:Program}{f:Nat}{vs:List V}{F:Nat}{rows:List (List D)}{x:D}(hf:f<5000000)
  (hs:Sat P f vs [] λo h=>o=.ret (.ag [.fc F ((List.range rows.length).map λi=>.p i 0),.d x])/\h=rows.map λr=>.cells (r.map .d)) :
  bK P f vs (.ag [.d (.fc F (rows.map λr=>.pt r 0)),.d x]):=by
 have hs:=hs.fn hf;refine .inl ⟨hs.1,λG w ρ as hR hl hv=>?_⟩
 match ρ,hR.len with
 |[],_=>
 refine Calls.mono (hs.2 G w [] as hR hl hv) ?_
 rintro e w' ⟨G',ρ',h',out,hO,hrep,rfl,rfl⟩
 obtain⟨v,rfl,hv2⟩:=hrep;have no:∀b,¬own ([]:List Value) [] b:=by rintro b ⟨id,v,x,h1,_⟩;cases h1
 have jb:∀b,own ρ' (rows.map λr=>B.cells (r.map V.d)) b->KO w' b:=by
  rintro b ⟨id,v,y,h1,h2,h3,h4⟩
  have hr:=hO.hr.rep id v y h1 h2;rw[aB,aG]at h2;obtain⟨r,_,rfl⟩:=h2;obtain⟨b',arr,ty,rfl,g1,_⟩:=hr;have:=(fi).1 h4;cases this;exact⟨arr,ty,_,g1⟩
 have hlt:∀b,KO w' b->b<w'.heap.size:=λb ⟨_,_,_,h⟩=>(aQ.1 h).1;have same:∀b,G' b->w'.heap[b]?=w'.heap[b]?:=λ_ _=>rfl;refine⟨λb=>G' b\/own ρ' (rows.map λr=>B.cells (r.map V.d)) b,[],[],.ret (.ag [.d (.fc F (rows.map λr=>.pt r 0)),.d x]),⟨⟨rfl,λid v x h1=>by(cases h1),λid _ _ _ _ _ _ h1=>by(cases h1),λb hb=>hb.elim (hO.hr.gl b) λh=>hlt b (jb b h),λb _=>no b,hO.hr.sF.mono (λ_ h=>.inl h) same⟩,
  λb h=>.inl (hO.gm b h),λb hb=>?_,λb h=>absurd h (no b),hO.frame,hO.size,hO.os,hO.tape,hO.out,λid v h1=>by(cases h1),aM _,λ_ h=>nomatch h⟩,⟨v,rfl,?_⟩,rfl,rfl⟩
 .rcases hb with h|h
  .exact hO.go b h
  .exact .inr ⟨jb b h,hO.oo b h⟩
 .cases hv2 with|o hv2=>
  cases hv2 with
  |c h=>cases h with|k h=>cases h
  |ag cs _ h1 h2=>
   refine .o (.ag cs _ h1 λi y hy=>?_)
   match i,hy with
   |1,hy=>
    have:=h2 1 _ rfl;cases hy;generalize cs.getD 1 undef=u at this;cases this with|k h=>cases h with|d h=>exact .k (.d (h.mono (λ_ h=>.inl h) same))
   |0,hy=>
    have:=h2 0 _ rfl;cases hy;generalize cs.getD 0 undef=u at this;cases this with
    |k h=>cases h
    |fc _ _ as _ g1 g2 g3=>
     refine .k (.d (.fc _ _ as _ g1 (by simpa using g2) λj y hy=>?_));rw[aB,aG]at hy;obtain⟨r,hr,rfl⟩:=hy;have hj:=(aC.1 hr).1;have g4:=g3 j (.p j 0) (by rw[aB,ck hj];rfl);generalize as.getD j undef=u at g4;cases g4 with
     |p _ _ b hb=>
      have hh:(rows.map λr=>B.cells (r.map V.d))[j]?=some (.cells (r.map V.d)):=by rw[aB,hr];rfl
      obtain⟨b',arr,ty,e1,e2,e3,e4⟩:=hO.hr.rep j _ _ hb hh;cases e1;have ho:own ρ' (rows.map λr=>B.cells (r.map V.d)) b:=⟨j,_,_,hb,hh,by simp,(fi).2 rfl⟩
      refine .pt b 0 0 r (λk=>arr.getD k undef) (.inr ho) (λk x hk=>?_) λk x hk=>?_
      .have:k<arr.size:=by rw[e3,aH];exact(aC.1 hk).1
       rw[cF,dC e2,aF,aN this];rfl
      .have:=e4 k (.d x) (by rw[aB,hk];rfl);generalize arr.getD k undef=u at this;cases this with|k h=>cases h with|d h=>exact h.mono (λ_ h=>.inl h) same
end Go.Vx