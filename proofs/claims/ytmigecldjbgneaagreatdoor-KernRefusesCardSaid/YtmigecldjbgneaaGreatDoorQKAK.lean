/- Lemmas. Conditions: none. -/
import Derived.Test.YtmigecldjbgneaaGreatDoorQKAJ
import Derived.RegionIn
import Derived.RangeFuncNested
namespace Go.Vx
section plain
def sS(acc:List (List Nat))(d:List Nat):List (List Nat):=acc++[dd (d++d.flatMap λi=>(acc[i]?).getD [])]
theorem B4{k:Nat}:∀{l:List Nat},k∈dd l<->k∈l
 |[]=>Iff.rfl
 |i::l=>by
  have ih:=B4 (k:=k) (l:=l);simp only[dd];cases h:has l i with
  |true=>
   rw[δ,ih,ah];exact⟨.inr,λh'=>h'.elim (λe=>e ▸ cI.1 h) id⟩
  |false=>grind
theorem Nk:∀(ds acc:List (List Nat)),(∀i,i<acc.length->(ds.foldl sS acc)[i]?=acc[i]?)/\(ds.foldl sS acc).length=acc.length+ds.length /\
    ∀(j:Nat)(d:List Nat),ds[j]?=some d->∃b:List Nat,(ds.foldl sS acc)[acc.length+j]?=some b/\(∀k∈d,k∈b)/\∀k∈b,k∈d\/∃k'∈d,∃b':List Nat,(ds.foldl sS acc)[k']?=some b'/\k∈b':=by
  intro ds
  induction ds with
  |nil=>grind
  |cons d ds ih=>
    intro acc
    obtain⟨h1,h2,h3⟩:=ih (sS acc d)
    have hl:(sS acc d).length=acc.length+1:=by simp[sS]
    have h1':∀i,i<acc.length->(ds.foldl sS (sS acc d))[i]?=acc[i]?:=λi hi=>by
      rw[h1 i (by omega)]
      simp only[sS]
      grind
    simp only[gb]
    refine⟨h1',by grind,λj e hj=>?_⟩
    cases j with
    |zero=>
      simp at hj
      subst hj
      refine⟨dd (d++d.flatMap λi=>(acc[i]?).getD []),?_,λk hk=>B4.2 (by grind),λk hk=>?_⟩
      · rw[h1 _ (by omega)]
        simp[sS]
      · rw [B4, aT] at hk
        rcases hk with hk|hk
        grind
        · rw[aj]at hk
          obtain⟨i,hi,hk⟩:=hk
          cases hai:acc[i]? with
          |none=>grind
          |some b=>
            grind
    |succ j=>
      obtain⟨b,g1,g2,g3⟩:=h3 j e (by grind)
      rw[hl]at g1
      exact⟨b,by grind,g2,g3⟩
theorem Nj(ds:List (List Nat)):(Fk ds).length=ds.length/\∀(j:Nat)(d:List Nat),ds[j]?=some d->∃b:List Nat,(Fk ds)[j]?=some b/\(∀k∈d,k∈b)/\∀k∈b,k∈d\/∃k'∈d,∃b':List Nat,(Fk ds)[k']?=some b'/\k∈b':=by
 obtain⟨_,h2,h3⟩:=Nk ds [];have e:Fk ds=ds.foldl sS []:=rfl;simp_all
theorem NA:∀(bs:List (List Nat))(k:Nat),lg k bs=true->∀(j:Nat)(b:List Nat),bs[j]?=some b->∀i,i<k+j->i∈b:=by
 intro bs
 induction bs with
 |nil=>grind
 |cons c bs ih=>
  intro k hk j b hj i hi;simp only[lg,aO,aP,b_]at hk;cases j with
  |zero=>simp at hj;subst hj;exact cI.1 (hk.1 i (by omega))
  |succ j=>exact ih (k+1) hk.2 j b (by grind) i (by omega)
theorem RP:∀(bs:List (List Nat))(k:Nat),okB k bs=true->∀(j:Nat)(b:List Nat),bs[j]?=some b->∀i∈b,i<k+j:=by
 intro bs
 induction bs with
 |nil=>grind
 |cons c bs ih=>
  intro k hk j b hj i hi;simp only[okB,aO,aP]at hk;cases j with
  |zero=>simp_all
  |succ j=>grind
end plain
theorem BS{q:List (I×List Nat)}(h:o8 q=true){i j:Nat}{x y:I×List Nat}(hi:q[i]?=some x)(hj:q[j]?=some y)(hne:i≠j){s:Nat}(hs:y.1.d=some s) :
  x.1.d≠some s/\(s∈tU x.1->j∈x.2\/i∈y.2):=by
 simp only[o8,aP]at h;have h1:=h (x,i) (by grind) (y,j) (by grind);simp only[fw hne,Bool.false_or,hs,aO,cT,dA]at h1;refine⟨λe=>?_,λhm=>?_⟩;simp_all
 .rcases h1.2 with(h4|h4)|h4
  .rw[kV]at h4;exact absurd (cI.2 hm) h4
  .exact .inl (cI.1 h4)
  .exact .inr (cI.1 h4)
section
variable{P:Program}{n:Nat}{h:H}{t:T}{q:List (I×List Nat)}{vs:List V}(ow:Nat->Bool)
def xK(P:Program)(i:I)(t:T)(h:H)(v:V):Prop:=
 match i.g with
 |none=>Qt ow P i.o t h v
 |some (j,x)=>(∃b,gs t j=.d (.bool b)/\(b=x->Qt ow P i.o t h v)/\(b≠x->v=.ud))\/(gs t j=.ud/\v=.ud)
theorem Qt.congr{x:X}{t t':T}{v:V}(hq:Qt ow P x t h v)(ht:∀s∈(ops x).flatMap Gv,gs t' s=gs t s):Qt ow P x t' h v:=
 λt'' h1=>hq t'' λs hs=>(h1 s hs).trans (ht s hs)
theorem xK.congr{i:I}{t t':T}{v:V}(hq:xK ow P i t h v)(ht:∀s∈tU i,gs t' s=gs t s):xK ow P i t' h v:=by
 unfold xK at hq⊢;unfold tU at ht;have h1:∀s∈(ops i.o).flatMap Gv,gs t' s=gs t s:=λs hs=>ht s (by grind);split at hq
 .exact Qt.congr ow hq h1
 .rename_i j x hg;have h2:gs t' j=gs t j:=ht j (by grind);rw[h2];rcases hq with⟨b,g1,g2,g3⟩|hq
  .exact .inl ⟨b,g1,λhb=>Qt.congr ow (g2 hb) h1,g3⟩
  grind
def Ag(q:List (I×List Nat))(vs:List V)(t:T)(p:Nat->Prop)(t':T):Prop:=
 ∀s,(∃j x,p j/\q[j]?=some x/\x.1.d=some s/\vs[j]?=some (gs t' s))\/((∀j x,p j->q[j]?=some x->x.1.d≠some s)/\gs t' s=gs t s)
theorem o_{d:Option Nat}{v:V}{t:T}{s:Nat}:gs (fV d v t) s=if d=some s then v else gs t s:=by
 cases d with
 |none=>rfl
 |some i=>
  simp only[fV,gD,aD];simp_all
theorem Ag.put{p p':Nat->Prop}{t' t1:T}(hA:Ag q vs t p t'){j:Nat}{x:I×List Nat}{v:V}(hx:q[j]?=some x)(hv:vs[j]?=some v)(hp:∀k,p' k<->k=j\/p k)
  (_:o8 q=true) (_:¬p j) (h1:∀s,gs t1 s=gs (fV x.1.d v t') s):Ag q vs t p' t1:=by
 intro s;rw[h1 s,o_]
 by_cases hd:x.1.d=some s
 grind
 .rw[η hd];rcases hA s with⟨k,y,k1,k2,k3,k4⟩|⟨k1,k2⟩
  grind
  grind
theorem Ag.eq{p p':Nat->Prop}{t1 t2:T}(hD:o8 q=true)(h1:Ag q vs t p t1)(h2:Ag q vs t p' t2){s:Nat}(hs:∀k y,q[k]?=some y->y.1.d=some s->(p k<->p' k)):gs t1 s=gs t2 s:=by
 rcases h1 s with⟨k,y,k1,k2,k3,k4⟩|⟨k1,k2⟩
 .rcases h2 s with⟨m,z,m1,m2,m3,m4⟩|⟨m1,_⟩
  .obtain rfl:k=m:=Decidable.byContradiction λe=>(BS hD k2 m2 e m3).1 k3
   grind
  grind
 .rcases h2 s with⟨m,z,m1,m2,m3,_⟩|⟨_,m2⟩
  grind
  grind
theorem Qp{K:T->Prop}:∀(q:List (I×List Nat))(t:T),qr (Sat P) ow h q t K->∃(vs:List V)(ts:List T)(t':T),K t'/\vs.length=q.length/\ts.length=q.length+1/\ts[0]?=some t/\ts[q.length]?=some t' /\
  ∀(j:Nat)(x:I×List Nat),q[j]?=some x->∃v t1 t2,vs[j]?=some v/\ts[j]?=some t1/\ts[j+1]?=some t2/\xK ow P x.1 t1 h v/\∀s,gs t2 s=gs (fV x.1.d v t1) s:=by
 intro q
 induction q with
 |nil=>intro t hk;exact⟨[],[t],t,hk,rfl,rfl,rfl,rfl,by simp⟩
 |cons x q ih=>
  intro t hk;rw[MJ]at hk;generalize hZ:(∃(vs:List V)(ts:List T)(t':T),K t'/\vs.length=(x::q).length/\ts.length=(x::q).length+1/\ts[0]?=some t/\ts[(x::q).length]?=some t' /\
    ∀(j:Nat)(y:I×List Nat),(x::q)[j]?=some y->∃v t1 t2,vs[j]?=some v/\ts[j]?=some t1/\ts[j+1]?=some t2/\xK ow P y.1 t1 h v/\∀s,gs t2 s=gs (fV y.1.d v t1) s)=Z
  have fin:∀(v:V)(t2:T),(∀s,gs t2 s=gs (fV x.1.d v t) s)->xK ow P x.1 t h v->qr (Sat P) ow h q t2 K->Z:=by
   rw[<-hZ];intro v t2 h1 h2 h3;obtain⟨vs,ts,t',hK,l1,l2,l3,l4,l5⟩:=ih t2 h3;refine⟨v::vs,t::ts,t',hK,by grind,by grind,rfl,by grind,λj y hj=>?_⟩;cases j with
   |zero=>grind
   |succ j=>exact l5 j y hj
  have e:∀{j:Nat}{u:V},gs t j=u->∀(v:V) s,gs (fV x.1.d v ((j,u)::t)) s=gs (fV x.1.d v t) s:=λhu v s=>by rw[o_,o_,mP hu]
  unfold Sk at hk;split at hk
  .rename_i hg;obtain⟨v,h1,h2⟩:=BK ow hk;rw[eK]at h1;exact fin v _ (λ_=>rfl) (by unfold xK;grind) h1
  .rename_i j w hg;have ud:∀{b:Bool},gs t j=.d (.bool b)->b≠w->(pU x.1.d .ud ((j,.d (.bool b))::t) λt=>qr (Sat P) ow h q t K)->Z:=λhb hne hk=>by
    rw[eK]at hk;exact fin .ud _ (e hb .ud) (by unfold xK;grind) hk
   have run:∀{b:Bool},gs t j=.d (.bool b)->b=w->(qx (Sat P) ow x.1.o ((j,.d (.bool b))::t) h λv=>pU x.1.d v ((j,.d (.bool b))::t) λt=>qr (Sat P) ow h q t K)->Z:=λhb he hk=>by
    obtain⟨v,h1,h2⟩:=BK ow hk;rw[eK]at h1;exact fin v _ (e hb v) (by unfold xK;rw[hg];exact .inl ⟨_,hb,λ_=>Qt.congr ow h2 λs _=>(mP hb s).symm,λh=>absurd he h⟩) h1
   split at hk
   .rename_i b hb;cases b<;>cases w<;>simp only[sp,δ,ε]at hk
    grind
    grind
    grind
    grind
   .rename_i hb;rw[eK]at hk;exact fin .ud _ (λ_=>rfl) (by unfold xK;grind) hk
   grind
end
theorem jU{o:Oper}{k:Nat}:k∈AI o<->∃e∈o.after,Region.binds .any e=true/\e.on=k:=by
 simp only[AI,bQ,dH,Array.mem_toList_iff]
 grind
theorem Mz{l:Array Bool}{j:Nat}(hj:l.getD j false=true):j<l.size:=by
 grind
theorem count_set{l:Array Bool}{j:Nat}(hj:l.getD j true=false):(l.setIfInBounds j true).toList.count false<l.toList.count false:=by
 have hl:j<l.size:=by
  grind
 have hv:l[j]=false:=by simp_all
 grind
section
variable{P:Program}{E:gG}{n:Nat}{K:Ex->T->H->Prop}{Q:Exit->Act->World->Prop}{ops:Array Oper}{is:List I}{bs:List (List Nat)}{m:Nat}(ow:Nat->Bool)
theorem yj{G:Nat->Prop}{ρ:List Value}{t:T}{h:H}{a:Act}{w:World}{o:Oper}{bS:Act->World->Prop}(hC:an E n G ρ t h a w){i:I}(hi:mq P n ops o=some i){ih:T->H->(Ex->T->H->Prop)->Prop}(hk:A6 (Sat P) ow i ih t h K)
  (hnx:∀(a':Act)(w':World)(G':Nat->Prop)(ρ':List Value)(t':T)(h':H),an E n G' ρ' t' h' a' w'->ih t' h' K->bS a' w') (hp:PQ E n K Q) :
  if Region.wanted o (yielded ops a.tmps)then o.wp P a w bS Q else bS (a.put o.dst undef) w:=by
 obtain⟨hx,hd,hlt,hg⟩:=kL hi;have run:∀{t:T},an E n G ρ t h a w->dV (Sat P) ow i.o t h (λv t h=>pU i.d v t λt=>ih t h K) (λv t h=>K (.eU v) t h)->o.wp P a w bS Q:=by
  intro t hC hk;refine xP ow hC (λv' w' G' ρ' t' h' v hC' hv hk'=>?_) (λv' w' G' ρ' t' h' v hC' hv hk'=>hp a w' G' ρ' t' h' v v' hC' hv hk') hx hk;rw[eK,hd]at hk';exact hnx _ _ _ _ _ _ (hC'.fV o.dst hlt hv) hk'
 have pass:∀{t:T},an E n G ρ t h a w->(pU i.d .ud t λt=>ih t h K)->bS (a.put o.dst undef) w:=by
  intro t hC hk;rw[eK,hd]at hk;exact hnx _ _ _ _ _ _ (hC.fV o.dst hlt xG) hk
 cases hgo:o.guard with
 |none=>
  rw[hgo]at hg;simp only at hg;simp only[A6,hg]at hk;rw[ζ (by simp[Region.wanted,hgo])]
  grind
 |some p=>
  obtain⟨j,x⟩:=p;rw[hgo]at hg;obtain⟨d,hd1,hg⟩:=hg;simp only[A6,hg]at hk;split at hk
  .rename_i b hb;rw[kf hC hgo hd1 hb];have hC1:=hC.congr (mP hb);cases b<;>cases x<;>simp only[sp,δ,ε]at hk<;>simp only[BEq.rfl,if_true,cg,ψ,ξ,reduceCtorEq]
   all_goals grind
  .rename_i hb;rw[oX hC hgo hd1 hb]
   grind
  grind
theorem zO:∀{l r:List Nat},l.Nodup->(∀x∈l,x∈r)->l.length<=r.length
 |[],_,_,_=>aY _
 |x::l,r,hn,h=>by
  obtain⟨h1,h2⟩:=db.1 hn;have hx:=h x (by simp);have:=zO (l:=l) (r:=r.erase x) h2 λy hy=>(List.mem_erase_of_ne (show y≠x from λe=>h1 (by grind))).2 (h y (bU _ hy))
  grind
structure Pz(P:Program)(n:Nat)(ops:Array Oper)(is:List I)(bs:List (List Nat))(m:Nat):Prop where
  il:is.length=ops.size
  bl:bs.length=ops.size
  ml:m<=ops.size
  ci:∀(j:Nat)(o:Oper),ops[j]?=some o->∃i,is[j]?=some i/\mq P n ops o=some i
  cl:∀(j:Nat)(o:Oper),ops[j]?=some o->∃b,bs[j]?=some b/\(∀k∈AI o,k∈b)/\∀k∈b,k∈AI o\/∃k'∈AI o,∃b':List Nat,bs[k']?=some b'/\k∈b'
  lt:∀(j:Nat)(b:List Nat),bs[j]?=some b->∀k∈b,k<j
  fu:∀(j:Nat)(b:List Nat),m<=j->bs[j]?=some b->∀i,i<j->i∈b
theorem AG(D:Pz P n ops is bs m){listed:Array Bool}(hr:Region.ready .any ops listed=[])(hs:listed.size=ops.size):∀j,j<ops.size->listed.getD j false=true:=by
 intro j
 induction j using Nat.strongRecOn with
 |_ j ih=>
  intro hj
  by_cases hl:listed.getD j false=true
  grind
  .exfalso;have:j∈Region.ready .any ops listed:=by
    rw[mem_ready];refine⟨?_,ops[j],aS hj,λe he hb=>?_⟩
    grind
    .obtain⟨b,h1,h2,_⟩:=D.cl j _ (aS hj);have:=D.lt j b h1 e.on (h2 _ (jU.2 ⟨e,he,hb,rfl⟩))
     grind
   grind
def Vb(E:gG)(n:Nat)(K:Ex->T->H->Prop)(is:List I)(m:Nat)(P:Program)(l:Array Bool)(a:Act)(w:World):Prop:=
 ∃(k:Nat)(G:Nat->Prop)(ρ:List Value)(t:T)(h:H),m<=k/\(∀j,l.getD j false=true<->j<k)/\an E n G ρ t h a w/\rx (Sat P) ow (is.drop k) t h K
def LG(bs:List (List Nat))(l:Array Bool):Prop:=∀(j:Nat)(b:List Nat),l.getD j false=true->bs[j]?=some b->∀k∈b,l.getD k false=true
theorem yD(D:Pz P n ops is bs m){J:Array Bool->Act->World->Prop}(hJ:∀l a w,J l a w->(∀j,l.getD j false=true->j<m)/\((∀j,j<m->l.getD j false=true)->Vb ow E n K is m P l a w))
  (hS:∀(l:Array Bool) (a:Act) (w:World) (j:Nat) (o:Oper) (i:I) (b:List Nat),J l a w→LG bs l→j<m→¬l.getD j false=true→(∀k∈b,l.getD k false=true)→mq P n ops o=some i→(is.zip bs)[j]? = some (i,b) →
   (∀k,(l.setIfInBounds j true).getD k false=true<->k=j\/l.getD k false=true)->∀bS:Act->World->Prop,(∀a' w',J (l.setIfInBounds j true) a' w'->bS a' w') ->
   if Region.wanted o (yielded ops a.tmps)then o.wp P a w bS (QK E n K)else bS (a.put o.dst undef) w):∀(fuel:Nat)(listed:Array Bool)(a:Act)(w:World),listed.size=ops.size->listed.toList.count false<=fuel->LG bs listed ->
  J listed a w\/Vb ow E n K is m P listed a w->wpAny P .any ops (QK E n K) fuel listed a w:=by
 have hil:=D.il;have hbl:=D.bl;have hml:=D.ml;have yZ:∀(l:Array Bool)(a:Act)(w:World),J l a w\/Vb ow E n K is m P l a w->(∀j,j<m->l.getD j false=true)->Vb ow E n K is m P l a w:=λl a w hI hall=>hI.elim (λh=>(hJ _ _ _ h).2 hall) id;have fin:∀(listed:Array Bool)(a:Act)(w:World),listed.size=ops.size->J listed a w\/Vb ow E n K is m P listed a w->Region.ready .any ops listed=[]->QK E n K .normal a w:=by
  intro listed a w hs hI hr;have hall:=AG D hr hs;obtain⟨k,G,ρ,t',h',k1,k3,hC,hk⟩:=yZ listed a w hI (λj hj=>hall j (by omega));have hkk:ops.size<=k:=by
   grind
  rw[gR (by omega)]at hk;exact⟨G,ρ,t',h',hC,hk⟩
 intro fuel
 induction fuel with
 |zero=>
  intro listed a w hs hc _ hI;have hall:∀j,j<ops.size->listed.getD j false=true:=λj hj=>by
   have hj':j<listed.size:=by omega
   have h0:listed.toList.count false=0:=by omega
   rw[List.count_eq_zero]at h0;cases hv:listed[j] with
   |true=>simp[hj',hv]
   |false=>grind
  have hr:Region.ready .any ops listed=[]:=by
   rw[List.eq_nil_iff_forall_not_mem];intro j hj;obtain⟨h1,o,h2,_⟩:=mem_ready.1 hj
   grind
  exact⟨hr,fin listed a w hs hI hr⟩
 |succ fuel ih=>
  intro listed a w hs hc hcl0 hI;refine⟨fin listed a w hs hI,λj hj=>?_⟩;obtain⟨hun,o,ho,hdep⟩:=mem_ready.1 hj;have hjs:j<ops.size:=(aW.1 ho).1;have hjl:j<listed.size:=by omega
  have hnl:¬listed.getD j false=true:=by grind
  obtain⟨b,hb,hb1,hb2⟩:=D.cl j o ho;obtain⟨i,hi,hci⟩:=D.ci j o ho;have hready:∀k∈b,listed.getD k false=true:=λk hk=>by
   rcases hb2 k hk with h1|⟨k',h1,b',h2,h3⟩
   .obtain⟨e,e1,e2,rfl⟩:=jU.1 h1
    grind
   .obtain⟨e,e1,e2,rfl⟩:=jU.1 h1;exact hcl0 _ b' (hdep e e1 e2) h2 k h3
  have hset:∀k,(listed.setIfInBounds j true).getD k false=true<->k=j\/listed.getD k false=true:=λk=>by
   by_cases hkj:k=j
   .subst hkj;simp[hjl]
   .rw[getD_set_ne false (kP hkj)];grind
  have hcl:LG bs (listed.setIfInBounds j true):=by
   intro j' b' h1 h2 k hk;rw[hset]at h1⊢;rcases h1 with rfl|h1
   grind
   .exact .inr (hcl0 j' b' h1 h2 k hk)
  have hcnt:(listed.setIfInBounds j true).toList.count false<=fuel:=by have:=count_set hun;omega
  have hsz:(listed.setIfInBounds j true).size=ops.size:=by grind
  have go:(if Region.wanted o (yielded ops a.tmps)then o.wp P a w (wpAny P .any ops (QK E n K) fuel (listed.setIfInBounds j true)) (QK E n K)else wpAny P .any ops (QK E n K) fuel (listed.setIfInBounds j true) (a.put o.dst undef) w) ->
    wpOp P ops (QK E n K) j (wpAny P .any ops (QK E n K) fuel (listed.setIfInBounds j true)) a w:=by
   intro hg;unfold wpOp
   grind
  refine go ?_
  by_cases hjm:j<m
  .rcases hI with hI|⟨k,G,ρ,t,h,k1,k3,_⟩
   .exact hS _ _ _ j o i b hI hcl0 hjm hnl hready hci (List.getElem?_zip_eq_some.2 ⟨hi,hb⟩) hset _ λa' w' h=>ih _ _ _ hsz hcnt hcl (.inl h)
   grind
  .have hall:∀i,i<m->listed.getD i false=true:=λi hi=>hready i (D.fu j b (by omega) hb i (by omega));obtain⟨k,G,ρ,t',h',k1,k3,hC,hk⟩:=yZ listed a w hI hall;have hjk:j=k:=by
    have h1:k<=j:=by
     grind
    rcases nF k j with h2|h2
    .have:=(k3 k).1 (hready k (D.fu j b (by omega) hb k h2));omega
    grind
   subst hjk;have hdrop:is.drop j=i::is.drop (j+1):=by
    have hlt:j<is.length:=by omega
    rw[bC hlt]
    grind
   rw[hdrop]at hk;exact wm ow hC hci hk (λa' w' G' ρ' t' h' hC' hk'=>ih _ _ _ hsz hcnt hcl (.inr ⟨j+1,G',ρ',t',h',by omega,λk=>by grind,hC',hk'⟩)) PQ.qk
def Vc(E:gG)(n:Nat)(K:Ex->T->H->Prop)(q:List (I×List Nat))(s:List I)(m:Nat)(P:Program)(listed:Array Bool)(a:Act)(w:World):Prop:=
 ∃(done:List Nat)(k:Nat)(G:Nat->Prop)(ρ:List Value)(t:T)(h:H),done.Nodup/\done.length+k=m/\(∀j,listed.getD j false=true<->j∈done)/\(∀j∈done,j<m)/\an E n G ρ t h a w/\V4 (Sat P) ow q s k done t h K
theorem S7(D:Pz P n ops is bs m){q:List (I×List Nat)}(hq:q=(is.zip bs).take m)(fuel:Nat)(listed:Array Bool)(a:Act)(w:World)(hs:listed.size=ops.size)(hc:listed.toList.count false<=fuel)(hcl:LG bs listed)
  (hI:Vc ow E n K q (is.drop m) m P listed a w):wpAny P .any ops (QK E n K) fuel listed a w:=by
 have hql:q.length=m:=by have:=D.il;have:=D.bl;have:=D.ml;grind
 refine yD ow D (J:=Vc ow E n K q (is.drop m) m P) (λl a w ⟨done,k,G,ρ,t,h,d1,d2,d3,d4,hC,hk⟩=>⟨λj hj=>d4 j ((d3 j).1 hj),λhall=>?_⟩) (λl a w j o i b ⟨done,k,G,ρ,t,h,d1,d2,d3,d4,hC,hk⟩ _ hjm hnl hready hci hz hset bS hn=>?_) fuel listed a w hs hc hcl (.inl hI)
 .have hk0:k=0:=by
   have h1:(List.range m).length<=done.length:=zO qp λj hj=>(d3 j).1 (hall j (b_.1 hj))
   grind
  subst hk0;exact⟨m,G,ρ,t,h,aL _,λj=>⟨λhj=>d4 j ((d3 j).1 hj),hall j⟩,hC,hk⟩
 .have hjd:j∉done:=λhd=>hnl ((d3 j).2 hd);have hlt:∀x∈j::done,x<m:=λx hx=>by
   grind
  have hk0:k≠0:=by
   intro e;have h1:(j::done).length<=(List.range m).length:=zO (db.2 ⟨hjd,d1⟩) λx hx=>b_.2 (hlt x hx)
   grind
  obtain⟨k,rfl⟩:∃k',k=k'+1:=⟨k-1,by omega⟩
  rw[Kh]at hk;have hqj:q[j]?=some (i,b):=by grind
  have hmem:j∈tc q done:=by
   unfold tc;rw[dH,b_];refine⟨by omega,?_⟩;rw[get?_eq,hqj];simp only[aO,dA,aP];refine⟨?_,λx hx=>cI.2 ((d3 x).1 (hready x hx))⟩;cases hh:has done j with
   |false=>rfl
   |true=>exact absurd (cI.1 hh) hjd
  have hk2:=vB hk j hmem;rw[get?_eq,hqj]at hk2;exact yj ow hC hci hk2 (λa' w' G' ρ' t' h' hC' hk'=>hn a' w' ⟨j::done,k,G',ρ',t',h',db.2 ⟨hjd,d1⟩,by grind,λx=>by grind,hlt,hC',hk'⟩) PQ.qk
theorem td{G:Nat->Prop}{ρ:List Value}{t:T}{h:H}{a:Act}{w:World}{o:Oper}{bS:Act->World->Prop}(hC:an E n G ρ t h a w){i:I}(hi:mq P n ops o=some i){v:V}(hk:xK ow P i t h v)
  (hnx:∀(a':Act)(w':World)(G':Nat->Prop)(ρ':List Value),an E n G' ρ' (fV i.d v t) h a' w'->bS a' w') :
  if Region.wanted o (yielded ops a.tmps)then o.wp P a w bS Q else bS (a.put o.dst undef) w:=by
 obtain⟨hx,hd,hlt,hg⟩:=kL hi;have run:Qt ow P i.o t h v->o.wp P a w bS Q:=λhk=>
  xP ow hC (λv' w' G' ρ' t' h' v hC' hv ⟨e1,e2,e3⟩=>by subst e1 e2 e3;rw[hd]at hnx;exact hnx _ _ _ _ (hC'.fV o.dst hlt hv)) (λ_ _ _ _ _ _ _ _ _ h=>h.elim) hx (hk t λ_ _=>rfl)
 have pass:v=.ud->bS (a.put o.dst undef) w:=λe=>by
  subst e;rw[hd]at hnx;exact hnx _ _ _ _ (hC.fV o.dst hlt xG)
 unfold xK at hk;cases hgo:o.guard with
 |none=>
  rw[hgo]at hg;simp only at hg;rw[hg]at hk;rw[ζ (by simp[Region.wanted,hgo])]
  grind
 |some p=>
  obtain⟨j,x⟩:=p;rw[hgo]at hg;obtain⟨d,hd1,hg⟩:=hg;rw[hg]at hk;rcases hk with⟨b,hb,h1,h2⟩|⟨hb,h2⟩
  .rw[kf hC hgo hd1 hb]
   grind
  .rw[oX hC hgo hd1 hb]
   grind
theorem H6{G:Nat->Prop}{ρ:List Value}{t:T}{h:H}(D:Pz P n ops is bs m){q:List (I×List Nat)}(hq:q=(is.zip bs).take m)(hD:o8 q=true)(hk:qr (Sat P) ow h q t λt=>rx (Sat P) ow (is.drop m) t h K)(fuel:Nat)(listed:Array Bool)(a:Act)(w:World)
  (hs:listed.size=ops.size) (hc:listed.toList.count false<=fuel) (h0:∀j,¬listed.getD j false=true) (hC:an E n G ρ t h a w):wpAny P .any ops (QK E n K) fuel listed a w:=by
 have hql:q.length=m:=by have:=D.il;have:=D.bl;have:=D.ml;grind
 obtain⟨vs,ts,t',hK,l1,l2,l3,l4,l5⟩:=Qp ow q t hk;have hbq:∀(j:Nat)(x:I×List Nat),q[j]?=some x->bs[j]?=some x.2/\j<m:=λj x hx=>by
  grind
 have hts:∀j,j<=m->∃tj,ts[j]?=some tj/\Ag q vs t (· < j) tj:=by
  intro j
  induction j with
  |zero=>exact λ_=>⟨t,l3,λs=>.inr ⟨λj _ h=>absurd h (by omega),rfl⟩⟩
  |succ j ih=>
   intro hj;obtain⟨tj,e1,e2⟩:=ih (by omega);obtain⟨v,t1,t2,f1,f2,f3,_,f5⟩:=l5 j _ (aA (show j<q.length by omega));rw[e1]at f2;cases f2;exact⟨t2,f3,e2.put (aA _) f1 (λk=>by omega) hD (by omega) f5⟩
 refine yD ow D (J:=λl a w=>(∀j,l.getD j false=true->j<m)/\∃(G:Nat->Prop)(ρ:List Value)(tl:T),an E n G ρ tl h a w/\Ag q vs t (λj=>l.getD j false=true) tl) (λl a w ⟨hm,G,ρ,tl,hC,hA⟩=>⟨hm,λhall=>?_⟩)
  (λl a w j o i b ⟨hm,G,ρ,tl,hC,hA⟩ hcl hjm hnl hready hci hz hset bS hn=>?_) fuel listed a w hs hc (λj _ hj=>absurd hj (h0 j)) (.inl ⟨λj hj=>absurd hj (h0 j),G,ρ,t,hC,λs=>.inr ⟨λj _ hj=>absurd hj (h0 j),rfl⟩⟩)
 .obtain⟨tm,e1,e2⟩:=hts m (aL _);rw[hql,e1]at l4;cases l4;exact⟨m,G,ρ,t',h,aL _,λj=>⟨hm j,hall j⟩,hC.congr λs=>e2.eq hD hA λk _ _ _=>⟨hall k,hm k⟩,hK⟩
 .have hqj:q[j]?=some (i,b):=by grind
  obtain⟨tj,e1,e2⟩:=hts j (by omega);obtain⟨v,t1,t2,f1,f2,f3,f4,f5⟩:=l5 j _ hqj;rw[e1]at f2;cases f2;have hqk:xK ow P i tl h v:=f4.congr ow λs hs=>hA.eq hD e2 λk y hy hd=>by
   by_cases hkj:j=k
   grind
   .rcases(BS hD hqj hy hkj hd).2 hs with hb|hb
    .exact⟨λ_=>D.lt j b (hbq j _ hqj).1 k hb,λ_=>hready k hb⟩
    .have h1:=D.lt k y.2 (hbq k _ hy).1 j hb;exact⟨λhl=>absurd (hcl k y.2 hl (hbq k _ hy).1 j hb) hnl,λhl=>absurd hl (by omega)⟩
  exact td ow hC hci hqk λa' w' G' ρ' hC'=>hn a' w' ⟨λx hx=>((hset x).1 hx).elim (λe=>e ▸ hjm) (hm x),G',ρ',_,hC',hA.put hqj f1 (λk=>hset k) hD hnl λ_=>rfl⟩
end
section
variable{P:Program}{t:T}{h:H}{b:B}{K:V->Prop}(ow:Nat->Bool)
def WL(hv h:H):Prop:=h.length=hv.length/\∀(k:Nat)(y:B),hv[k]?=some y->y≠.no->h[k]?=some y
variable{hv:H}
theorem iH(hk:WL hv h){i:Nat}{x:B}(hi:get? hv i=some x)(hx:x≠.no:=by nofun):get? h i=some x:=by
 rw[get?_eq]at hi⊢;exact hk.2 i x hi hx
theorem rE:∀(n:Nat)(l acc:List Nat),∀i∈acc,i∈reach h n l acc
 |0,_,_,_,hi=>hi
 |_+1,[],_,_,hi=>hi
 |n+1,j::r,acc,i,hi=>by
  rw[reach];cases has acc j
  .exact rE n _ _ i (List.mem_append_left _ hi)
  .exact rE n _ _ i hi
theorem rF:∀(n:Nat)(l acc:List Nat),(∀i∈reach hv n l acc,get? h i=get? hv i)->reach h n l acc=reach hv n l acc
 |0,_,_,_=>rfl
 |_+1,[],_,_=>rfl
 |n+1,j::r,acc,hr=>by
  rw[reach,reach]at *;cases hj:has acc j<;>rw[hj]at hr<;>simp only[δ,ε]at hr⊢
  .have:=hr j (rE n _ _ j (by simp));rw[this];exact rF n _ _ hr
  .exact rF n _ _ hr
theorem Qn{x:X}{e:O->V}(hkn:WL hv h)(hq:qv x e hv K):qv x e h K:=by
 cases x
 case ld x n=>
  simp only[qv]at hq⊢;split at hq
  .split at hq
   .rename_i h1;rw[iH hkn h1];grind
   grind
  grind
  .split at hq
   .rename_i h1;rw[iH hkn h1];grind
   .rename_i h1;rw[iH hkn h1];grind
   .rename_i h1;rw[iH hkn h1];grind
   grind
  grind
 case ia x i z=>
  simp only[qv]at hq⊢;split at hq
  .split at hq
   grind
   grind
   .split at hq
    .rename_i h1;simp only[iH hkn h1];grind
    .rename_i h1;simp only[iH hkn h1];grind
    grind
   grind
  grind
 case lm x=>
  simp only[qv]at hq⊢;split at hq
  .split at hq
   all_goals first
    |exact hq.elim
    |(rename_i h1;rw[iH hkn h1];exact hq)
  grind
  grind
 all_goals exact hq
theorem H4{x:X}(hq:qx (Sat P) ow x t h K):∃v,K v/\qx (Sat P) ow x t h λu=>u=v:=by
 have gen:qv x (gv t) h K->∃v,K v/\qv x (gv t) h λu=>u=v:=λhq=>by
  obtain⟨v,h1,h2⟩:=H5 hq
  grind
 cases x
 case cf f args=>
  simp only[qx,bn]at hq⊢;split at hq
  grind
  .rename_i i is h4;simp only[mQ]at hq;obtain⟨c1,c5,r,h2,h3⟩:=hq;exact⟨_,h3,by simp only[mQ];grind⟩
 case bs z zero n ps=>
  simp only[qx,bn]at hq⊢;obtain⟨h1,h2⟩:=hq;obtain⟨ds,h3,h4⟩:=Pe _ _ h2
  grind
 case ml x k ks zero ok=>
  simp only[qx]at hq⊢;split at hq;rotate_left;exact hq.elim;split at hq
  rotate_right
  exact hq.elim
  all_goals
   obtain⟨h1,r,h2,h3⟩:=hq;cases r with
   |none=>exact⟨_,h3,h1,none,h2,rfl⟩
   |some p=>exact⟨_,h3.2,h1,some p,h2,h3.1,rfl⟩
 case s3 x lo hi m z=>
  simp only[qx]at hq⊢
  revert hq
  (repeat' split)<;>intro hq<;>first
   |exact hq.elim
   |exact⟨_,hq.2,hq.1,rfl⟩
 case ln x|ls x=>
  simp only[qx]at hq⊢
  revert hq
  (repeat' split)<;>intro hq<;>first
   |exact hq.elim
   |exact⟨_,hq,rfl⟩
 all_goals first|exact gen hq|exact(show False from hq).elim
theorem Qm{x:X}{v:V}(hkn:WL hv h)(hq:qx (Sat P) ow x t hv λu=>u=v):qx (Sat P) ow x t h λu=>u=v:=by
 have gen:qv x (gv t) hv (λu=>u=v)->qv x (gv t) h λu=>u=v:=Qn hkn;cases x
 case cf f args=>
  simp only[qx,bn]at hq⊢;split at hq
  grind
  .rename_i i is h4;simp only[mQ,aO,dA]at hq⊢;generalize hids:reach hv 100 (i::is) []=ids at hq;obtain⟨⟨⟨⟨c1,c2⟩,c3⟩,c4⟩,c5,r,h2,h3⟩:=hq;have c1':=c1;simp only[LD,aO,aP,dA]at c1';obtain⟨⟨d1,d2⟩,d3⟩:=c1';have eg:∀k∈ids,get? h k=get? hv k:=λk hk=>by
    have e1:=(d2 k hk).1.1;have e2:=(d2 k hk).1.2;obtain⟨y,e3⟩:∃y,get? hv k=some y:=⟨_,by rw[get?_eq];exact aA ((fj ..).mp e1)⟩
    rw[e3]at e2⊢;exact iH hkn e3 (λe=>by rw[cR,e]at e2;cases e2)
   have er:reach h 100 (i::is) []=ids:=by rw[rF _ _ _ λk hk=>eg k (hids ▸ hk),hids]
   rw[er];have hbl:(ids.map λi=>nG (pos ids) ((get? h i).getD .no))=ids.map λi=>nG (pos ids) ((get? hv i).getD .no):=cA λk hk=>by grind
   rw[hbl,hkn.1];refine⟨⟨⟨⟨?_,?_⟩,c3⟩,c4⟩,?_,r,h2,h3⟩
   .simp only[LD,aO,aP,dA];refine⟨⟨d1,λk hk=>?_⟩,d3⟩;rw[eg k hk,hkn.1];exact d2 k hk
   .unfold rowsOf at c2⊢;simp_all
   .have hl:(ids.map λi=>nG (pos ids) ((get? hv i).getD .no)).length=ids.length:=aI _;apply bz;intro k;rcases nF k h.length with hk|hk
    .by_cases hki:k∈ids
     .have e:=κ (λl:H=>l[k]?) c5;have hlen:=hkn.1;rw[qm hki (by omega) (by omega)]at e;rw[qm hki hk (by omega),e,<-get?_eq,<-get?_eq,eg k hki]
     .rw[vA hki hk]
    .rw[cu hk,cu (by rw[AS,hl];omega)]
 case ln x=>
  simp only[qx]at hq⊢;split at hq
  grind
  grind
  .split at hq
   .rename_i h1;rw[iH hkn h1];grind
   grind
  grind
 case ls|bs=>exact hq
 case s3=>exact hq
 case ml x k ks zero ok=>
  simp only[qx]at hq⊢;split at hq
  .split at hq
   .rename_i h1;rw[iH hkn h1];grind
   .rename_i h1;rw[iH hkn h1];grind
   grind
  grind
 all_goals first|exact gen hq|exact(show False from hq).elim
end
section
variable{P:Program}{E:gG}{n:Nat}{K:Ex->T->H->Prop}{ops:Array Oper}{is:List I}{bs:List (List Nat)}{m:Nat}{h:H}{t:T}{q:List (I×List Nat)}(ow:Nat->Bool)
theorem TZ{x:X}{t t':T}{K:V->Prop}(ht:∀s,gs t' s=gs t s)(hq:qx (Sat P) ow x t' h K):qx (Sat P) ow x t h K:=by
 have e:gv t'=gv t:=funext λo=>Mw λs _=>ht s;cases x<;>simp only[qx,e]at hq⊢<;>exact hq
def D3(Q:Prop)(i:I)(t:T)(v:V):Prop:=
 match i.g with
 |none=>Q
 |some (j,x)=>(∃b,gs t j=.d (.bool b)/\(b=x->Q)/\(b≠x->v=.ud))\/(gs t j=.ud/\v=.ud)
theorem D3.mono{Q Q':Prop}{i:I}{v:V}(hk:D3 Q i t v)(h:Q->Q'):D3 Q' i t v:=by
 unfold D3 at hk⊢
 grind
theorem D3.xK{i:I}{v:V}(hk:D3 (qx (Sat P) ow i.o t h λu=>u=v) i t v):xK ow P i t h v:=
 hk.mono λhq=>by
  obtain⟨u,rfl,h2⟩:=BK ow hq
  grind
theorem MK{R:T->Prop}{i:I}{K:T->Prop}(hk:Sk (Sat P) ow h i (λt _=>R t) t K):∃v t2,(∀s,gs t2 s=gs (fV i.d v t) s)/\D3 (qx (Sat P) ow i.o t h λu=>u=v) i t v/\R t2:=by
 have e:∀{j:Nat}{u:V},gs t j=u->∀(v:V) s,gs (fV i.d v ((j,u)::t)) s=gs (fV i.d v t) s:=λhu v s=>by rw[o_,o_,mP hu]
 unfold Sk at hk;split at hk
 .rename_i hg;obtain⟨v,h1,h2⟩:=H4 ow hk;rw[eK]at h1;exact⟨v,_,λ_=>rfl,by unfold D3;grind,h1⟩
 .rename_i j w hg;have ud:∀{b:Bool},gs t j=.d (.bool b)->b≠w->(pU i.d .ud ((j,.d (.bool b))::t) λt=>R t)->∃v t2,(∀s,gs t2 s=gs (fV i.d v t) s)/\D3 (qx (Sat P) ow i.o t h λu=>u=v) i t v/\R t2:=λhb hne hk=>by
   rw[eK]at hk;exact⟨.ud,_,e hb .ud,by unfold D3;grind,hk⟩
  have run:∀{b:Bool},gs t j=.d (.bool b)->b=w->(qx (Sat P) ow i.o ((j,.d (.bool b))::t) h λv=>pU i.d v ((j,.d (.bool b))::t) λt=>R t)->∃v t2,(∀s,gs t2 s=gs (fV i.d v t) s)/\D3 (qx (Sat P) ow i.o t h λu=>u=v) i t v/\R t2:=λhb he hk=>by
   obtain⟨v,h1,h2⟩:=H4 ow hk;rw[eK]at h1;exact⟨v,_,e hb v,by unfold D3;rw[hg];exact .inl ⟨_,hb,λ_=>TZ ow (mP hb) h2,λh=>absurd he h⟩,h1⟩
  split at hk
  .rename_i b hb;cases b<;>cases w<;>simp only[sp,δ,ε]at hk
   grind
   grind
   grind
   grind
  .rename_i hb;rw[eK]at hk;exact⟨.ud,_,λ_=>rfl,by unfold D3;grind,hk⟩
  grind
def TS(P:Program)(n0:Nat)(W:List (Option Nat))(j:Nat)(U:List Nat)(i:I)(t1:T)(h1:H)(v:V)(h2:H):Prop:=
 match i.o with
 |.al cs=>i.g=none/\∃n,W[j]?=some (some n)/\n∉U/\h1[n]?=some .nw/\(n0<=n/\jL (.cells cs)=[])/\v=.p n 0/\h2=h1.set n (.cells cs)
 |.mm pl=>i.g=none/\∃n,W[j]?=some (some n)/\n∉U/\h1[n]?=some .nw/\n0<=n/\v=.mp n/\h2=h1.set n (M7 pl)
 |.st a e k=>i.g=none/\v=.ud/\∃id off b,W[j]?=some (some id)/\gv t1 a=.p id off/\id∉U/\h1[id]?=some (.cells b)/\(Nat.beq (gv t1 e).cs.length k=true/\Nat.ble (off+k) b.length=true/\(gv t1 e).cs.all fP=true)/\h2=h1.set id (.cells (lay b off (gv t1 e).cs))
 |_=>W[j]?=some none/\h2=h1/\∀h',WL (gone U h1) h'->xK ow P i t1 h' v
theorem xj{U:List Nat}{n:Nat}{x:B}(hx:get? (gone U h) n=some x)(hn:x≠.no):n∉U/\h[n]?=some x:=by
 rw[get?_eq,zr]at hx;split at hx
 .rw[aJ]at hx;obtain⟨_,_,e⟩:=hx;exact absurd e.symm hn
 .exact⟨‹_›,hx⟩
theorem MI{n0:Nat}{W:List (Option Nat)}{j:Nat}{U:List Nat}{i:I}{R:T->H->Prop}{K:T->H->Prop}(hk:Vt (Sat P) ow n0 W j U i (λt h _=>R t h) t h K) :
  ∃v t2 h2,(∀s,gs t2 s=gs (fV i.d v t) s)/\TS ow P n0 W j U i t h v h2/\R t2 h2:=by
 unfold Vt at hk;unfold TS;split at hk
 .rename_i cs ho;obtain⟨hg,hk⟩:=hk;rw[get?_eq]at hk;split at hk
  .rename_i n hW;split at hk
   .rename_i hn;obtain⟨g1,g2⟩:=xj hn nofun;rw[eK,bn]at hk;exact⟨.p n 0,_,h.set n (.cells cs),λ_=>rfl,by rw[ho];exact⟨hg,n,hW,g1,g2,⟨bN (Bool.and_eq_true_iff.1 hk.1).1,lM.1 (Bool.and_eq_true_iff.1 hk.1).2⟩,rfl,rfl⟩,hk.2⟩
   .exact hk.elim
  .exact hk.elim
 .rename_i pl ho;obtain⟨hg,hk⟩:=hk;rw[get?_eq]at hk;split at hk
  .rename_i n hW;split at hk
   .rename_i hn;obtain⟨g1,g2⟩:=xj hn nofun;rw[eK,bn]at hk;exact⟨.mp n,_,h.set n (M7 pl),λ_=>rfl,by rw[ho];exact⟨hg,n,hW,g1,g2,bN hk.1,rfl,rfl⟩,hk.2⟩
   .exact hk.elim
  .exact hk.elim
 .rename_i a e k ho;obtain⟨hg,hk⟩:=hk;split at hk
  .rename_i id off hp;rw[get?_eq]at hk;split at hk
   .rename_i w b hW hn;obtain⟨g1,g2⟩:=xj hn nofun;rw[bn,bn,eK]at hk;obtain⟨hw,hc,hk⟩:=hk;obtain rfl:=kA hw;exact⟨.ud,_,h.set w (.cells (lay b off (gv t e).cs)),λ_=>rfl,by rw[ho];exact⟨hg,rfl,w,off,b,hW,hp,g1,g2,hc,rfl⟩,hk⟩
   .exact hk.elim
  .exact hk.elim
 .rw[get?_eq]at hk;split at hk
  .rename_i hW;rw[bn]at hk;obtain⟨v,t2,h1,h2,h3⟩:=MK ow hk;refine⟨v,t2,h,h1,?_,h3⟩;split
   .grind
   .grind
   .grind
   .exact⟨hW,rfl,λh' hh=>D3.xK ow (h2.mono λhq=>Qm ow hh hq)⟩
  .exact hk.elim
theorem Qo{n0:Nat}{W:List (Option Nat)}{K:T->H->Prop}:∀(r:List ((I×List Nat)×Nat))(t:T)(h:H),qs (Sat P) ow n0 q W r t h K->∃(vs:List V)(ts:List T)(hs:List H)(t':T)(h':H),K t' h'/\ts[0]?=some t/\hs[0]?=some h/\ts[r.length]?=some t'/\hs[r.length]?=some h' /\
  ∀(j:Nat)(p:(I×List Nat)×Nat),r[j]?=some p->∃v t1 t2 h1 h2,vs[j]?=some v/\ts[j]?=some t1/\ts[j+1]?=some t2/\hs[j]?=some h1/\hs[j+1]?=some h2/\TS ow P n0 W p.2 (LU q W p.2 p.1.2) p.1.1 t1 h1 v h2/\∀s,gs t2 s=gs (fV p.1.1.d v t1) s:=by
 intro r
 induction r with
 |nil=>intro t h hk;exact⟨[],[t],[h],t,h,hk,rfl,rfl,rfl,rfl,by simp⟩
 |cons x r ih=>
  intro t h hk;rw[MH,mQ]at hk;obtain⟨v,t2,h2,g1,g2,g3⟩:=MI (R:=λt h=>qs (Sat P) ow n0 q W r t h K) (K:=K) ow hk;obtain⟨vs,ts,hs,t',h',hK,l3,l4,l5,l6,l7⟩:=ih t2 h2 g3;refine⟨v::vs,t::ts,h::hs,t',h',hK,rfl,rfl,by grind,by grind,λj y hj=>?_⟩;cases j with
  |zero=>simp at hj;subst hj;grind
  |succ j=>exact l7 j y hj
theorem te{G:Nat->Prop}{ρ:List Value}{t:T}{h:H}{a:Act}{w:World}{o:Oper}{bS:Act->World->Prop}{Q:Exit->Act->World->Prop}(hC:an E n G ρ t h a w){i:I}(hi:mq P n ops o=some i)(hg0:i.g=none){v:V}{h':H}
  (hk:dV (Sat P) ow i.o t h (λv' t'' h''=>v'=v/\t''=t/\h''=h') λ_ _ _=>False)
  (hnx:∀(a':Act)(w':World)(G':Nat->Prop)(ρ':List Value),an E n G' ρ' (fV i.d v t) h' a' w'->bS a' w') :
  if Region.wanted o (yielded ops a.tmps)then o.wp P a w bS Q else bS (a.put o.dst undef) w:=by
 obtain⟨hx,hd,hlt,hg⟩:=kL hi;have hgo:o.guard=none:=by
  grind
 rw[ζ (by simp[Region.wanted,hgo])];exact xP ow hC (λv' w' G' ρ' t' h' v hC' hv ⟨e1,e2,e3⟩=>by subst e1 e2 e3;rw[hd]at hnx;exact hnx _ _ _ _ (hC'.fV o.dst hlt hv)) (λ_ _ _ _ _ _ _ _ _ h=>h.elim) hx hk
section nu
variable{G:Nat->Prop}{w:World}{ρ:List Value}{v:Value}{k:Nat}(hk:ρ[k]?=some undef)
include hk
theorem dN.nu{x:V}(h:dN G w ρ v x):k∉lN x:=by
 intro hm;cases h<;>simp[lN]at hm<;>subst hm<;>simp_all[undef]
theorem dO.nu{x:V}(h:dO G w ρ v x):k∉pQ x:=by
 cases h with
 |k h=>exact λhm=>h.nu hk (by cases h<;>simpa[pQ]using hm)
 |fc f u cs caps h0 h1 h2=>
  intro hm;simp only[pQ,aj]at hm;obtain⟨x,hx,hm⟩:=hm;obtain⟨j,hj⟩:=ao.1 hx;exact(h2 j x hj).nu hk hm
theorem dP.nu{x:V}(h:dP G w ρ v x):k∉nH x:=by
 cases h with
 |c h=>
  refine λhm=>h.nu hk ?_;cases h with
  |k h=>cases h<;>simpa[nH]using hm
  |fc=>assumption
 |ag cs vs h1 h2=>
  intro hm;simp only[nH,aj]at hm;obtain⟨x,hx,hm⟩:=hm;obtain⟨j,hj⟩:=ao.1 hx;exact(h2 j x hj).nu hk hm
theorem az.nu{x:V}(h:az G w ρ v x):k∉l8 x:=by
 cases h with
 |o h=>
  refine λhm=>h.nu hk ?_;cases h with
  |c h=>cases h with
   |k h=>cases h<;>simpa[l8]using hm
   |fc=>assumption
  |ag cs vs h1 h2=>assumption
 |tu cs vs h1 h2=>
  intro hm;simp only[l8,aj]at hm;obtain⟨x,hx,hm⟩:=hm;obtain⟨j,hj⟩:=ao.1 hx;exact(h2 j x hj).nu hk hm
theorem cQ.nu{x:B}(h:cQ G w ρ v x):k∉jL x:=by
 intro hm;cases x with
 |mp es=>
  obtain⟨r,arr,clk,rfl,h1,h2,h3,h4⟩:=h;simp only[jL,aj]at hm;obtain⟨x,hx,hm⟩:=hm;obtain⟨j,hxj⟩:=ao.1 hx;have hj:j<arr.size:=by grind
  rcases aT.1 hm with hi|hi
  .exact(h4 j _ x (aS hj) hxj).1.nu hk hi
  .exact(h4 j _ x (aS hj) hxj).2.nu hk hi
 |ms z es out it=>
  obtain⟨⟨r,arr,clk,rfl,h1,h2,h3,h4,h5,h6,h7⟩,_⟩:=h
  match out,hm,h6,h7 with
  |some (j,v),hi,h6,h7=>
   have hj:j<arr.size:=by grind
   exact(h7 j v _ rfl (aS hj)).nu hk hi
 |cells cs=>
  obtain⟨b,arr,ty,rfl,h1,h2,h3⟩:=h;simp only[jL,aj]at hm;obtain⟨x,hx,hm⟩:=hm;obtain⟨j,hxj⟩:=ao.1 hx;exact(h3 j x hxj).nu hk hm
 |rx z rs i r=>
  obtain⟨b,cap,arr,ty,rfl,h1,h2,h3,h4,h0,h5,h6⟩:=h;simp only[jL,aj]at hm;obtain⟨x,hx,hm⟩:=hm;obtain⟨j,hxj⟩:=ao.1 hx;exact(h6 j x hxj).nu hk hm
 |_=>simp[jL]at hm
end nu
theorem an.P4{G:Nat->Prop}{ρ:List Value}{tl:T}{hl:H}{a:Act}{w:World}{d:Option Nat}{b:B}{k:Nat}(F:Nat->V)(hF:∀(v u:Value)(ρ':List Value),az G w ρ v (F hl.length)->ρ[hl.length]?=some u->ρ'[k]?=some u->az G w ρ' v (F k))(hC:an E n G ρ (Vx.fV d (F hl.length) tl) (hl++[b]) a w)(hE:E.ρ.length=E.h.length)(hkl:hl[k]?=some .nw)(hek:E.h.length<=k)
  (ht:∀i,∀j∈l8 (gs tl i),j<hl.length) (hh:∀(i:Nat)(x:B),hl[i]?=some x->∀j∈jL x,j<hl.length) (hb:jL b=[]):∃ρ',an E n G ρ' (Vx.fV d (F k) tl) (hl.set k b) a w:=by
 have hr:=hC.ok.hr;have hρl:ρ.length=hl.length+1:=by have:=hr.len;simpa using this
 have hkN:k<hl.length:=(aC.1 hkl).1;have hlst:(hl++[b])[hl.length]?=some b:=by simp
 have hpre:∀i,i<hl.length->(hl++[b])[i]?=hl[i]?:=λi hi=>aR hi;obtain⟨u,hu⟩:∃u,ρ[hl.length]?=some u:=⟨_,aA (by omega)⟩
 have hk0:ρ[k]?=some undef:=by
  obtain⟨v,hv⟩:∃v,ρ[k]?=some v:=⟨_,aA (by omega)⟩
  have:v=undef:=hr.rep k v .nw hv ((hpre k hkN).trans hkl);rw[hv,this]
 have nat:∀i,((ρ.take hl.length).set k u)[i]?=if i=k then some u else if i<hl.length then ρ[i]? else none:=λi=>by
  rw[eE]
  grind
 have get:∀(i:Nat)(v:Value)(x:B),((ρ.take hl.length).set k u)[i]?=some v->(hl.set k b)[i]?=some x->∃i',ρ[i']?=some v/\(hl++[b])[i']?=some x/\(i=k/\i'=hl.length\/i≠k/\i'=i/\i<hl.length):=by
  intro i v x h1 h2;rw[nat]at h1;rw[eE]at h2
  by_cases hi:i=k
  .grind
  .have:i<hl.length:=by grind
   exact⟨i,by grind,by rw[hpre i this];grind,.inr ⟨hi,rfl,this⟩⟩
 have keep:∀j,j<hl.length->j≠k->((ρ.take hl.length).set k u)[j]?=ρ[j]?:=λj h1 h2=>by rw[nat,η h2,ζ h1]
 have hown:∀c,own ((ρ.take hl.length).set k u) (hl.set k b) c->own ρ (hl++[b]) c:=λc ⟨i,v,x,h1,h2,h3,h4⟩=>by
  obtain⟨i',g1,g2,_⟩:=get i v x h1 h2;exact⟨i',v,x,g1,g2,h3,h4⟩
 refine⟨(ρ.take hl.length).set k u,⟨⟨by simp;omega,λi v x h1 h2=>?_,λi j v v' x x' c h1 h2 h3 h4 h5 h6 h7 h8=>?_,hr.gl,λc hc ho=>hr.gd c hc (hown c ho),hr.vR⟩,hC.ok.gm,hC.ok.go,λc hc=>hC.ok.oo c (hown c hc),hC.ok.frame,hC.ok.size,hC.ok.os,hC.ok.tape,hC.ok.out,
  λi v hv hs=>?_,by simp;omega,λr hr'=>let⟨g1,g2,g3⟩:=hC.ok.uB r hr';⟨g1,g2,λg=>g3 (hown r g)⟩,λi z rs hi=>?_⟩,hC.df,hC.sz,λi=>?_⟩
 .obtain⟨i',g1,g2,g3⟩:=get i v x h1 h2;have hrep:=hr.rep i' v x g1 g2;refine hrep.mono (λ_ h=>h) (λ_ _=>rfl) (λ_ _=>rfl) λj hj=>keep j ?_ λe=>(e ▸ hrep.nu hk0) hj;rcases g3 with⟨_,rfl⟩|⟨_,rfl,h⟩
  .rw[hlst]at g2;cases g2;rw[hb]at hj;cases hj
  .exact hh i' x ((hpre i' h).symm.trans g2) j hj
 .obtain⟨i',g1,g2,g3⟩:=get i v x h1 h2;obtain⟨j',k1,k2,k3⟩:=get j v' x' h4 h5;have:=hr.pv i' j' v v' x x' c g1 g2 h3 k1 k2 h6 h7 h8;omega
 .have hi:i<E.ρ.length:=(aC.1 hv).1;rw[keep i (by omega) (by omega)];exact hC.ok.hand i v hv hs
 .obtain⟨k1,k2⟩:=hC.ok.lk i z rs hi;have hi':i<E.h.length:=(aC.1 hi).1;rw[hpre i (by omega)]at k1;exact⟨by rw[bq (by omega),k1],by rw[keep i (by omega) (by omega),k2]⟩
 .have h1:=hC.tm i;rw[o_]at h1⊢;split at h1
  .rename_i hd;rw[ζ hd];exact hF _ u _ h1 hu (by rw[nat,ζ rfl])
  .rename_i hd;rw[η hd];exact h1.mono (λ_ h=>h) (λ_ _=>rfl) λj hj=>keep j (ht i j hj) λe=>(e ▸ h1.nu hk0) hj
theorem an.move{G:Nat->Prop}{ρ:List Value}{tl:T}{hl:H}{a:Act}{w:World}{d:Option Nat}{b:B}{k:Nat}(hC:an E n G ρ (Vx.fV d (.p hl.length 0) tl) (hl++[b]) a w)(hE:E.ρ.length=E.h.length)(hkl:hl[k]?=some .nw)(hek:E.h.length<=k)
  (ht:∀i,∀j∈l8 (gs tl i),j<hl.length) (hh:∀(i:Nat)(x:B),hl[i]?=some x->∀j∈jL x,j<hl.length) (hb:jL b=[]):∃ρ',an E n G ρ' (Vx.fV d (.p k 0) tl) (hl.set k b) a w:=
 hC.P4 (λk=>.p k 0) (λv u ρ' h1 h2 h3=>by
  obtain⟨c,e1,e2⟩:=h1.pt;rw[e1];exact .k (.p k 0 c (by grind))) hE hkl hek ht hh hb
theorem an.Ug{G:Nat->Prop}{ρ:List Value}{tl:T}{hl:H}{a:Act}{w:World}{d:Option Nat}{b:B}{k:Nat}(hC:an E n G ρ (Vx.fV d (.mp hl.length) tl) (hl++[b]) a w)(hE:E.ρ.length=E.h.length)(hkl:hl[k]?=some .nw)(hek:E.h.length<=k)
  (ht:∀i,∀j∈l8 (gs tl i),j<hl.length) (hh:∀(i:Nat)(x:B),hl[i]?=some x->∀j∈jL x,j<hl.length) (hb:jL b=[]):∃ρ',an E n G ρ' (Vx.fV d (.mp k) tl) (hl.set k b) a w:=
 hC.P4 (λk=>.mp k) (λv u ρ' h1 h2 h3=>by
  cases h1 with|o h=>cases h with|c h=>cases h with|k h=>cases h with
   |mp id r h=>exact .k (.mp k r (by rw[h3,<-h2,h]))) hE hkl hek ht hh hb
theorem GR{W:List (Option Nat)}{j r k:Nat}{b:List Nat}{y:I×List Nat}(hy:q[r]?=some y)(hW:W[r]?=some (some k))(h1:r≠j)(h2:r∉b)(h3:j∉y.2):k∈LU q W j b:=by
 unfold LU;rw[List.mem_filterMap];refine⟨((y,some k),r),?_,?_⟩
 .rw[List.mem_zipIdx_iff_getElem?,List.getElem?_zip_eq_some];exact⟨hy,hW⟩
 .have e1:has b r=false:=kV.2 λh=>h2 (cI.1 h);have e2:has y.2 j=false:=kV.2 λh=>h3 (cI.1 h);simp[e1,e2,fw h1]
theorem T1{G:Nat->Prop}{ρ:List Value}{n0:Nat}{h0:H}{W:List (Option Nat)}(D:Pz P n ops is bs m)(hq:q=(is.zip bs).take m)(hD:o8 q=true)(hE:E.ρ.length=E.h.length)(hn0:E.h.length<=n0)(hk:qs (Sat P) ow n0 q W q.zipIdx t h0 λt h=>rx (Sat P) ow (is.drop m) t h K)(fuel:Nat)(listed:Array Bool)(a:Act)(w:World)
  (hs:listed.size=ops.size) (hc:listed.toList.count false<=fuel) (hl0:∀j,¬listed.getD j false=true) (hC:an E n G ρ t h0 a w):wpAny P .any ops (QK E n K) fuel listed a w:=by
 have hql:q.length=m:=by have:=D.il;have:=D.bl;have:=D.ml;grind
 obtain⟨vs,ts,hv,t',h',hK,l3,l4,l5,l6,l7⟩:=Qo ow q.zipIdx t h0 hk;rw[List.length_zipIdx,hql]at l5 l6
 replace l7:=λ(j:Nat)(x:I×List Nat)(hx:q[j]?=some x)=>l7 j (x,j) (by rw[iT,hx];simp)
 have hbq:∀(j:Nat)(x:I×List Nat),q[j]?=some x->bs[j]?=some x.2/\j<m:=λj x hx=>by
  grind
 have getq:∀j,j<m->∃x,q[j]?=some x:=λj hj=>⟨_,aA (by omega)⟩
 have hts:∀j,j<=m->∃tj,ts[j]?=some tj/\Ag q vs t (· < j) tj:=by
  intro j
  induction j with
  |zero=>exact λ_=>⟨t,l3,λs=>.inr ⟨λj _ h=>absurd h (by omega),rfl⟩⟩
  |succ j ih=>
   intro hj;obtain⟨tj,e1,e2⟩:=ih (by omega);obtain⟨x,hx⟩:=getq j (by omega);obtain⟨v,t1,t2,_,_,f1,f2,f3,_,_,_,f5⟩:=l7 j x hx;rw[e1]at f2;cases f2;exact⟨t2,f3,e2.put hx f1 (λk=>by omega) hD (by omega) f5⟩
 have step:∀(j:Nat)(h1 h2:H),j<m->hv[j]?=some h1->hv[j+1]?=some h2->h2.length=h1.length/\∀k,W[j]?≠some (some k)->h2[k]?=h1[k]?:=by
  intro j h1 h2 hj e1 e2;obtain⟨x,hx⟩:=getq j hj;obtain⟨v,t1,t2,g1,g2,_,_,_,f4,f5,f6,_⟩:=l7 j x hx;rw[e1]at f4;rw[e2]at f5;cases f4;cases f5;unfold TS at f6;split at f6
  .obtain⟨_,nn,hW,_,_,_,_,rfl⟩:=f6;exact⟨dJ,λk hk=>bq λe=>hk (by rw[hW,e])⟩
  .obtain⟨_,nn,hW,_,_,_,_,rfl⟩:=f6;exact⟨dJ,λk hk=>bq λe=>hk (by rw[hW,e])⟩
  .obtain⟨_,_,id,off,b,hW,_,_,_,_,rfl⟩:=f6;exact⟨dJ,λk hk=>bq λe=>hk (by rw[hW,e])⟩
  .obtain⟨_,rfl,_⟩:=f6;exact⟨rfl,λ_ _=>rfl⟩
 have hvs:∀j,j<=m->∃hj,hv[j]?=some hj/\hj.length=h0.length:=by
  intro j
  induction j with
  |zero=>exact λ_=>⟨h0,l4,rfl⟩
  |succ j ih=>
   intro hj;obtain⟨h1,e1,e2⟩:=ih (by omega);obtain⟨x,hx⟩:=getq j (by omega);obtain⟨v,t1,t2,g1,g2,_,_,_,f4,f5,_⟩:=l7 j x hx;exact⟨g2,f5,(step j h1 g2 (by omega) e1 f5).1.trans e2⟩
 have const:∀(d s k:Nat)(h1 h2:H),s+d<=m->hv[s]?=some h1->hv[s+d]?=some h2->(∀r,s<=r->r<s+d->W[r]?≠some (some k))->h2[k]?=h1[k]?:=by
  intro d
  induction d with
  |zero=>
   intro s k h1 h2 _ e1 e2 _;rw[eB,e1]at e2;cases e2;rfl
  |succ d ih=>
   intro s k h1 h2 hle e1 e2 hw;obtain⟨h3,e3,_⟩:=hvs (s+d) (by omega);rw[(step (s+d) h3 h2 (by omega) e3 e2).2 k (hw _ (by omega) (by omega))];exact ih s k h1 h3 (by omega) e1 e3 λr r1 r2=>hw r r1 (by omega)
 let HL:=λ(l:Nat->Prop)(hl:H)=>hl.length=h0.length/\∀k,∃s h1,s<=m/\hv[s]?=some h1/\hl[k]?=h1[k]?/\(s=0\/∃r,s=r+1/\l r/\W[r]?=some (some k))/\∀r,l r->W[r]?=some (some k)->r<s
 refine yD ow D (J:=λl a w=>(∀j,l.getD j false=true->j<m)/\∃(G:Nat->Prop)(ρ:List Value)(tl:T)(hl:H),an E n G ρ tl hl a w/\Ag q vs t (λj=>l.getD j false=true) tl/\HL (λj=>l.getD j false=true) hl)
  (λl a w ⟨hm,G,ρ,tl,hl,hCl,hA,hH⟩=>⟨hm,λhall=>?_⟩)
  (λl a w j o i b ⟨hm,G,ρ,tl,hl,hCl,hA,hH⟩ hcl hjm hnl hready hci hz hset bS hn=>?_) fuel listed a w hs hc (λj _ hj=>absurd hj (hl0 j))
  (.inl ⟨λj hj=>absurd hj (hl0 j),G,ρ,t,h0,hC,λs=>.inr ⟨λj _ hj=>absurd hj (hl0 j),rfl⟩,rfl,λk=>⟨0,h0,aY _,l4,rfl,.inl rfl,λr hr=>absurd hr (hl0 r)⟩⟩)
 .obtain⟨tm,e1,e2⟩:=hts m (aL _);rw[l5]at e1;cases e1;have eh:hl=h':=by
   obtain⟨h2,f1,f2⟩:=hvs m (aL _);rw[l6]at f1;cases f1;apply bz;intro k;obtain⟨s,h1,s1,s2,s3,_,s5⟩:=hH.2 k;rw[s3];exact(const (m-s) s k h1 h' (by omega) s2 (by rw[Nat.add_sub_cancel' s1];exact l6) λr r1 r2 hW=>by
    have:=s5 r (hall r (by omega)) hW;omega).symm
  subst eh;exact⟨m,G,ρ,t',_,aL _,λj=>⟨hm j,hall j⟩,hCl.congr λs=>e2.eq hD hA λk _ _ _=>⟨hall k,hm k⟩,hK⟩
 .have hqj:q[j]?=some (i,b):=by grind
  obtain⟨tj,e1,e2⟩:=hts j (by omega);obtain⟨v,t1,t2,h1,h2,f1,f2,f3,g1,g2,g3,f5⟩:=l7 j _ hqj;rw[e1]at f2;cases f2;simp only at g3;have same:∀s∈tU i,gs tl s=gs tj s:=λs hs=>hA.eq hD e2 λk y hy hd=>by
   by_cases hkj:j=k
   .subst hkj
    grind
   .rcases(BS hD hqj hy hkj hd).2 hs with hb|hb
    .exact⟨λ_=>D.lt j b (hbq j _ hqj).1 k hb,λ_=>hready k hb⟩
    .have h1:=D.lt k y.2 (hbq k _ hy).1 j hb;exact⟨λhl=>absurd (hcl k y.2 hl (hbq k _ hy).1 j hb) hnl,λhl=>absurd hl (by omega)⟩
  have w1:∀k,k∉LU q W j b->∀r,l.getD r false=true->W[r]?=some (some k)->r<j:=by
   intro k hk r hr hW;obtain⟨y,hy⟩:=getq r (hm r hr)
   by_cases hrj:r=j
   .exact absurd (hrj ▸ hr) hnl
   by_cases hrb:r∈b
   .exact D.lt j b (hbq j _ hqj).1 r hrb
   by_cases hjr:j∈y.2
   .exact absurd (hcl r y.2 hr (hbq r y hy).1 j hjr) hnl
   .exact absurd (GR hy hW hrj hrb hjr) hk
  have w2:∀k,k∉LU q W j b->∀r,r<j->W[r]?=some (some k)->l.getD r false=true:=by
   intro k hk r hr hW;obtain⟨y,hy⟩:=getq r (by omega)
   by_cases hrb:r∈b
   .exact hready r hrb
   by_cases hjr:j∈y.2
   .have:=D.lt r y.2 (hbq r y hy).1 j hjr;omega
   .exact absurd (GR hy hW (by omega) hrb hjr) hk
  have hU:∀k,k∉LU q W j b->hl[k]?=h1[k]?:=by
   intro k hk;obtain⟨s,h3,s1,s2,s3,s4,s5⟩:=hH.2 k;have hsj:s<=j:=by
    rcases s4 with rfl|⟨r,rfl,r1,r2⟩
    .omega
    .have:=w1 k hk r r1 r2;omega
   rw[s3];exact(const (j-s) s k h3 h1 (by omega) s2 (by rw[Nat.add_sub_cancel' hsj];exact g1) λr r1 r2 hW=>by
    have:=s5 r (w2 k hk r (by omega) hW) hW;omega).symm
  obtain⟨h1',e3,e4⟩:=hvs j (by omega);rw[g1]at e3;cases e3;have more:∀{hl':H}{a':Act}{w':World}{G':Nat->Prop}{ρ':List Value},an E n G' ρ' (fV i.d v tl) hl' a' w'->HL (λk=>(l.setIfInBounds j true).getD k false=true) hl'->bS a' w':=λhC' hH'=>
   hn _ _ ⟨λx hx=>((hset x).1 hx).elim (λe=>e ▸ hjm) (hm x),_,_,_,_,hC',hA.put hqj f1 (λk=>hset k) hD hnl λ_=>rfl,hH'⟩
  have keep:∀k,W[j]?≠some (some k)->∀{hl':H},hl'[k]?=hl[k]?->∃s h1,s<=m/\hv[s]?=some h1/\hl'[k]?=h1[k]?/\(s=0\/∃r,s=r+1/\(l.setIfInBounds j true).getD r false=true/\W[r]?=some (some k))/\∀r,(l.setIfInBounds j true).getD r false=true->W[r]?=some (some k)->r<s:=by
   intro k hk hl' he;obtain⟨s,h3,s1,s2,s3,s4,s5⟩:=hH.2 k;refine⟨s,h3,s1,s2,he.trans s3,s4.imp (λh=>h) λ⟨r,r1,r2,r3⟩=>⟨r,r1,(hset r).2 (.inr r2),r3⟩,λr hr hW=>?_⟩;rcases(hset r).1 hr with rfl|hr
   .exact absurd hW hk
   .exact s5 r hr hW
  have writ:∀{nb:Nat}{y:B},W[j]?=some (some nb)->nb∉LU q W j b->h2=h1.set nb y->nb<h0.length->HL (λk=>(l.setIfInBounds j true).getD k false=true) (hl.set nb y):=by
   intro nb y hW hnU e hlt;refine⟨by rw[dJ];exact hH.1,λk=>?_⟩
   by_cases hk:k=nb
   .subst hk;refine⟨j+1,h2,by omega,g2,?_,.inr ⟨j,rfl,(hset j).2 (.inl rfl),hW⟩,λr hr hWr=>?_⟩
    .rw[e,bZ (by rw[hH.1];exact hlt),bZ (by omega)]
    .rcases(hset r).1 hr with rfl|hr
     .omega
     .have:=w1 k hnU r hr hWr;omega
   .exact keep k (λh=>by rw[hW]at h;exact hk (af (af h)).symm) (bq λe=>hk e.symm)
  unfold TS at g3;split at g3
  .skip
   rename_i cs ho;obtain⟨hg,nn,hW,hnU,hnw,⟨hle,hcs⟩,rfl,he⟩:=g3;have hnl':hl[nn]?=some .nw:=(hU nn hnU).trans hnw;have hlt:nn<h0.length:=by rw[<-e4];exact(aC.1 hnw).1
   refine te ow hCl hci hg (v:=.p hl.length 0) (h':=hl++[.cells cs]) (by rw[ho];simp only[dV,bn,cP,ν]) λa' w' G' ρ' hC'=>?_;have hrl:=hCl.ok.hr.len;obtain⟨ρ2,hC2⟩:=hC'.move hE hnl' (aX hn0 hle) (λi j hj=>hrl ▸ (hCl.tm i).lt j hj) (λi x hx j hj=>by
    have hil:=(aC.1 hx).1;exact hrl ▸ (hCl.ok.hr.rep i _ x (aA (by omega)) hx).lt j hj) hcs
   exact more hC2 (writ hW hnU he hlt)
  .skip
   rename_i pl ho;obtain⟨hg,nn,hW,hnU,hnw,hle,rfl,he⟩:=g3;have hnl':hl[nn]?=some .nw:=(hU nn hnU).trans hnw;have hlt:nn<h0.length:=by rw[<-e4];exact(aC.1 hnw).1
   refine te ow hCl hci hg (v:=.mp hl.length) (h':=hl++[M7 pl]) (by rw[ho];simp only[dV,bn,cP,ν]) λa' w' G' ρ' hC'=>?_;have hrl:=hCl.ok.hr.len;have hcs:jL (M7 pl)=[]:=by
    match pl with
    |0|1|z+2=>rfl
   obtain⟨ρ2,hC2⟩:=hC'.Ug hE hnl' (aX hn0 hle) (λi j hj=>hrl ▸ (hCl.tm i).lt j hj) (λi x hx j hj=>by
    have hil:=(aC.1 hx).1;exact hrl ▸ (hCl.ok.hr.rep i _ x (aA (by omega)) hx).lt j hj) hcs
   exact more hC2 (writ hW hnU he hlt)
  .skip
   rename_i x e k ho;obtain⟨hg,rfl,id,off,c,hW,hp,hnU,hx,⟨c1,c2,c3⟩,he⟩:=g3;have ex:gv tl x=gv tj x:=Mw λs hs=>same s (by unfold tU;rw[ho];simp[Vx.ops,hs]);have ee:gv tl e=gv tj e:=Mw λs hs=>same s (by unfold tU;rw[ho];simp[Vx.ops,hs]);have hgl:get? hl id=some (.cells c):=by rw[get?_eq];exact(hU id hnU).trans hx
   have hlt:id<h0.length:=by rw[<-e4];exact(aC.1 hx).1
   refine te ow hCl hci hg (v:=.ud) (h':=hl.set id (.cells (lay c off (gv tj e).cs))) (by
    rw[ho];simp only[dV,ex,ee,hp,hgl,bn];exact⟨⟨c1,c2,c3⟩,by simp⟩) λa' w' G' ρ' hC'=>more hC' (writ hW hnU he hlt)
  .skip
   obtain⟨hW,he,hq'⟩:=g3;refine td ow hCl hci (xK.congr ow (t:=tj) (hq' hl ⟨?_,λk y hy hny=>?_⟩) same) λa' w' G' ρ' hC'=>more hC' ⟨hH.1,λk=>keep k (by rw[hW];nofun) rfl⟩
   .rw[Jd,hH.1,e4]
   .rw[zr]at hy;split at hy
    .rw[aJ]at hy;obtain⟨_,_,e⟩:=hy;exact absurd e.symm hny
    .exact(hU k ‹_›).trans hy
end
theorem Fw.fn(r:Option Nat)(f:FuncId):(Fw r).fn f:=trivial
theorem Fw.room(r:Option Nat)(n:Nat):(Fw r).room n:=λ_ h=>by contradiction
theorem Fw.depth(r:Option Nat)(N:Nat):(Fw r).depth.isSome=true->1<=N:=λh=>by contradiction
section
variable{P:Program}{ops:Array Oper}{Q:Exit->Act->World->Prop}{a:Act}{w:World}{o:Oper}{bS:Act->World->Prop}{r:Option Nat}{N:Nat}
theorem RZ(h:BV o=true):∀c,o.op≠.defer c:=by
 intro c hc;unfold BV at h
 grind
theorem um{f:FuncId}{args:Array Value}{R:Ending->World->Prop}(h:Calls P f args w R):CallsIn (Fw r) N P f args w R:=
 ⟨trivial,λcs _=>let⟨e,w',fr,r,s,x⟩:=h cs;⟨e,w',fr,r,comesIn_wide.2 s,x⟩⟩
theorem uV{f:FuncId}{args:Array Value}{R:Ending->World->Prop}(h:CallsIn (Fw r) N P f args w R):Calls P f args w R:=
 λcs=>let⟨e,w',fr,q,s,x⟩:=h.2 cs (Fw.room _ _);⟨e,w',fr,q,comesIn_wide.1 s,x⟩
theorem Ly{row:String}{args:Array Value}{R:Value->World->Prop}(h:Rows P row args w R):RowsIn (Fw r) N P row args w R:=
 λc cs _=>let⟨v,w',q,s⟩:=h c cs;⟨v,w',q,stepsIn_wide.2 s⟩
theorem UJ(hd:BV o=true)(h:o.wp P a w bS Q):o.wpIn (Fw r) N P a w bS Q:=by
 unfold Oper.wpIn;refine⟨λ_ _=>trivial,?_⟩;rw[Oper.semAt_eq _ _ _ (RZ hd)];unfold Oper.wp at h;generalize(execOp a.eval o).run P w=res at *;cases res with
 |ok x w'=>
  cases x<;>simp only[Oper.upon,Oper.uponIn]at h⊢<;>first
   |exact h
   |exact⟨Fw.depth _ _,um h⟩
   |exact⟨Fw.depth _ _,Ly h⟩
   |exact h.elim
 |halt x w'=>cases x<;>simp only[Oper.upon,Oper.uponIn]at h⊢<;>exact h
theorem C1(hl:¬LetsOut Q){i:Nat}(hd:∀o,ops[i]?=some o->BV o=true){K K':Act->World->Prop}(hK:∀a w,K a w->K' a w)(h:wpOp P ops Q i K a w):wpOpIn (Fw r) N P ops Q i K' a w:=by
 unfold wpOp at h;unfold wpOpIn;split
 grind
 .rename_i o he;rw[he]at h;simp only at h;split
  .rename_i hw;rw[ζ hw]at h;rcases h with h|⟨_,h⟩
   .exact UJ (hd o he) (Oper.wp_mono hK h)
   grind
  .rename_i hw;rw[η hw]at h;exact⟨λ_ _=>trivial,hK _ _ h⟩
theorem GK(hl:¬LetsOut Q)(hd:∀(i:Nat) o,ops[i]?=some o->BV o=true):∀(l:List Nat)(a:Act)(w:World),wpOps P ops Q l a w->wpOpsIn (Fw r) N P ops Q l a w:=by
 intro l
 induction l with
 |nil=>exact λa w h=>h
 |cons i l ih=>
  intro a w h;rw[wpOps_cons]at h;rw[wpOpsIn_cons];exact C1 hl (hd i) ih h
theorem GL(hl:¬LetsOut Q)(hd:∀(i:Nat) o,ops[i]?=some o->BV o=true){md:Region.Mode}:∀(fuel:Nat)(ls:Array Bool)(a:Act)(w:World),wpAny P md ops Q fuel ls a w->wpAnyIn (Fw r) N P md ops Q fuel ls a w:=by
 intro fuel
 induction fuel with
 |zero=>exact λls a w h=>h
 |succ fuel ih=>
  intro ls a w h;exact⟨h.1,λi hi=>C1 hl (hd i) (ih _) (h.2 i hi)⟩
theorem E6{id:Nat}(hl:¬LetsOut Q)(hd:∀(i:Nat) o,ops[i]?=some o->BV o=true)(h:wpList P ops Q ops.toList a w):(Code.region id ops false).wpIn (Fw r) N P Q a w:=by
 have e:=wpOps_eq_wpList (P:=P) (Q:=Q) (ops:=ops) ops.toList 0 (λj=>by simp);refine wpIn_region (GK hl hd _ _ _ ?_);rw[List.range_eq_range',<-cq,e];exact h
theorem lD{id:Nat}(hl:¬LetsOut Q)(hd:∀(i:Nat) o,ops[i]?=some o->BV o=true)(hm:P.follows .mixedOrders=true)
  (h:wpAny P .any ops Q ops.size (Array.replicate ops.size false) a {w with drawn:=w.drawn+1}):(Code.region id ops true).wpIn (Fw r) N P Q a w:=
 wpIn_region_any hm (GL hl hd _ _ _ _ h)
theorem sd(h:ops.toList.all BV=true):∀(i:Nat) o,ops[i]?=some o->BV o=true:=λ_ o ho=>
 aP.1 h o (Array.mem_toList_iff.2 (Array.mem_of_getElem? ho))
theorem Cr{E:gG}{n:Nat}{K:Ex->T->H->Prop}:¬LetsOut (QK E n K):=λ⟨_,_,_,_,_,_,_,h⟩=>h.elim
theorem Aa{A:Type}{c:Code}(I:A->Act->World->Prop)(μ:A->Nat)(x:A)(h₀:I x a w)
  (round:∀x a w,I x a w->c.wpIn (Fw r) N P (Exit.then (λa' w'=>∃y,I y a' w'/\μ y<μ x) Q) a w):(Code.loop c).wpIn (Fw r) N P Q a w:=by
 intro b k cs hro hb hr;have key:∀(n:Nat)(x:A)(a:Act)(w:World),μ x=n->I x a w ->
   ∃e a' w',Q e a' w'/\ArrivesIn (Machine.fenced P (Fw r)) P (lone (b.atR a (.code c :: .inLoop c::k)) cs w) b k cs e a' w':=by
  intro n
  induction n using Nat.strongRecOn with
  |_ n ih=>
   intro x a w hn hI;obtain⟨e,a₁,w₁,hq,harr⟩:=round x a w hI b (.inLoop c::k) cs hro hb hr;cases e with
   |normal=>
    obtain⟨y,hI₁,hlt⟩:=hq;obtain⟨e₂,a₂,w₂,hq₂,harr₂⟩:=ih (μ y) (hn ▸ hlt) y a₁ w₁ rfl hI₁;exact⟨e₂,a₂,w₂,hq₂,.of_steps (StepsIn.trans harr (.one (fenced_calm hb hr rfl) stepR_inLoop)) harr₂⟩
   |exit id=>exact⟨_,a₁,w₁,hq,.pass (x:=.inLoop c) rfl (λ_ _=>.inl (by simp)) harr⟩
   |goto l=>exact⟨_,a₁,w₁,hq,.pass (x:=.inLoop c) rfl (λ_ _=>.inl (by simp)) harr⟩
   |ret=>exact⟨_,a₁,w₁,hq,.pass (x:=.inLoop c) rfl (λ_ _=>.inl (by simp)) harr⟩
   |panic ch=>exact⟨_,a₁,w₁,hq,.pass (x:=.inLoop c) rfl (λ_ _=>.inl (by simp)) harr⟩
   |outgrown=>exact⟨_,a₁,w₁,hq,.pass (x:=.inLoop c) rfl (λ_ _=>.inl (by simp)) harr⟩
 obtain⟨e,a',w',hq,harr⟩:=key _ x a w rfl h₀;exact⟨e,a',w',hq,.of_steps (.one (fenced_calm hb hr rfl) stepR_loop) harr⟩
end
end Go.Vx
