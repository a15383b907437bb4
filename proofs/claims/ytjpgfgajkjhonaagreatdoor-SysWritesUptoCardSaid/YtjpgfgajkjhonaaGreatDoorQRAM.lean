/- Lemmas. Conditions: none. -/
import Derived.Test.YtjpgfgajkjhonaaGreatDoorQRAL
import Derived.RegionIn
import Derived.RangeFuncNested
namespace Go.Vx
section
variable{P:Program}{E:gL}{n:Nat}{h:H}{K:Ex->T->H->Prop}{Q:Exit->Act->World->Prop}(ow:Nat->Bool)
def agree(is:List I)(vs:List V)(L:Nat->Prop)(t tL:T):Prop:=
 ∀s,(∃(k:Nat)(i:I),L k/\is[k]?=some i/\i.d=some s/\vs[k]?=some (gs tL s))\/((∀(k:Nat)(i:I),L k->is[k]?=some i->i.d≠some s)/\gs tL s=gs t s)
def BH(rs:List R)(L:Nat->Prop)(h x:H):Prop:=
 x.length=h.length/\∀i,(∃(k:Nat)(r:R)(w:Nat×B),L k/\rs[k]?=some r/\w∈r.ws/\w.1=i/\x[i]?=some w.2/\∀(y:Nat)(r':R)(w':Nat×B),L y->k<y->rs[y]?=some r'->w'∈r'.ws->w'.1≠i)\/((∀(k:Nat)(r:R)(w:Nat×B),L k->rs[k]?=some r->w∈r.ws->w.1≠i)/\x[i]?=h[i]?)
theorem zp{a:H}{r:R}(x:(r.ws.map (·.1)).Nodup)(hl:∀w∈r.ws,w.1<a.length):(wr a r).length=a.length/\(∀w∈r.ws,(wr a r)[w.1]?=some w.2)/\∀i,(∀w∈r.ws,w.1≠i)->(wr a r)[i]?=a[i]?:=SH r.ws a x hl
theorem Eb(n:Nat):∀(rs:List R),(∀(j:Nat)(r:R),rs[j]?=some r->(r.ws.map (·.1)).Nodup/\∀w∈r.ws,w.1<n) ->
  ∀a:H,a.length=n->(rs.foldl wr a).length=n/\∀i,(∃(k:Nat)(r:R)(w:Nat×B),rs[k]?=some r/\w∈r.ws/\w.1=i/\(rs.foldl wr a)[i]?=some w.2/\∀(y:Nat)(r':R)(w':Nat×B),k<y->rs[y]?=some r'->w'∈r'.ws->w'.1≠i)\/((∀(k:Nat)(r:R)(w:Nat×B),rs[k]?=some r->w∈r.ws->w.1≠i)/\(rs.foldl wr a)[i]?=a[i]?):=by
 intro rs
 induction rs with
 |nil=>intro _ a c;exact⟨c,λi=>.inr ⟨by simp,rfl⟩⟩
 |cons r rs g=>
  intro z a c;obtain⟨n1,n2⟩:=z 0 r rfl;obtain⟨w1,u,l⟩:=zp n1 (λw x=>by rw[c];exact n2 w x);obtain⟨g1,p⟩:=g (λj r q=>z (j+1) r (by simpa using q)) (wr a r) (by rw[w1,c]);refine⟨g1,λi=>?_⟩;rcases p i with⟨k,r',w,k1,k2,k3,s,A⟩|⟨k1,k2⟩
  .refine .inl ⟨k+1,r',w,by simpa using k1,k2,k3,s,λy r2 u v hr x=>?_⟩;cases y with
   |zero=>omega
   |succ y=>exact A y r2 u (by omega) (by simpa using hr) x
  .rw[cQ,k2]
   by_cases b:∃w∈r.ws,w.1=i
   .obtain⟨w,x,rfl⟩:=b;refine .inl ⟨0,r,w,rfl,x,rfl,u w x,λy r2 u v d f=>?_⟩;cases y with
    |zero=>omega
    |succ y=>exact k1 y r2 u (by simpa using d) f
   .have b:∀w∈r.ws,w.1≠i:=λw x e=>b ⟨w,x,e⟩;refine .inr ⟨λk r' w' v x=>?_,l i b⟩;cases k with
    |zero=>simp at v;subst v;exact b w' x
    |succ k=>exact k1 k r' w' (by simpa using v) x
theorem vZ{h:H}{rs:List R}{j:Nat}(z:∀(k:Nat)(r:R),k<j->rs[k]?=some r->(r.ws.map (·.1)).Nodup/\∀w∈r.ws,w.1<h.length):BH rs (· < j) h ((rs.take j).foldl wr h):=by
 have get:∀(k:Nat)(r:R),(rs.take j)[k]?=some r<->k<j/\rs[k]?=some r:=by
  intro k r;rw[ao]
  by_cases x:k<j
  .simp[x]
  .simp[x]
 have⟨g1,d⟩:=Eb h.length (rs.take j) (λk r x=>z k r ((get k r).1 x).1 ((get k r).1 x).2) h rfl;refine⟨g1,λi=>?_⟩;rcases d i with⟨k,r,w,k1,k2,k3,e,f⟩|⟨k1,k2⟩
 .exact .inl ⟨k,r,w,((get k r).1 k1).1,((get k r).1 k1).2,k2,k3,e,λc r' w' u y v b=>f c r' w' y ((get c r').2 ⟨u,v⟩) b⟩
 .exact .inr ⟨λk r w x hr g=>k1 k r w ((get k r).2 ⟨x,hr⟩) g,k2⟩
structure Rj(P:Program)(n:Nat)(ops:Array Oper)(is:List I)(bs:List (List Nat))(m:Nat)(lo:Nat)(rs:List R)(t:T)(h:H):Prop where
  il:is.length=ops.size
  ml:m<=ops.size
  ci:∀(j:Nat)(o:Oper),ops[j]?=some o->∃i,is[j]?=some i/\oY P n ops o=some i
  cl:∀(j:Nat)(o:Oper),ops[j]?=some o->∃b,bs[j]?=some b/\(∀k∈pD o,k∈b)/\∀k∈b,k∈pD o\/∃k'∈pD o,∃b':List Nat,bs[k']?=some b'/\k∈b'
  lt:∀(j:Nat)(b:List Nat),bs[j]?=some b->∀k∈b,k<j
  fu:∀(j:Nat)(b:List Nat),m<=j->bs[j]?=some b->∀i,i<j->i∈b
  dj:∀(i j:Nat)(x y:I)(bi bj:List Nat),i<m->j<m->i≠j->is[i]?=some x->is[j]?=some y->bs[i]?=some bi->bs[j]?=some bj ->
    (∀s,x.d=some s->y.d≠some s)/\∀s,y.d=some s->s∈bU x.o++v7 x.g->j∈bi\/i∈bj
  vq:∀(j:Nat)(x:I),j<m->is[j]?=some x->∃r tj acj,rs[j]?=some r/\ze ow P lo x tj acj r/\agree is (rs.map (·.v)) (· < j) t tj/\BH rs (· < j) h acj
  rl:rs.length=m
  cf:∀(j k:Nat)(r r':R)(b:List Nat),rs[j]?=some r->rs[k]?=some r'->bs[k]?=some b->j<k->Mn r r'->j∈b
  kc:∀(j:Nat)(r:R),rs[j]?=some r->∀id∈r.kl,(∀s,id∉eT (gs t s))/\(∀(i:Nat)(b:B),h[i]?=some b->i∉r.rd->id∉eZ b) /\
    ∀(k:Nat)(r':R)(x:I),k<j->rs[k]?=some r'->is[k]?=some x->(∀d,x.d=some d->id∉eT r'.v)/\∀w∈r'.ws,w.1∉r.rd->id∉eZ w.2
theorem vd:∀(ids:List Nat)(h:H),(ids.map λi=>(i,B.no)).foldl (λa w=>a.set w.1 w.2) h=gone ids h
  |[],h=>by
    refine cR λi=>?_
    rw[nG];simp
  |j::ids,h=>by
    rw[cG,cQ,vd ids]
    refine cR λi=>?_
    simp only[nG,af,dE]
    by_cases e1:i=j
    · subst e1
      by_cases hl:i<h.length
      · simp[hl]
      · simp[hl]
    · simp only[e1,false_or,show ¬j=i from λe=>e1 e.symm,ψ]
theorem DJ{y z:H}{x:V}(h:∀i∈ij x,get? y i=get? z i):uv y x=uv z x:=by
 cases x<;>first|rfl|(simp only[uv,h _ (aL.2 rfl)])
theorem DM{z u:H}{x:V}(h:∀i∈kI x,get? z i=get? u i):uw z x=uw u x:=by
 by_cases y:∃g c,x=V.fc g c
 .obtain⟨F,c,rfl⟩:=y;simp only[kI,aO]at h;simp only[uw,aZ (λx y=>DJ λi v=>h i ⟨x,y,v⟩)]
 .have⟨_,b,_⟩:=k0 (λg c e=>y ⟨g,c,e⟩);have e:∀h:H,uw h x=uv h x:=λh=>by cases x<;>first|rfl|exact absurd ⟨_,_,rfl⟩ y
  rw[e,e];exact DJ (by rw[<-b];exact h)
theorem Mw{z u:H}{x:V}(h:∀i∈jJ x,get? z i=get? u i):FD z x=FD u x:=by
 by_cases y:∃c,x=V.ag c
 .obtain⟨c,rfl⟩:=y;simp only[jJ,aO]at h;simp only[FD,aZ (λx y=>DM λi v=>h i ⟨x,y,v⟩)]
 .have⟨_,b,_⟩:=k1 (λc e=>y ⟨c,e⟩);have e:∀h:H,FD h x=uw h x:=λh=>by cases x<;>first|rfl|exact absurd ⟨_,rfl⟩ y
  rw[e,e];exact DM (by rw[<-b];exact h)
theorem Mv{z u:H}{x:V}(h:∀i∈eT x,get? z i=get? u i):rY z x=rY u x:=by
 by_cases y:∃c,x=V.tu c
 .obtain⟨c,rfl⟩:=y;rfl
 .have⟨_,v,_⟩:=k2 (λc e=>y ⟨c,e⟩);have e:∀h:H,rY h x=FD h x:=λh=>by cases x<;>first|rfl|exact absurd ⟨_,rfl⟩ y
  rw[e,e];exact Mw (by rw[<-v];exact h)
theorem W_{G G':Nat->Prop}{ρ ρ':List Value}{t:T}{a:Act}{w w':World}{y:H}{ns:List B}{nf:List Nat}{lo:Nat}(z:ak E n G ρ t y a w)(u:ak E n G' ρ' t (y++ns) a w')(c:E.ρ.length<=lo)(C:E.ρ.length=E.h.length)(hl:nf.length=ns.length)(d:nf.Nodup)
  (e:∀i∈nf,y[i]?=some .nw) (g:∀i∈nf,lo<=i) (D:ρ.length=y.length) :
  ∃ρ2,ak E n G' ρ2 t ((nf.zip (ns.map (eR λk=>if k<y.length then k else(get? nf (k-y.length)).getD 0))).foldl (λa w=>a.set w.1 w.2) y) a w'/\∀(v:Value)(x:V),au G' w' ρ' v x->au G' w' ρ2 v (gS (λk=>if k<y.length then k else(get? nf (k-y.length)).getD 0) x):=by
 refine u.move (nf:=nf) (f:=λk=>if k<y.length then k else(get? nf (k-y.length)).getD 0) hl d e (λi l=>aV c (g i l)) (by rw[C];exact z.ok.hl) z.ok.hl (λk p=>by simp only[p,if_true]) (λk i p=>by
   simp only[show ¬(y.length+k<y.length)by omega,ψ,get?_eq];rw[show y.length+k-y.length=k by omega,p,bo]) (λs i l=>?_) (λi b A j F=>?_)
 .have:=(z.tm s).lt i l;omega
 .have q:i<ρ.length:=by rw[D];exact(aC.1 A).1
  have:=(z.ok.hr.rep i _ b (aA q) A).lt j F;omega
theorem Sf{G:Nat->Prop}{ρ:List Value}{t:T}{a:Act}{w:World}{o:Oper}{bV:Act->World->Prop}{ops:Array Oper}{i:I}{lo:Nat}{g:H}{r:R}(F:ak E n G ρ t g a w)(hlo:E.ρ.length<=lo)(hE:E.ρ.length=E.h.length)(l:oY P n ops o=some i){ac:H}(U:ze ow P lo i t ac r)
  (hlen:g.length=ac.length) (q:∀id,(id∈r.rd\/id∈kJ r)->g[id]?=ac[id]?) (hkl:∀id∈r.kl,(∀s,id∉eT (gs t s))/\∀(j:Nat)(b:B),g[j]?=some b->j∉r.rd->id∉eZ b)
  (C:∀(a':Act)(w':World)(G':Nat->Prop)(ρ':List Value),ak E n G' ρ' (fk i.d r.v t) (wr g r) a' w'->bV a' w') :
  if Region.wanted o (yielded ops a.tmps)then o.wp P a w bV Q else bV (a.put o.dst undef) w:=by
 have⟨M,hd,hlt,D⟩:=nO l;rcases U with⟨h1,h2,U⟩|U|U|U|U|U|U
 .skip
  have hwr:wr g r=g:=by simp[wr,h1]
  rw[hwr]at C;have hM:NH g (yl r.rd ac):=by
   intro id b J hn;rw[get?_eq]at J⊢;simp only[yl,aB,aG]at J;have⟨p,hp,he⟩:=J;rw[lW]at hp;cases hh:ac[id]? with
   |none=>rw[hh]at hp;cases hp
   |some x=>
    rw[hh]at hp;simp only[bE,aE,cF]at hp;subst hp;simp only at he;cases hc:has r.rd id<;>rw[hc]at he
    .exact absurd he.symm hn
    .rw[q id (.inl (cK.1 hc)),hh];exact κ some he
  have⟨v,ws,rd,kl⟩:=r;simp only at h1 h2 U hM C
  replace U:w8 ow P i t g v:=w8.more ow U hM
  have run:Qt ow P i.o t g v->o.wp P a w bV Q:=by
   intro S;refine ou ow F (λv' w' G' ρ' t' Y u W hv ⟨e1,e2,e3⟩=>?_) (λv' w' G' ρ' t' Y u _ _ hf=>hf.elim) M (S t g (λ_ _=>rfl) λ_ _ h _=>h);subst e1 e2 e3;rw[hd]at C;exact C _ _ _ _ (W.fk o.dst hlt hv)
  have pass:v=.ud->bV (a.put o.dst undef) w:=by
   intro hv;subst hv;rw[hd]at C;exact C _ _ _ _ (F.fk o.dst hlt A0)
  cases A:o.guard with
  |none=>
   rw[A]at D;simp only at D;unfold w8 at U;rw[D]at U;rw[ζ (by simp[Region.wanted,A])];exact run U
  |some p=>
   have⟨j,x⟩:=p;rw[A]at D;have⟨d,hd1,D⟩:=D;unfold w8 at U;rw[D]at U;rcases U with⟨b,J,h1,h2⟩|⟨J,h1⟩
   .rw[mT F A hd1 J]
    by_cases hbx:b=x
    .rw[ζ (by simp[hbx])];exact run (h1 hbx)
    .rw[η (by simp[hbx])];exact pass (h2 hbx)
   .rw[qL F A hd1 J];exact pass h1
 .skip
  obtain⟨x,y,m,id,off,cs,rfl,h1,h2,⟨c1,c2,c3⟩,rfl⟩:=U;simp only at hd;have A:o.guard=none:=by
   cases A:o.guard with
   |none=>rfl
   |some p=>rw[A]at D;have⟨d,_,D⟩:=D;cases D
  rw[ζ (by simp[Region.wanted,A])];have h2':get? g id=some (.cells cs):=by rw[get?_eq,q id (.inr (by simp[kJ])),<-get?_eq];exact h2
  refine ou ow F (K:=λ_ t' Y=>t'=t/\Y=g.set id (.cells (lay cs off (gv t y).cs))) (KP:=λ_ _ _=>False) (λv' w' G' ρ' t' Y z W hv ⟨e1,e2⟩=>?_) (λv' w' G' ρ' t' Y u _ _ hf=>hf.elim) M ?_
  .subst e1 e2;rw[<-hd];exact C _ _ _ _ W
  .simp only[bq,h1,h2',bf];exact⟨⟨c1,c2,c3⟩,trivial,trivial⟩
 .skip
  obtain⟨d,id,bb,vv,oo,rfl,h3,h5,hnwo,rfl⟩:=U;simp only at hd M;have A:o.guard=none:=by
   cases A:o.guard with
   |none=>rfl
   |some p=>rw[A]at D;have⟨d,_,D⟩:=D;cases D
  rw[ζ (by simp[Region.wanted,A])];have hnw:g[id]?=some .nw:=by rw[q id (.inr (by simp[kJ])),<-get?_eq];exact h3
  have hul:id<ρ.length:=by rw[F.ok.hr.len];exact(aC.1 hnw).1
  rcases hnwo with⟨cs,rfl,rfl,rfl⟩|⟨pl,rfl,rfl,rfl⟩
  .have⟨ty,ho,hz⟩:=Jb (M.resolve_right λe=>by cases e);have⟨i,z,l,hz0,z1,_,z3⟩:=jf (G:=G) (w:=w) (ρ := ρ) hz;have D:=gK.alloc w (.cells z.cells ty);have hC1:=F.grow D (λ_ h=>h) (λ_ h=>.inl h);have hC2:=hC1.place hnw (by omega) (hd:=.pointer (some ⟨w.heap.size,0,none⟩)) (x:=.cells cs) ⟨w.heap.size,z.cells,ty,rfl,heap_alloc_new w _,z1,λj y hj=>(dI.k (z3 j y hj).1).mono (λ_ h=>h) (λb J=>D.iE b (F.ok.hr.gl b J)) (λ_ _=>rfl)⟩ (λb J=>by
    simp only[eU,fO,gh,Option.toList_some,cV,aL]at J;subst J;refine⟨F.ok.size,λh=>?_,λh=>?_⟩
    .have:=F.ok.hr.gl _ h;omega
    .have:=F.ok.hr.yP h;omega)
   have h6:=hC2.fk o.dst hlt (x:=.p id 0) (v:=.pointer (some ⟨w.heap.size,0,none⟩)) (.k (.p id 0 w.heap.size (by rw[dE,ζ rfl,ζ hul])));have h7:=C _ _ G _ (by simp only[wr,cQ,List.foldl_nil,hd];exact h6);exact dU (w':=w.alloc (.cells z.cells ty)) (v':=.pointer (some ⟨w.heap.size,0,none⟩)) (by simp[execOp,ho,Instr.alloc,zeroValue,typeInfo,l,hz0,newVar,newRow]) h7
  .have⟨ty,ho⟩:=J9 (M.resolve_right λe=>by cases e);have D:=gK.alloc w (.map #[] 0);have hC1:=F.grow D (λ_ h=>h) (λ_ h=>.inl h);have hC2:=hC1.place hnw (by omega) (hd:=.map (some w.heap.size)) (x:=KM pl) (by
    exact C1 pl (heap_alloc_new w _)) (λb J=>by
    rw[eU,G_]at J;simp only[fO,Option.toList_some,cV,aL]at J;subst J;refine⟨F.ok.size,λh=>?_,λh=>?_⟩
    .have:=F.ok.hr.gl _ h;omega
    .have:=F.ok.hr.yP h;omega)
   have h6:=hC2.fk o.dst hlt (x:=.mp id) (v:=.map (some w.heap.size)) (.k (.mp id w.heap.size (by rw[dE,ζ rfl,ζ hul])));have h7:=C _ _ G _ (by simp only[wr,cQ,List.foldl_nil,hd];exact h6);refine dU (w':=w.alloc (.map #[] 0)) (v':=.map (some w.heap.size)) ?_ h7;simp only[execOp,ho];exact cT (by simp[Instr.makeMap])
 .skip
  obtain⟨f,args,ids,r0,ns,nf,hgi,hof,hown,hids,hchk,hos,hS,hl,hne,hnf,hnd,rfl⟩:=U;have A:o.guard=none:=by
   cases A:o.guard with
   |none=>rfl
   |some p=>rw[A]at D;have⟨d,_,D⟩:=D;rw[hgi]at D;cases D
  rw[ζ (by simp[Region.wanted,A])];rw[hof]at M;generalize hvs:(args.map λx=>cH (gv t x))=vs at *;simp only at q hkl C;have hch:=hchk;simp only[FQ,aP,aS]at hch;have⟨⟨hch1,hch2⟩,hch3⟩:=hch;have hin:∀i∈ids,i<g.length:=λi l=>by
   have:=(hch2 i l).1.1;rw[hlen];exact(fH ..).mp this
  have L:∀i∈ids,get? g i=get? ac i:=λi l=>by rw[get?_eq,get?_eq];exact q i (.inl l)
  have hclo:∀i∈ids,∀b,g[i]?=some b->∀j∈eZ b,j∈ids:=λi l b J j hj=>by
   have:=(hch2 i l).2;rw[<-L i l,get?_eq,J,bo]at this;exact cK.1 (this j hj)
  have hreach:reach g 100 (vs.flatMap eT) []=ids:=by
   rw[<-hids];exact yI 100 _ _ (λi l=>L i (by rw[<-hids];exact l))
  have hchk':FQ g ids (vs.flatMap eT)=true:=by
   simp only[FQ,aP,aS];refine⟨⟨hch1,λi l=>?_⟩,hch3⟩;have:=hch2 i l;rw[L i l,hlen];exact this
  have hbl:(ids.map λi=>eR (pos ids) ((get? g i).getD .no))=ids.map λi=>eR (pos ids) ((get? ac i).getD .no):=aZ λi l=>by rw[L i l]
  have hrow:rowsOf g ids=rowsOf ac ids:=dX λi l=>by rw[L i l]
  have hnd':=iH hch1;have hback:back ids (home g.length ids) (mP (rowsOf ac ids) g) ((ids.map λi=>eR (pos ids) ((get? g i).getD .no))++ns)=g++ns.map (eR (home g.length ids)):=by
   have hkl':(mP (rowsOf ac ids) g).length=g.length:=lO _ _;refine cR λi=>?_
   by_cases hil:i<g.length
   .rw[aT hil]
    by_cases l:i∈ids
    .rw[zS l (by omega) (by simp)];have hp:=sy l;rw[aT (by simpa using hp),aB,iA l];simp only[bE,get?_eq];rw[aA hil,bo,sd,CB λj hj=>?_];have hjm:=hclo i l _ (aA hil) j hj;rw[sE (iA hjm)]
    .rw[zQ l (by omega)];exact Av _ _ _ λj hj b J=>(hkl j hj).2 i b J l
   .rw[zR (by omega),hkl',aY (by rw[aH];omega),aH,aY (by omega),aB];congr 2;omega
  have hgm:(λk=>(λk=>if k<g.length then k else(get? nf (k-g.length)).getD 0) (home g.length ids k))=gm ids nf:=by
   funext k
   simp only[gm];cases S:get? ids k with
   |some i=>
    rw[sE (by rw[<-get?_eq];exact S),bo,ζ (hin i (aJ (by rw[<-get?_eq];exact S)))]
   |none=>
    have hkl:ids.length<=k:=by
     rw[get?_eq]at S;exact List.getElem?_eq_none_iff.1 S
    rw[xE hkl,Option.getD_none,η (by omega)];congr 2;omega
  refine ou ow F (K:=λv' t' Y=>v'=gS (home g.length ids) r0/\(∀s,gs t' s=gs t s)/\Y=g++ns.map (eR (home g.length ids))) (KP:=λ_ _ _=>False) (λv' w' G' ρ' t' Y z W hv ⟨e1,e2,e3⟩=>?_) (λv' w' G' ρ' t' Y u _ _ hf=>hf.elim) M ?_
  .subst e1 e3;have hC2:=W.congr (λs=>(e2 s).symm);have hht:∀s,∀i∈eT (gs t s),i<g.length:=λs i l=>by
    have:=(F.tm s).lt i l;rwa[F.ok.hr.len]at this
   have hhh:∀(i:Nat)(b:B),g[i]?=some b->∀j∈eZ b,j<g.length:=λi b J j hj=>by
    have hil:i<ρ.length:=by rw[F.ok.hr.len];exact(aC.1 J).1
    have:=(F.ok.hr.rep i _ b (aA hil) J).lt j hj;rwa[F.ok.hr.len]at this
   have⟨ρ2,Z,X⟩:=hC2.move (nf:=nf) (f:=λk=>if k<g.length then k else(get? nf (k-g.length)).getD 0) (by simpa using hl) hnd (λi l=>by
     have hw:i∈kJ (⟨gS (gm ids nf) r0,nf.zip (ns.map (eR (gm ids nf))),ids,rowsOf ac ids⟩:R):=by
      have e:kJ (⟨gS (gm ids nf) r0,nf.zip (ns.map (eR (gm ids nf))),ids,rowsOf ac ids⟩:R)=nf:=dr (by rw[aH];omega);rw[e];exact l
     rw[q i (.inr hw),<-get?_eq];exact(hnf i l).2) (λi l=>aV hlo (hnf i l).1) (by rw[hE];exact F.ok.hl) F.ok.hl (λk S=>by simp only[S,if_true]) (λk i S=>by
      simp only[show ¬(g.length+k<g.length)by omega,ψ,get?_eq];rw[show g.length+k-g.length=k by omega,S,bo]) hht hhh
   have e4:(ns.map (eR (home g.length ids))).map (eR λk=>if k<g.length then k else(get? nf (k-g.length)).getD 0)=ns.map (eR (gm ids nf)):=by
    rw[bn];refine aZ λb _=>?_;simp only[Function.comp,sd];rw[<-hgm]
   rw[e4]at Z;have O:=X _ _ hv;rw[se,hgm]at O;rw[hd]at C;exact C _ _ _ _ (Z.fk o.dst hlt O)
  .have hcx:qA (Sat P) f vs t g (λv' t' Y=>v'=gS (home g.length ids) r0/\(∀s,gs t' s=gs t s)/\Y=g++ns.map (eR (home g.length ids))) (λ_ _ _=>False):=by
    unfold qA;cases hv:vs.flatMap eT with
    |nil=>
     rw[hv]at hids;have hids0:ids=[]:=by rw[<-hids];rfl
     subst hids0;have hm:vs.map (gS (pos []))=vs:=fC λx M=>AY (by
      rw[br]at hv;exact hv x M)
     rw[hm]at hS;refine Sat.mono hS λout Y ⟨k1,k2⟩=>?_;subst k1 k2;cases Y with
     |nil=>simp at hne
     |cons b ns=>
      simp only[f_];have hh:home g.length []=λi=>g.length+i:=by
       funext k
       simp[home,get?]
      rw[hh];exact⟨rfl,λ_=>trivial,rfl⟩
    |cons i is=>
     rw[hv]at hreach hchk';simp only[bf,f_,BV,hreach];refine⟨hchk',?_⟩;rw[hbl];refine Sat.mono hS λout Y ⟨k1,k2⟩=>?_;subst k1 k2;rw[hrow,sD,<-hbl,hback];exact⟨rfl,Au _ _ λi l s=>(hkl i l).1 s,rfl⟩
   simp only[bq,bf,hvs,hown,ε];unfold px;split
   .exact hcx
   .refine .inr (C9 ?_);rw[hos];exact hcx
 .skip
  obtain⟨f,args,r0,ns,nf,hgi,hof,⟨hown,hne⟩,hS,hl,hns,hr0,hnf,hnd,rfl⟩:=U;have A:o.guard=none:=by
   cases A:o.guard with
   |none=>rfl
   |some p=>rw[A]at D;have⟨d,_,D⟩:=D;rw[hgi]at D;cases D
  rw[ζ (by simp[Region.wanted,A])];rw[hof]at M;generalize hvs:(args.map λx=>cH (gv t x))=vs at *;simp only at q C;have J:vs.map (rY g)=vs.map (rY ac):=aZ λx M=>Mv λi l=>by
   rw[get?_eq,get?_eq];exact q i (.inl (aO.2 ⟨x,M,l⟩))
  rw[<-J]at hS;refine ou ow F (K:=λv' t' Y=>v'=gS (λk=>g.length+k) r0/\t'=t/\Y=g++ns) (KP:=λ_ _ _=>False) (λv' w' G' ρ' t' Y z W hv ⟨e1,e2,e3⟩=>?_) (λv' w' G' ρ' t' Y u _ _ hf=>hf.elim) M ?_
  .subst e1 e2 e3;have⟨ρ2,Z,X⟩:=W_ F W hlo hE hl hnd (λi l=>by
    have hw:i∈kJ (⟨gS (λk=>(get? nf k).getD 0) r0,nf.zip ns,vs.flatMap eT,[]⟩:R):=by
     have e:kJ (⟨gS (λk=>(get? nf k).getD 0) r0,nf.zip ns,vs.flatMap eT,[]⟩:R)=nf:=dr (by omega);rw[e];exact l
    rw[q i (.inr hw),<-get?_eq];exact(hnf i l).2) (λi l=>(hnf i l).1) (by rw[F.ok.hr.len])
   have e4:ns.map (eR λk=>if k<g.length then k else(get? nf (k-g.length)).getD 0)=ns:=fC λb J=>CB λj hj=>by
    have h1:=aS.1 hns b J;cases b<;>first|(cases h1;done)|cases hj
   rw[e4]at Z;have O:=X _ _ hv;rw[se]at O;have e5:(λi=>if g.length+i<g.length then g.length+i else(get? nf (g.length+i-g.length)).getD 0)=λk=>(get? nf k).getD 0:=by
    funext k
    rw[η (by omega),Nat.add_sub_cancel_left]
   rw[e5]at O;rw[hd]at C;exact C _ _ _ _ (Z.fk o.dst hlt O)
  .simp only[bq,bf,hvs,hown,ε];unfold px;split
   .exact absurd ‹_› hne
   .refine .inr (Ln ⟨r0,ns,hS,by rw[hns,hr0];rfl,?_⟩);rw[bf];exact⟨rfl,rfl,rfl⟩
 .skip
  obtain⟨f,args,r0,ns,nf,ids,hgi,hof,hids,⟨hnd0,hrw⟩,hS,hl,hge,hnf,hnd,rfl⟩:=U;have A:o.guard=none:=by
   cases A:o.guard with
   |none=>rfl
   |some p=>rw[A]at D;have⟨d,_,D⟩:=D;rw[hgi]at D;cases D
  rw[ζ (by simp[Region.wanted,A])];rw[hof]at M;simp only at q C;have⟨c,ho,hcf,hf5,ha⟩:=Ja (M.resolve_right λe=>by cases e);have⟨g1,g2⟩:=oG F _ _ _ ha;have hrun:eo P f=true->(execOp a.eval o).run P w=.ok (.enter f (c.args.map a.eval)) w:=λhok=>by
   have:=gC (P:=P) (w:=w) (as:=c.args.map a.eval) hok;simp[execOp,ho,resolve,hcf,Act.eval,Deferred.ofValue,invoke,this]
  have hU:∀(i:Nat)(x:V),(args.map λx=>cH (gv t x))[i]?=some x->au G w ρ ((c.args.map a.eval).getD i undef) x:=by
   intro i x M;rw[aB]at M;cases hc:args[i]? with
   |none=>rw[hc]at M;cases M
   |some y=>
    rw[hc]at M;cases M;have:=g2 i y hc;rw[a8,aB,bt]at this;rw[aF,gQ];exact qd this
  generalize hvs:(args.map λx=>cH (gv t x))=vs at *;have hsz:(c.args.map a.eval).size=vs.length:=by rw[<-hvs];simp[g1]
  have L:∀i∈ids,get? g i=get? ac i:=λi l=>by rw[get?_eq,get?_eq];exact q i (.inl l)
  have hbl:(ids.map λi=>eR (pos ids) ((get? g i).getD .no))=ids.map λi=>eR (pos ids) ((get? ac i).getD .no):=aZ λi l=>by rw[L i l]
  rw[<-hbl]at hS;have hrw':∀i∈ids,∃z rs,g[i]?=some (.rows z rs):=λi l=>by
   have⟨z,rs,e⟩:=hrw i l;exact⟨z,rs,by rw[<-get?_eq,L i l];exact e⟩
  refine D8 F hf5 hrun hsz hU (λx M j hj=>by rw[<-hids];exact aO.2 ⟨x,M,hj⟩) hnd0 hrw' hS (λb J k S=>hge k (fW _ (aO.2 ⟨b,J,S⟩))) (λk S=>hge k (fI _ S)) λv w' G' ρ' W hv=>?_;have hdis:∀i∈nf,i∉ids:=λi l h=>by
   have⟨z,rs,e⟩:=hrw i h;rw[(hnf i l).2]at e;cases e
  have hwid:∀i∈nf,i∈kJ (⟨gS (gt ids.length nf) r0,(ids.map λi=>(i,B.no))++nf.zip (ns.map (eR (gt ids.length nf))),ids,[]⟩:R):=λi l=>by
   have e:kJ (⟨gS (gt ids.length nf) r0,(ids.map λi=>(i,B.no))++nf.zip (ns.map (eR (gt ids.length nf))),ids,[]⟩:R)=ids++nf:=AD hl;rw[e];exact fI _ l
  have hgl:=lR ids g;have hht:∀s,∀i∈eT (gs t s),i<(gone ids g).length:=λs i l=>by
   have:=(F.tm s).lt i l;rw[hgl];rwa[F.ok.hr.len]at this
  have hhh:∀(i:Nat)(b:B),(gone ids g)[i]?=some b->∀j∈eZ b,j<(gone ids g).length:=λi b J j hj=>by
   rw[nG]at J;split at J
   .rw[aG]at J;obtain⟨_,_,rfl⟩:=J;cases hj
   .have hil:i<ρ.length:=by rw[F.ok.hr.len];exact(aC.1 J).1
    have:=(F.ok.hr.rep i _ b (aA hil) J).lt j hj;rw[hgl];rwa[F.ok.hr.len]at this
  have⟨ρ2,Z,X⟩:=W.move (nf:=nf) (f:=λk=>if k<g.length then k else(get? nf (k-g.length)).getD 0) (by simpa using hl) hnd (λi l=>by
    rw[nG,η (hdis i l),q i (.inr (hwid i l)),<-get?_eq];exact(hnf i l).2) (λi l=>aV hlo (hnf i l).1) (by rw[hgl,hE];exact F.ok.hl) (by rw[hgl];exact F.ok.hl) (λk S=>by rw[hgl]at S;simp only[S,if_true]) (λk i S=>by
     rw[hgl];simp only[show ¬(g.length+k<g.length)by omega,ψ,get?_eq];rw[show g.length+k-g.length=k by omega,S,bo]) hht hhh
  have cg:∀k,ids.length<=k->(if g.length+k-ids.length<g.length then g.length+k-ids.length else(get? nf (g.length+k-ids.length-g.length)).getD 0)=gt ids.length nf k:=λk S=>by
   rw[η (by omega),gt];congr 2;omega
  have e4:(ns.map (eR λk=>g.length+k-ids.length)).map (eR λk=>if k<g.length then k else(get? nf (k-g.length)).getD 0)=ns.map (eR (gt ids.length nf)):=by
   rw[bn];refine aZ λb J=>?_;simp only[Function.comp,sd];exact Pp λk S=>cg k (hge k (fW _ (aO.2 ⟨b,J,S⟩)))
  rw[e4]at Z;have O:=X _ _ hv;rw[se,Pq λk S=>cg k (hge k (fI _ S))]at O;have e6:wr g (⟨gS (gt ids.length nf) r0,(ids.map λi=>(i,B.no))++nf.zip (ns.map (eR (gt ids.length nf))),ids,[]⟩:R)=(nf.zip (ns.map (eR (gt ids.length nf)))).foldl (λa w=>a.set w.1 w.2) (gone ids g):=by
   simp only[wr,List.foldl_append];rw[vd]
  rw[e6,hd]at C;exact C _ _ _ _ (Z.fk o.dst hlt O)
 .skip
  obtain⟨d,id,z,zero,m,parts,ds,rfl,h1,h2,h3,h4,rfl⟩:=U;simp only at hd M;have A:o.guard=none:=by
   cases A:o.guard with
   |none=>rfl
   |some p=>rw[A]at D;have⟨d,_,D⟩:=D;cases D
  rw[ζ (by simp[Region.wanted,A])];simp only at q C;refine ou ow F (K:=λv' t' Y=>v'=.os g.length/\t'=t/\Y=g++[.rows z (chunk z m ds)]) (KP:=λ_ _ _=>False) (λv' w' G' ρ' t' Y u W hv ⟨e1,e2,e3⟩=>?_) (λv' w' G' ρ' t' Y u _ _ hf=>hf.elim) M ?_
  .subst e1 e2 e3;have⟨ρ2,Z,X⟩:=W_ F W (nf:=[id]) hlo hE rfl (by simp) (λi l=>by
    rw[aL.1 l,q id (.inr (by simp[kJ])),<-get?_eq];exact h1) (λi l=>by rw[aL.1 l];exact h2) (by rw[F.ok.hr.len])
   have O:=X _ _ hv;have e5:gS (λk=>if k<g.length then k else(get? [id] (k-g.length)).getD 0) (.os g.length)=.os id:=by
    simp[gS,pK,sk,wW,get?]
   rw[e5]at O;have h6:=Z.fk o.dst hlt O;rw[hd]at C;exact C _ _ _ _ h6
  .simp only[bq,bf];refine⟨h3,h4 _ _ _ ?_⟩;refine xT ?_;rw[cZ];exact⟨rfl,rfl,rfl⟩
section
variable{ops:Array Oper}{is:List I}{bs:List (List Nat)}{m lo:Nat}{rs:List R}{vs:List V}{t:T}
theorem uT(D:Rj ow P n ops is bs m lo rs t h){L e:Nat->Prop}{t1 t2:T}(F:agree is vs L t t1)(G:agree is vs e t t2)(J:∀k,L k->k<m)(g:∀k,e k->k<m)(s:Nat)
  (M:∀(k:Nat)(i:I),L k->is[k]?=some i->i.d=some s->e k) (O:∀(k:Nat)(i:I),e k->is[k]?=some i->i.d=some s->L k):gs t1 s=gs t2 s:=by
 have wr:∀(k x:Nat)(i y:I),k<m->x<m->is[k]?=some i->is[x]?=some y->i.d=some s->y.d=some s->k=x:=by
  intro k x i y S j U l hd p
  by_cases z:k=x
  .exact z
  .have q:k<ops.size:=by have:=D.ml;omega
   have u:x<ops.size:=by have:=D.ml;omega
   have⟨b,W,_⟩:=D.cl k _ (aN q);have⟨X,A,_⟩:=D.cl x _ (aN u);exact absurd p ((D.dj k x i y b X S j z U l W A).1 s hd)
 rcases F s with⟨k,i,a1,v,a3,a4⟩|⟨a1,v⟩<;>rcases G s with⟨x,y,f,c,B,C⟩|⟨f,c⟩
 .have:=wr k x i y (J k a1) (g x f) v c a3 B;subst this;rw[a4]at C;exact aq C
 .exact absurd a3 (f k i (M k i a1 v a3) v)
 .exact absurd B (a1 x y (O x y f c B) c)
 .rw[v,c]
theorem Bj{r:R}(x:(r.ws.map (·.1)).Nodup){w w':Nat×B}(y:w∈r.ws)(z:w'∈r.ws)(he:w.1=w'.1):w=w':=by
 revert x y z
 generalize r.ws=l
 induction l with
 |nil=>intro _ y;cases y
 |cons p l b=>
  intro x y z;simp only[cG,cm]at x;rcases af.1 y with u|k1<;>rcases af.1 z with v|k2
  .rw[u,v]
  .exact absurd (bJ.2 ⟨w',k2,by rw[<-he,u]⟩) x.1
  .exact absurd (bJ.2 ⟨w,k1,by rw[he,v]⟩) x.1
  .exact b x.2 k1 k2
theorem Rj.nd(D:Rj ow P n ops is bs m lo rs t h)(k:Nat)(r:R)(y:rs[k]?=some r):(r.ws.map (·.1)).Nodup:=by
 have x:k<m:=by rw[<-D.rl];exact(aC.1 y).1
 have⟨r2,b,u,z,v,_⟩:=D.vq k _ x (aA (by rw[D.il];have:=D.ml;omega));rw[y]at z;cases z;exact(ze.ws ow v).1
variable(E K n is bs m rs t ops h) in
def Rf(listed:Array Bool)(a:Act)(w:World):Prop:=
  listed.size=ops.size/\(∀(j:Nat)(b:List Nat),listed.getD j false=true->bs[j]?=some b->∀k∈b,listed.getD k false=true) /\
  (((∀ j, listed.getD j false = true → j < m) ∧ ∃ G ρ tL hL, ak E n G ρ tL hL a w ∧ agree is (rs.map (·.v)) (fun j => listed.getD j false = true) t tL ∧ BH rs (fun j => listed.getD j false = true) h hL) ∨
   ∃k,m<=k/\k<=ops.size/\(∀j,listed.getD j false=true<->j<k)/\∃G ρ t h,ak E n G ρ t h a w/\rx (Sat P) ow (is.drop k) t h K)
theorem gB{o:Oper}{k:Nat}:k∈pD o<->∃e∈o.after,Region.binds .any e=true/\e.on=k:=by
 simp only[pD,bJ,dh,fY];constructor
 .rintro ⟨e,⟨h1,h2⟩,h3⟩;exact⟨e,h1,h2,h3⟩
 .rintro ⟨e,h1,h2,h3⟩;exact⟨e,⟨h1,h2⟩,h3⟩
theorem iw{l:Array Bool}{j:Nat}(x:l.getD j false=true):j<l.size:=by
 rcases de j l.size with h|h
 .exact h
 .simp[kG h]at x
theorem ML{l:Array Bool}{j:Nat}(y:j<l.size)(x:¬l.getD j false=true):l.getD j true=false:=by
 simp[y]at x⊢;exact x
theorem Jt(D:Rj ow P n ops is bs m lo rs t h){listed:Array Bool}(hs:listed.size=ops.size)(hr:Region.ready .any ops listed=[]):∀j,j<ops.size->listed.getD j false=true:=by
 intro j
 induction j using Nat.strongRecOn with
 |_ j u=>
  intro z
  by_cases hl:listed.getD j false=true
  .exact hl
  .exfalso;have:j∈Region.ready .any ops listed:=by
    rw[mem_ready];refine⟨ML (by omega) hl,ops[j],aN z,λe he v=>?_⟩;have⟨b,x,y,_⟩:=D.cl j _ (aN z);have:=D.lt j b x e.on (y _ (gB.2 ⟨e,he,v,rfl⟩));exact u _ this (by omega)
   rw[hr]at this;cases this
theorem count_set{l:Array Bool}{j:Nat}(x:l.getD j true=false):(l.setIfInBounds j true).toList.count false<l.toList.count false:=by
 have hl:j<l.size:=by
  rcases de j l.size with h|h
  .exact h
  .simp[kG h]at x
 have y:l[j]=false:=by simpa[hl]using x
 rw[Array.toList_setIfInBounds,List.count_set (by simpa using hl)];have z:false∈l.toList:=by rw[fY,<-y];exact Array.getElem_mem hl
 have:=List.count_pos_iff.2 z;have e:((true:Bool)==false)=false:=rfl;simp only[Array.getElem_toList,y,BEq.rfl,if_true,e,cj,ψ];omega
theorem E7(D:Rj ow P n ops is bs m lo rs t h){L c:Nat->Prop}{d f:H}(g1:BH rs L h d)(l:BH rs c h f)(g:∀k,k<m->L k)(u:∀k,k<m->c k):d=f:=by
 refine cR λi=>?_;have lt:∀(k:Nat)(r:R),rs[k]?=some r->k<m:=λk r p=>by
  rw[<-D.rl];exact(aC.1 p).1
 rcases g1.2 i with⟨k,r,w,a1,x,a3,a4,a5,q⟩|⟨a1,x⟩<;>rcases l.2 i with⟨z,r',w',j,y,v,b,s,A⟩|⟨j,y⟩
 .rcases eB k z with e|e|e
  .exact absurd b (q z r' w' (g z (lt z r' y)) e y v)
  .subst e;rw[x]at y;cases y;rw[a5,s,Bj (D.nd ow k r x) a3 v (a4.trans b.symm)]
  .exact absurd a4 (A k r w (u k (lt k r x)) e x a3)
 .exact absurd a4 (j k r w (u k (lt k r x)) x a3)
 .exact absurd b (a1 z r' w' (g z (lt z r' y)) y v)
 .rw[x,y]
theorem JR (hlo:E.ρ.length≤lo) (hE:E.ρ.length=E.h.length) (D:Rj ow P n ops is bs m lo rs t h) {tR:T} {hR:H} (hK:rx (Sat P) ow (is.drop m) tR hR K) (hA:agree is (rs.map (·.v)) (· < m) t tR) (hH:BH rs (· < m) h hR):∀(fuel:Nat) (listed:Array Bool) (a:Act) (w:World),
    listed.toList.count false<=fuel->Rf (P:=P) E n h K ow ops is bs m rs t listed a w->wpAny P .any ops (QK E n K) fuel listed a w:=by
  have turn:∀(listed:Array Bool)(a:Act)(w:World),Rf (P:=P) E n h K ow ops is bs m rs t listed a w->(∀j,j<m->listed.getD j false=true) ->
      ∃k,m<=k/\k<=ops.size/\(∀j,listed.getD j false=true<->j<k)/\∃G ρ t h,ak E n G ρ t h a w/\rx (Sat P) ow (is.drop k) t h K:=by
    intro listed a w ⟨h1,h2,h3⟩ hall
    rcases h3 with⟨g1,G,ρ,tL,hL,hC,g2,g3⟩|h3
    · have:=E7 ow D g3 hH hall (λ_ h=>h)
      subst this
      refine⟨m,aM _,D.ml,λj=>⟨g1 j,hall j⟩,G,ρ,tR,hL,hC.congr λs=>?_,hK⟩
      exact uT ow D hA g2 (λ_ h=>h) g1 s (λk _ hk _ _=>hall k hk) (λk _ hk _ _=>g1 k hk)
    · exact h3
  have done:∀(listed:Array Bool)(a:Act)(w:World),Rf (P:=P) E n h K ow ops is bs m rs t listed a w->Region.ready .any ops listed=[]->QK E n K .normal a w:=by
    intro listed a w hI hr
    have hall:=Jt ow D hI.1 hr
    have⟨k,k1,k2,k3,G,ρ,t',h',hC,hk⟩:=turn listed a w hI (λj hj=>hall j (by have:=D.ml;omega))
    have:k=ops.size:=by
      rcases de k ops.size with h|h
      · have:=(k3 k).1 (hall k h);omega
      · omega
    subst this
    rw[et (by rw[D.il];omega)]at hk
    exact⟨G,ρ,t',h',hC,hk⟩
  intro fuel
  induction fuel with
  |zero=>
    intro listed a w hc hI
    have hall:∀j,j<ops.size->listed.getD j false=true:=λj hj=>by
      have hj':j<listed.size:=by rw[hI.1];exact hj
      have h0:listed.toList.count false=0:=by omega
      rw[List.count_eq_zero]at h0
      cases hv:listed[j] with
      |true=>simp[hj',hv]
      |false=>exact absurd (by rw[fY,<-hv];exact Array.getElem_mem hj') h0
    have hr:Region.ready .any ops listed=[]:=by
      rw[ko]
      intro j hj
      have⟨h1,o,h2,_⟩:=mem_ready.1 hj
      have h3:=hall j (aQ.1 h2).1
      have hj':=iw h3
      simp[hj']at h1 h3
      rw[h3]at h1
      cases h1
    exact⟨hr,done listed a w hI hr⟩
  |succ fuel ih=>
    intro listed a w hc hI
    refine⟨done listed a w hI,λj hj=>?_⟩
    have⟨hun,o,ho,hdep⟩:=mem_ready.1 hj
    have hjs:j<ops.size:=(aQ.1 ho).1
    have hjl:j<listed.size:=by rw[hI.1];exact hjs
    have hnl:¬listed.getD j false=true:=by simpa[hjl]using hun
    have⟨b,hb,hb1,hb2⟩:=D.cl j o ho
    have⟨i,hi,hci⟩:=D.ci j o ho
    have hready:∀k∈b,listed.getD k false=true:=λk hk=>by
      rcases hb2 k hk with h1|⟨k',h1,b',h2,h3⟩
      · obtain⟨e,e1,e2,rfl⟩:=gB.1 h1
        exact hdep e e1 e2
      · obtain⟨e,e1,e2,rfl⟩:=gB.1 h1
        exact hI.2.1 _ b' (hdep e e1 e2) h2 k h3
    have hset:∀k,(listed.setIfInBounds j true).getD k false=true<->k=j\/listed.getD k false=true:=λk=>by
      by_cases hkj:k=j
      · subst hkj;simp[hjl]
      · rw[getD_set_ne false (k_ hkj)];simp[hkj]
    have jb:∀(j':Nat)(b:List Nat),(listed.setIfInBounds j true).getD j' false=true->bs[j']?=some b->∀k∈b,(listed.setIfInBounds j true).getD k false=true:=by
      intro j' b' h1 h2 k hk
      rw[hset]at h1⊢
      rcases h1 with rfl|h1
      · rw[hb]at h2;cases h2;exact .inr (hready k hk)
      · exact .inr (hI.2.1 j' b' h1 h2 k hk)
    have hcnt:(listed.setIfInBounds j true).toList.count false<=fuel:=by have:=count_set hun;omega
    have hsz:(listed.setIfInBounds j true).size=ops.size:=by simpa using hI.1
    have go:(if Region.wanted o (yielded ops a.tmps)then o.wp P a w (wpAny P .any ops (QK E n K) fuel (listed.setIfInBounds j true)) (QK E n K)else wpAny P .any ops (QK E n K) fuel (listed.setIfInBounds j true) (a.put o.dst undef) w) ->
        wpOp P ops (QK E n K) j (wpAny P .any ops (QK E n K) fuel (listed.setIfInBounds j true)) a w:=by
      intro hg
      unfold wpOp
      simp only[ho]
      split
      · rename_i hw;rw[ζ hw]at hg;exact .inl hg
      · rename_i hw;rw[η hw]at hg;exact hg
    refine go ?_
    by_cases hjm:j<m/\∀j,listed.getD j false=true->j<m
    · rcases hI.2.2 with⟨g1,G,ρ,tL,hL,hC,g2,g3⟩|⟨k,k1,k2,k3,_⟩
      · have⟨r,tj,acj,q1,q2,q3,q4⟩:=D.vq j i hjm.1 hi
        have hq:ze ow P lo i tL acj r:=ze.congr ow q2 λs hs=>by
          refine uT ow D g2 q3 g1 (λk hk=>by omega) s (λk y hk hy hd=>?_) (λk y hk hy hd=>?_)
          · have hkm:=g1 k hk
            have hks:k<ops.size:=by have:=D.ml;omega
            have⟨bk,hbk,_⟩:=D.cl k _ (aN hks)
            have hne:j≠k:=λe=>hnl (e ▸ hk)
            rcases(D.dj j k i y b bk hjm.1 hkm hne hi hy hb hbk).2 s hd hs with h1|h1
            · exact D.lt j b hb k h1
            · exact absurd (hI.2.1 k bk hk hbk j h1) hnl
          · have hkm:k<m:=by omega
            have hks:k<ops.size:=by have:=D.ml;omega
            have⟨bk,hbk,_⟩:=D.cl k _ (aN hks)
            rcases(D.dj j k i y b bk hjm.1 hkm (by omega) hi hy hb hbk).2 s hd hs with h1|h1
            · exact hready k h1
            · have:=D.lt k bk hbk j h1;omega
        have hnd:=D.nd ow j r q1
        have wrs:∀(k:Nat)(r':R),rs[k]?=some r'->(Mn r' r->k<j->listed.getD k false=true)/\(Mn r r'->j<k->¬listed.getD k false=true):=by
          intro k r' hk
          have hkm:k<m:=by rw[<-D.rl];exact(aC.1 hk).1
          have hks:k<ops.size:=by have:=D.ml;omega
          have⟨bk,hbk,_⟩:=D.cl k _ (aN hks)
          exact⟨λhc hlt=>hready k (D.cf k j r' r b hk q1 hb hlt hc),λhc hlt hlk=>hnl (hI.2.1 k bk hlk hbk j (D.cf j k r r' bk q1 hk hbk hlt hc))⟩
        have hfoot:∀id,(id∈r.rd\/id∈kJ r)->hL[id]?=acj[id]?:=by
          intro id hid
          have c1:∀(k:Nat)(r':R)(w:Nat×B),rs[k]?=some r'->w∈r'.ws->w.1=id->Mn r' r:=λk r' w _ hw he=>.inl ⟨id,bJ.2 ⟨w,hw,he⟩,hid⟩
          have c2:∀(k:Nat)(r':R)(w:Nat×B),rs[k]?=some r'->w∈r'.ws->w.1=id->Mn r r':=λk r' w _ hw he=>by
            have hm:id∈kJ r':=bJ.2 ⟨w,hw,he⟩
            rcases hid with hid|hid
            · exact .inr (.inl ⟨id,hid,hm⟩)
            · exact .inl ⟨id,hid,.inr hm⟩
          have below:∀k,listed.getD k false=true->∀(r':R)(w:Nat×B),rs[k]?=some r'->w∈r'.ws->w.1=id->k<j:=by
            intro k hk r' w hr' hw he
            rcases eB k j with h1|h1|h1
            · exact h1
            · subst h1;exact absurd hk hnl
            · exact absurd hk ((wrs k r' hr').2 (c2 k r' w hr' hw he) h1)
          rcases g3.2 id with⟨k,r',w,a1,a2,a3,a4,a5,a6⟩|⟨a1,a2⟩<;>rcases q4.2 id with⟨k',r2,w',b1,b2,b3,b4,b5,b6⟩|⟨b1,b2⟩
          · have hkj:=below k a1 r' w a2 a3 a4
            have hk':=(wrs k' r2 b2).1 (c1 k' r2 w' b2 b3 b4) b1
            rcases eB k k' with e|e|e
            · exact absurd b4 (a6 k' r2 w' hk' e b2 b3)
            · subst e
              rw[a2]at b2;cases b2
              rw[a5,b5,Bj (D.nd ow k r' a2) a3 b3 (a4.trans b4.symm)]
            · exact absurd a4 (b6 k r' w hkj e a2 a3)
          · exact absurd a4 (b1 k r' w (below k a1 r' w a2 a3 a4) a2 a3)
          · exact absurd b4 (a1 k' r2 w' ((wrs k' r2 b2).1 (c1 k' r2 w' b2 b3 b4) b1) b2 b3)
          · rw[a2,b2]
        have hkl:∀id∈r.kl,(∀s,id∉eT (gs tL s))/\∀(u:Nat)(x:B),hL[u]?=some x->u∉r.rd->id∉eZ x:=by
          intro id hid
          have⟨k1,k2,k3⟩:=D.kc j r q1 id hid
          refine⟨λs=>?_,λu x hx hu=>?_⟩
          · rcases g2 s with⟨k,y,a1,a2,a3,a4⟩|⟨_,a2⟩
            · rw[aB,aG]at a4
              have⟨r',hr',he⟩:=a4
              rw[<-he]
              rcases eB k j with h1|h1|h1
              · exact(k3 k r' y h1 hr' a2).1 s a3
              · subst h1;exact absurd a1 hnl
              · exact λhm=>(wrs k r' hr').2 (.inr (.inr ⟨id,hid,fW _ hm⟩)) h1 a1
            · rw[a2];exact k1 s
          · rcases g3.2 u with⟨k,r',w,a1,a2,a3,a4,a5,_⟩|⟨_,a2⟩
            · rw[hx]at a5
              cases a5
              have hyk:=aA (show k<is.length by rw[D.il];have:=D.ml;have:=g1 k a1;omega)
              rcases eB k j with h1|h1|h1
              · exact(k3 k r' _ h1 a2 hyk).2 w a3 (by rw[a4];exact hu)
              · subst h1;exact absurd a1 hnl
              · exact λhm=>(wrs k r' a2).2 (.inr (.inr ⟨id,hid,fI _ (aO.2 ⟨w,a3,hm⟩)⟩)) h1 a1
            · rw[a2]at hx
              exact k2 u x hx hu
        have hlen:hL.length=acj.length:=by rw[g3.1,q4.1]
        have hwl:∀w∈r.ws,w.1<hL.length:=λw hw=>by rw[hlen];exact(ze.ws ow hq).2 w hw
        have⟨w1,w2,w3⟩:=zp hnd hwl
        refine Sf ow hC hlo hE hci hq hlen hfoot hkl λa' w' G' ρ' hC'=>ih _ _ _ hcnt ⟨hsz,jb,.inl ⟨λk hk=>?_,G',ρ',_,_,hC',λs=>?_,by rw[w1,g3.1],λu=>?_⟩⟩
        · rcases(hset k).1 hk with rfl|hk
          · exact hjm.1
          · exact g1 k hk
        · rw [nv]
          by_cases hd:i.d=some s
          · rw[ζ hd]
            exact .inl ⟨j,i,(hset j).2 (.inl rfl),hi,hd,by rw[aB,q1];rfl⟩
          · rw[η hd]
            rcases g2 s with⟨k,y,a1,a2,a3,a4⟩|⟨a1,a2⟩
            · exact .inl ⟨k,y,(hset k).2 (.inr a1),a2,a3,a4⟩
            · refine .inr ⟨λk y hk hy=>?_,a2⟩
              rcases(hset k).1 hk with rfl|hk
              · rw[hi]at hy;cases hy;exact hd
              · exact a1 k y hk hy
        · by_cases hu:∃w∈r.ws,w.1=u
          · obtain⟨w0,hw0,rfl⟩:=hu
            refine .inl ⟨j,r,w0,(hset j).2 (.inl rfl),q1,hw0,rfl,w2 w0 hw0,λk' r2 w2' hk' hlt hr2 hw2 he=>?_⟩
            rcases(hset k').1 hk' with rfl|hk'
            · omega
            · exact(wrs k' r2 hr2).2 (.inl ⟨w0.1,bJ.2 ⟨w0,hw0,rfl⟩,.inr (bJ.2 ⟨w2',hw2,he⟩)⟩) hlt hk'
          · have hu:∀w∈r.ws,w.1≠u:=λw hw e=>hu ⟨w,hw,e⟩
            rw[w3 u hu]
            rcases g3.2 u with⟨k,r',w,a1,a2,a3,a4,a5,a6⟩|⟨a1,a2⟩
            · refine .inl ⟨k,r',w,(hset k).2 (.inr a1),a2,a3,a4,a5,λk' r2 w2' hk' hlt hr2 hw2=>?_⟩
              rcases(hset k').1 hk' with rfl|hk'
              · rw[q1]at hr2;cases hr2;exact hu w2' hw2
              · exact a6 k' r2 w2' hk' hlt hr2 hw2
            · refine .inr ⟨λk r' w hk hr' hw=>?_,a2⟩
              rcases(hset k).1 hk with rfl|hk
              · rw[q1]at hr';cases hr';exact hu w hw
              · exact a1 k r' w hk hr' hw
      · exact absurd ((k3 j).2 (by omega)) hnl
    · have hall:∀i,i<m->listed.getD i false=true:=by
        rcases hI.2.2 with⟨g1,_⟩|⟨k,k1,k2,k3,_⟩
        · have hmj:m<=j:=by
            rcases de j m with h|h
            · exact absurd ⟨h,g1⟩ hjm
            · exact h
          exact λi hi=>hready i (D.fu j b hmj hb i (by omega))
        · exact λi hi=>(k3 i).2 (by omega)
      have⟨k,k1,k2,k3,G,ρ,t',h',hC,hk⟩:=turn listed a w hI hall
      have hjk:j=k:=by
        have h1:k<=j:=by
          rcases de j k with h|h
          · exact absurd ((k3 j).2 h) hnl
          · exact h
        rcases de k j with h2|h2
        · have:=(k3 k).1 (hready k (D.fu j b (by omega) hb k h2));omega
        · omega
      subst hjk
      have hdrop:is.drop j=i::is.drop (j+1):=by
        have hlt:j<is.length:=by rw[D.il];exact hjs
        rw[bO hlt]
        rw[aA hlt]at hi
        rw[aq hi]
      rw[hdrop]at hk
      exact rp ow hC hci hk (λa' w' G' ρ' t' h' hC' hk'=>ih _ _ _ hcnt ⟨hsz,jb,.inr ⟨j+1,by omega,by omega,λk=>by rw[hset,k3];omega,G',ρ',t',h',hC',hk'⟩⟩) PQ.qk
end
end
section
variable{P:Program}{E:gL}{n:Nat}{K:Ex->T->H->Prop}{Q:Exit->Act->World->Prop}{ops:Array Oper}{is:List I}{bs:List (List Nat)}{m:Nat}(ow:Nat->Bool)
theorem yA{G:Nat->Prop}{ρ:List Value}{t:T}{h:H}{a:Act}{w:World}{o:Oper}{bV:Act->World->Prop}(c:ak E n G ρ t h a w){i:I}(F:oY P n ops o=some i){B:T->H->(Ex->T->H->Prop)->Prop}(y:Bz (Sat P) ow i B t h K)
  (l:∀(a':Act)(w':World)(G':Nat->Prop)(ρ':List Value)(t':T)(q:H),ak E n G' ρ' t' q a' w'->B t' q K->bV a' w') (J:PQ E n K Q) :
  if Region.wanted o (yielded ops a.tmps)then o.wp P a w bV Q else bV (a.put o.dst undef) w:=by
 have⟨L,hd,s,g⟩:=nO F;have run:∀{t:T},ak E n G ρ t h a w->bq (Sat P) ow i.o t h (λv t h=>ub i.d v t λt=>B t h K) (λv t h=>K (.fg v) t h)->o.wp P a w bV Q:=by
  intro t c y;refine ou ow c (λv' w' G' ρ' t' q v k D e=>?_) (λv' w' G' ρ' t' q v k D e=>J a w' G' ρ' t' q v v' k D e) L y;rw[fU,hd]at e;exact l _ _ _ _ _ _ (k.fk o.dst s D) e
 have z:∀{t:T},ak E n G ρ t h a w->(ub i.d .ud t λt=>B t h K)->bV (a.put o.dst undef) w:=by
  intro t c y;rw[fU,hd]at y;exact l _ _ _ _ _ _ (c.fk o.dst s A0) y
 cases u:o.guard with
 |none=>
  rw[u]at g;simp only at g;simp only[Bz,g]at y;rw[ζ (by simp[Region.wanted,u])];exact run c y
 |some p=>
  have⟨j,x⟩:=p;rw[u]at g;have⟨d,A,g⟩:=g;simp only[Bz,g]at y;split at y
  .rename_i b C;rw[mT c u A C];have f:=c.congr (xF C);cases b<;>cases x<;>simp only[sp,δ,ε]at y<;>simp only[BEq.rfl,if_true,cj,ψ,ξ,reduceCtorEq]
   .exact run f y
   .exact z f y
   .exact z f y
   .exact run f y
  .rename_i C;rw[qL c u A C];exact z c y
  .exact y.elim
theorem yY:∀{l r:List Nat},l.Nodup->(∀x∈l,x∈r)->l.length<=r.length
 |[],_,_,_=>ae _
 |x::l,r,v,h=>by
  have⟨b,c⟩:=cm.1 v;have z:=h x (by simp);have:=yY (l:=l) (r:=r.erase x) c λy u=>(List.mem_erase_of_ne (show y≠x from λe=>b (by rw[<-e];exact u))).2 (h y (cM _ u));rw[List.length_erase_of_mem z]at this;have:=List.length_pos_of_mem z;rw[aX];omega
structure U9(P:Program)(n:Nat)(ops:Array Oper)(is:List I)(bs:List (List Nat))(m:Nat):Prop where
  il:is.length=ops.size
  bl:bs.length=ops.size
  ml:m<=ops.size
  ci:∀(j:Nat)(o:Oper),ops[j]?=some o->∃i,is[j]?=some i/\oY P n ops o=some i
  cl:∀(j:Nat)(o:Oper),ops[j]?=some o->∃b,bs[j]?=some b/\(∀k∈pD o,k∈b)/\∀k∈b,k∈pD o\/∃k'∈pD o,∃b':List Nat,bs[k']?=some b'/\k∈b'
  lt:∀(j:Nat)(b:List Nat),bs[j]?=some b->∀k∈b,k<j
  fu:∀(j:Nat)(b:List Nat),m<=j->bs[j]?=some b->∀i,i<j->i∈b
theorem zC(D:U9 P n ops is bs m){listed:Array Bool}(hr:Region.ready .any ops listed=[])(hs:listed.size=ops.size):∀j,j<ops.size->listed.getD j false=true:=by
 intro j
 induction j using Nat.strongRecOn with
 |_ j z=>
  intro y
  by_cases hl:listed.getD j false=true
  .exact hl
  .exfalso;have:j∈Region.ready .any ops listed:=by
    rw[mem_ready];refine⟨?_,ops[j],aN y,λe he u=>?_⟩
    .have x:j<listed.size:=by omega
     simpa[x]using hl
    .have⟨b,v,c,_⟩:=D.cl j _ (aN y);have:=D.lt j b v e.on (c _ (gB.2 ⟨e,he,u,rfl⟩));exact z _ this (by omega)
   rw[hr]at this;cases this
def Rk(E:gL)(n:Nat)(K:Ex->T->H->Prop)(q:List (I×List Nat))(s:List I)(is:List I)(bs:List (List Nat))(m:Nat)(P:Program)(listed:Array Bool)(a:Act)(w:World):Prop:=
  (∀(j:Nat)(b:List Nat),listed.getD j false=true->bs[j]?=some b->∀k∈b,listed.getD k false=true) /\
  ((∃ (done : List Nat) (k : Nat) (G : Nat → Prop) (ρ : List Value) (t : T) (h : H), done.Nodup ∧ done.length + k = m ∧ (∀ j, listed.getD j false = true ↔ j ∈ done) ∧ (∀ j ∈ done, j < m) ∧ ak E n G ρ t h a w ∧ U5 (Sat P) ow q s k done t h K) ∨
   ∃(k:Nat)(G:Nat->Prop)(ρ:List Value)(t:T)(h:H),m<=k/\(∀j,listed.getD j false=true<->j<k)/\ak E n G ρ t h a w/\rx (Sat P) ow (is.drop k) t h K)
theorem R8(D:U9 P n ops is bs m){q:List (I×List Nat)}(hq:q=(is.zip bs).take m):∀(y:Nat)(listed:Array Bool)(a:Act)(w:World),listed.size=ops.size->listed.toList.count false<=y ->
  Rk ow E n K q (is.drop m) is bs m P listed a w->wpAny P .any ops (QK E n K) y listed a w:=by
 have hil:=D.il;have hbl:=D.bl;have hml:=D.ml;have hqg:∀(j:Nat)(x:I)(b:List Nat),j<m->is[j]?=some x->bs[j]?=some b->q[j]?=some (x,b):=λj x b c d W=>by
  rw[hq,ao,ζ c,List.getElem?_zip_eq_some];exact⟨d,W⟩
 have hql:q.length=m:=by rw[hq];simp;omega
 have s:∀(listed:Array Bool)(a:Act)(w:World),Rk ow E n K q (is.drop m) is bs m P listed a w->(∀j,j<m->listed.getD j false=true) ->
   ∃(k:Nat)(G:Nat->Prop)(ρ:List Value)(t:T)(h:H),m<=k/\(∀j,listed.getD j false=true<->j<k)/\ak E n G ρ t h a w/\rx (Sat P) ow (is.drop k) t h K:=by
  intro listed a w ⟨_,l⟩ z;rcases l with⟨done,k,G,ρ,t,h,d1,d2,X,d4,C,v⟩|l
  .have Z:k=0:=by
    have u:(List.range m).length<=done.length:=yY qF λj c=>(X j).1 (z j (cn.1 c));rw[kD]at u;omega
   subst Z;exact⟨m,G,ρ,t,h,aM _,λj=>⟨λc=>d4 j ((X j).1 c),z j⟩,C,v⟩
  .exact l
 have fin:∀(listed:Array Bool)(a:Act)(w:World),listed.size=ops.size->Rk ow E n K q (is.drop m) is bs m P listed a w->Region.ready .any ops listed=[]->QK E n K .normal a w:=by
  intro listed a w hs hI hr;have z:=zC D hr hs;have⟨k,G,ρ,t',Y,k1,k3,C,v⟩:=s listed a w hI (λj c=>z j (by omega));have hkk:ops.size<=k:=by
   rcases de k ops.size with h|h
   .have:=(k3 k).1 (z k h);omega
   .exact h
  rw[et (by omega)]at v;exact⟨G,ρ,t',Y,C,v⟩
 intro y
 induction y with
 |zero=>
  intro listed a w hs hc hI;have z:∀j,j<ops.size->listed.getD j false=true:=λj c=>by
   have p:j<listed.size:=by omega
   have h0:listed.toList.count false=0:=by omega
   rw[List.count_eq_zero]at h0;cases hv:listed[j] with
   |true=>simp[p,hv]
   |false=>exact absurd (by rw[fY,<-hv];exact Array.getElem_mem p) h0
  have hr:Region.ready .any ops listed=[]:=by
   rw[ko];intro j c;have⟨u,o,g,_⟩:=mem_ready.1 c;have l:=z j (aQ.1 g).1;have p:=iw l;simp[p]at u l;rw[l]at u;cases u
  exact⟨hr,fin listed a w hs hI hr⟩
 |succ y ih=>
  intro listed a w hs hc hI;refine⟨fin listed a w hs hI,λj c=>?_⟩;have⟨hun,o,ho,A⟩:=mem_ready.1 c;have hjs:j<ops.size:=(aQ.1 ho).1;have hjl:j<listed.size:=by omega
  have F:¬listed.getD j false=true:=by simpa[hjl]using hun
  have⟨b,W,hb1,hb2⟩:=D.cl j o ho;have⟨i,hi,hci⟩:=D.ci j o ho;have hready:∀k∈b,listed.getD k false=true:=λk v=>by
   rcases hb2 k v with u|⟨k',u,b',g,l⟩
   .obtain⟨e,e1,e2,rfl⟩:=gB.1 u;exact A e e1 e2
   .obtain⟨e,e1,e2,rfl⟩:=gB.1 u;exact hI.1 _ b' (A e e1 e2) g k l
  have f:∀k,(listed.setIfInBounds j true).getD k false=true<->k=j\/listed.getD k false=true:=λk=>by
   by_cases J:k=j
   .subst J;simp[hjl]
   .rw[getD_set_ne false (k_ J)];simp[J]
  have jb:∀(j':Nat)(b:List Nat),(listed.setIfInBounds j true).getD j' false=true->bs[j']?=some b->∀k∈b,(listed.setIfInBounds j true).getD k false=true:=by
   intro j' b' u g k v;rw[f]at u⊢;rcases u with rfl|u
   .rw[W]at g;cases g;exact .inr (hready k v)
   .exact .inr (hI.1 j' b' u g k v)
  have B:(listed.setIfInBounds j true).toList.count false<=y:=by have:=count_set hun;omega
  have hsz:(listed.setIfInBounds j true).size=ops.size:=by simpa using hs
  have go:(if Region.wanted o (yielded ops a.tmps)then o.wp P a w (wpAny P .any ops (QK E n K) y (listed.setIfInBounds j true)) (QK E n K)else wpAny P .any ops (QK E n K) y (listed.setIfInBounds j true) (a.put o.dst undef) w) ->
    wpOp P ops (QK E n K) j (wpAny P .any ops (QK E n K) y (listed.setIfInBounds j true)) a w:=by
   intro hg;unfold wpOp;simp only[ho];split
   .rename_i hw;rw[ζ hw]at hg;exact .inl hg
   .rename_i hw;rw[η hw]at hg;exact hg
  refine go ?_
  by_cases L:j<m
  .rcases hI.2 with⟨done,k,G,ρ,t,h,d1,d2,X,d4,C,v⟩|⟨k,G,ρ,t,h,k1,k3,_⟩
   .have M:j∉done:=λhd=>F ((X j).2 hd);have Z:k≠0:=by
     intro e;have u:(j::done).length<=(List.range m).length:=yY (cm.2 ⟨M,d1⟩) λx d=>by
      rw[cn];rcases af.1 d with rfl|d
      .exact L
      .exact d4 x d
     rw[kD,aX]at u;omega
    obtain⟨k,rfl⟩:∃k',k=k'+1:=⟨k-1,by omega⟩
    rw[Jr]at v;have hqj:=hqg j i b L hi W;have hmem:j∈sq q done:=by
     unfold sq;rw[dh,cn];refine⟨by omega,?_⟩;rw[get?_eq,hqj];simp only[aP,dF,aS];refine⟨?_,λx d=>cK.2 ((X x).1 (hready x d))⟩;cases hh:has done j with
     |false=>rfl
     |true=>exact absurd (cK.1 hh) M
    have hk2:=uS v j hmem;rw[get?_eq,hqj]at hk2;exact yA ow C hci hk2 (λa' w' G' ρ' t' Y O S=>ih _ _ _ hsz B ⟨jb,.inl ⟨j::done,k,G',ρ',t',Y,cm.2 ⟨M,d1⟩,by rw[aX];omega,λx=>by rw[f,af,X],λx d=>by
     rcases af.1 d with rfl|d
     .exact L
     .exact d4 x d,O,S⟩⟩) PQ.qk
   .exact absurd ((k3 j).2 (by omega)) F
  .have z:∀i,i<m->listed.getD i false=true:=λi hi=>hready i (D.fu j b (by omega) W i (by omega));have⟨k,G,ρ,t',Y,k1,k3,C,v⟩:=s listed a w hI z;have hjk:j=k:=by
    have u:k<=j:=by
     rcases de j k with h|h
     .exact absurd ((k3 j).2 h) F
     .exact h
    rcases de k j with g|g
    .have:=(k3 k).1 (hready k (D.fu j b (by omega) W k g));omega
    .omega
   subst hjk;have U:is.drop j=i::is.drop (j+1):=by
    have hlt:j<is.length:=by omega
    rw[bO hlt];rw[aA hlt]at hi;rw[aq hi]
   rw[U]at v;exact rp ow C hci v (λa' w' G' ρ' t' Y O S=>ih _ _ _ hsz B ⟨jb,.inr ⟨j+1,G',ρ',t',Y,by omega,λk=>by rw[f,k3];omega,O,S⟩⟩) PQ.qk
end
theorem Fw.fn(r:Option Nat)(f:FuncId):(Fw r).fn f:=trivial
theorem Fw.room(r:Option Nat)(n:Nat):(Fw r).room n:=λ_ h=>by simp[Fw,Fence.wide]at h
theorem Fw.depth(r:Option Nat)(N:Nat):(Fw r).depth.isSome=true->1<=N:=λh=>by simp[Fw,Fence.wide]at h
section
variable{P:Program}{ops:Array Oper}{Q:Exit->Act->World->Prop}{a:Act}{w:World}{o:Oper}{bV:Act->World->Prop}{r:Option Nat}{N:Nat}
theorem Q3(h:Ae o=true):∀c,o.op≠.defer c:=by
 intro c x;unfold Ae at h;rw[x]at h;cases h
theorem uJ{f:FuncId}{args:Array Value}{R:Ending->World->Prop}(h:Calls P f args w R):CallsIn (Fw r) N P f args w R:=
 ⟨trivial,λcs _=>let⟨e,w',fr,r,s,x⟩:=h cs;⟨e,w',fr,r,comesIn_wide.2 s,x⟩⟩
theorem tg{f:FuncId}{args:Array Value}{R:Ending->World->Prop}(h:CallsIn (Fw r) N P f args w R):Calls P f args w R:=
 λcs=>let⟨e,w',fr,q,s,x⟩:=h.2 cs (Fw.room _ _);⟨e,w',fr,q,comesIn_wide.1 s,x⟩
theorem LK{row:String}{args:Array Value}{R:Value->World->Prop}(h:Rows P row args w R):RowsIn (Fw r) N P row args w R:=
 λc cs _=>let⟨v,w',q,s⟩:=h c cs;⟨v,w',q,stepsIn_wide.2 s⟩
theorem TS(hd:Ae o=true)(h:o.wp P a w bV Q):o.wpIn (Fw r) N P a w bV Q:=by
 unfold Oper.wpIn;refine⟨λ_ _=>trivial,?_⟩;rw[Oper.semAt_eq _ _ _ (Q3 hd)];unfold Oper.wp at h;generalize(execOp a.eval o).run P w=y at *;cases y with
 |ok x w'=>
  cases x<;>simp only[Oper.upon,Oper.uponIn]at h⊢<;>first
   |exact h
   |exact⟨Fw.depth _ _,uJ h⟩
   |exact⟨Fw.depth _ _,LK h⟩
   |exact h.elim
 |halt x w'=>cases x<;>simp only[Oper.upon,Oper.uponIn]at h⊢<;>exact h
theorem Bk(hl:¬LetsOut Q){i:Nat}(hd:∀o,ops[i]?=some o->Ae o=true){K K':Act->World->Prop}(x:∀a w,K a w->K' a w)(h:wpOp P ops Q i K a w):wpOpIn (Fw r) N P ops Q i K' a w:=by
 unfold wpOp at h;unfold wpOpIn;split
 .rename_i he;rw[he]at h;exact x _ _ h
 .rename_i o he;rw[he]at h;simp only at h;split
  .rename_i y;rw[ζ y]at h;rcases h with h|⟨_,h⟩
   .exact TS (hd o he) (Oper.wp_mono x h)
   .exact absurd h hl
  .rename_i y;rw[η y]at h;exact⟨λ_ _=>trivial,x _ _ h⟩
theorem FY(hl:¬LetsOut Q)(hd:∀(i:Nat) o,ops[i]?=some o->Ae o=true):∀(l:List Nat)(a:Act)(w:World),wpOps P ops Q l a w->wpOpsIn (Fw r) N P ops Q l a w:=by
 intro l
 induction l with
 |nil=>exact λa w h=>h
 |cons i l x=>
  intro a w h;rw[wpOps_cons]at h;rw[wpOpsIn_cons];exact Bk hl (hd i) x h
theorem FZ(hl:¬LetsOut Q)(hd:∀(i:Nat) o,ops[i]?=some o->Ae o=true){md:Region.Mode}:∀(x:Nat)(ls:Array Bool)(a:Act)(w:World),wpAny P md ops Q x ls a w->wpAnyIn (Fw r) N P md ops Q x ls a w:=by
 intro x
 induction x with
 |zero=>exact λls a w h=>h
 |succ x y=>
  intro ls a w h;exact⟨h.1,λi z=>Bk hl (hd i) (y _) (h.2 i z)⟩
theorem Dt{id:Nat}(hl:¬LetsOut Q)(hd:∀(i:Nat) o,ops[i]?=some o->Ae o=true)(h:wpList P ops Q ops.toList a w):(Code.region id ops false).wpIn (Fw r) N P Q a w:=by
 have e:=wpOps_eq_wpList (P:=P) (Q:=Q) (ops:=ops) ops.toList 0 (λj=>by simp);refine wpIn_region (FY hl hd _ _ _ ?_);rw[List.range_eq_range',<-dW,e];exact h
theorem kb{id:Nat}(hl:¬LetsOut Q)(hd:∀(i:Nat) o,ops[i]?=some o->Ae o=true)(x:P.follows .mixedOrders=true)
  (h:wpAny P .any ops Q ops.size (Array.replicate ops.size false) a {w with drawn:=w.drawn+1}):(Code.region id ops true).wpIn (Fw r) N P Q a w:=
 wpIn_region_any x (FZ hl hd _ _ _ _ h)
theorem sA(h:ops.toList.all Ae=true):∀(i:Nat) o,ops[i]?=some o->Ae o=true:=λ_ o x=>
 aS.1 h o (fY.2 (Array.mem_of_getElem? x))
theorem CJ{E:gL}{n:Nat}{K:Ex->T->H->Prop}:¬LetsOut (QK E n K):=λ⟨_,_,_,_,_,_,_,h⟩=>h.elim
theorem zq{A:Type}{c:Code}(I:A->Act->World->Prop)(μ:A->Nat)(x:A)(p:I x a w)
  (round:∀x a w,I x a w->c.wpIn (Fw r) N P (Exit.then (λa' w'=>∃y,I y a' w'/\μ y<μ x) Q) a w):(Code.loop c).wpIn (Fw r) N P Q a w:=by
 intro b k cs d f hr;have key:∀(n:Nat)(x:A)(a:Act)(w:World),μ x=n->I x a w ->
   ∃e a' w',Q e a' w'/\ArrivesIn (Machine.fenced P (Fw r)) P (lone (b.atR a (.code c :: .inLoop c::k)) cs w) b k cs e a' w':=by
  intro n
  induction n using Nat.strongRecOn with
  |_ n q=>
   intro x a w s hI;have⟨e,a₁,w₁,u,z⟩:=round x a w hI b (.inLoop c::k) cs d f hr;cases e with
   |normal=>
    have⟨y,g,i⟩:=u;have⟨e₂,a₂,w₂,j,v⟩:=q (μ y) (s ▸ i) y a₁ w₁ rfl g;exact⟨e₂,a₂,w₂,j,.of_steps (StepsIn.trans z (.one (fenced_calm f hr rfl) stepR_inLoop)) v⟩
   |exit id=>exact⟨_,a₁,w₁,u,.pass (x:=.inLoop c) rfl (λ_ _=>.inl (by simp)) z⟩
   |goto l=>exact⟨_,a₁,w₁,u,.pass (x:=.inLoop c) rfl (λ_ _=>.inl (by simp)) z⟩
   |ret=>exact⟨_,a₁,w₁,u,.pass (x:=.inLoop c) rfl (λ_ _=>.inl (by simp)) z⟩
   |panic B=>exact⟨_,a₁,w₁,u,.pass (x:=.inLoop c) rfl (λ_ _=>.inl (by simp)) z⟩
   |outgrown=>exact⟨_,a₁,w₁,u,.pass (x:=.inLoop c) rfl (λ_ _=>.inl (by simp)) z⟩
 have⟨e,a',w',u,z⟩:=key _ x a w rfl p;exact⟨e,a',w',u,.of_steps (.one (fenced_calm f hr rfl) stepR_loop) z⟩
end
end Go.Vx
