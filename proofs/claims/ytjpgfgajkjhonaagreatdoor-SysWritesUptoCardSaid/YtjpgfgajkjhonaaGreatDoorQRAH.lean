/- Lemmas. Conditions: none. -/
import Derived.Test.YtjpgfgajkjhonaaGreatDoorQRAG
namespace Go.Vx
section
variable{P:Program}{E:gL}{n:Nat}{G:Nat->Prop}{ρ:List Value}{t:T}{h:H}{a:Act}{w w':World}{o:Oper}{bV:Act->World->Prop}{Q:Exit->Act->World->Prop}{K KP:V->T->H->Prop}
theorem LC{G':Nat->Prop}{ρ':List Value}{v:Value}{x:B}(y:cY G w ρ v x)(hs:yE x=true):cY G' w ρ' v x:=by
 cases x<;>simp only[yE,cj]at hs;rename_i z rs;simp only[aS]at hs;rcases y with y|⟨b,u,arr,ty,e,f,g,k,l,c⟩
 .exact .inl y
 .exact .inr ⟨b,u,arr,ty,e,f,g,k,l,λi row hr=>⟨(c i row hr).1,λj x d=>wO ((c i row hr).2 j x d) (hs row (aJ hr) x (aJ d))⟩⟩
theorem LB{G':Nat->Prop}{ρ':List Value}{f:Nat->Nat}{v:Value}{x:V}(y:au G w ρ v x)(hs:Di x=true)(u:∀i∈eT x,ρ'[f i]?=ρ[i]?):au G' w ρ' v (gS f x):=by
 have one:∀{v:Value}{x:V},dM G w ρ v x->GA x=true->(∀i∈jJ x,ρ'[f i]?=ρ[i]?)->dM G' w ρ' v (pK f x):=by
  intro v x y hs u;cases x<;>simp only[GA,Ph,cj]at hs
  .exact AT (.o y) hs
  .cases y with
   |c y=>cases y with
    |k y=>cases y with
     |os id a n c h=>exact .c (.k (.os _ a n c ((u _ (aL.2 rfl)).trans h)))
 by_cases b:∃c,x=.tu c
 .obtain⟨c,rfl⟩:=b;obtain⟨cs,rfl,m,d⟩:=y.Uh;refine .tu cs _ (by grind) λi x z=>?_;rw[aB,aG]at z;obtain⟨x0,z,rfl⟩:=z;exact one (d i x0 z) (aS.1 hs x0 (aJ z)) λj p=>u j (by simp only[eT,aO];grind)
 .have e:Di x=GA x:=by cases x<;>first|rfl|exact absurd ⟨_,rfl⟩ b
  have g:gS f x=pK f x:=by cases x<;>first|rfl|exact absurd ⟨_,rfl⟩ b
  have l:eT x=jJ x:=by cases x<;>first|rfl|exact absurd ⟨_,rfl⟩ b
  rw[g];cases y with
  |o y=>exact .o (one y (e ▸ hs) (l ▸ u))
  |tu=>grind
theorem ak.Sh(A:ak E n G ρ t h a w)(m:gK w w'){ρ1:List Value}{ns:List B}(hl:ρ1.length=ns.length)(rep:∀(k:Nat)(v:Value)(x:B),ρ1[k]?=some v->ns[k]?=some x->cY G w' (ρ++ρ1) v x)
  (d:∀b,own ρ1 ns b->w.heap.size<=b) (oB:∀(i j:Nat)(v u:Value)(x y:B)(b:Nat),ρ1[i]?=some v->ns[i]?=some x->x≠.no->ρ1[j]?=some u->ns[j]?=some y->y≠.no->b∈eU v x->b∈eU u y->i=j) :
  ak E n G (ρ++ρ1) t (h++ns) a w':=by
 have e:=A.ok;have hr:=e.hr;have g:∀i,i<ρ.length->(ρ++ρ1)[i]?=ρ[i]?:=λi O=>aT O;have D:∀b,G b->w'.heap[b]?=w.heap[b]?:=λb c=>m.iE b (hr.gl b c);have get:∀(i:Nat)(v:Value)(y:B),(ρ++ρ1)[i]?=some v->(h++ns)[i]?=some y->(ρ[i]?=some v/\h[i]?=some y)\/∃k,i=h.length+k/\ρ1[k]?=some v/\ns[k]?=some y:=by
  intro i v y z l
  by_cases O:i<h.length
  .rw[g i (by rw[hr.len];grind)]at z
   grind
  .rw[aY (by rw[hr.len];omega),hr.len]at z
   grind
 have p:∀b,own (ρ++ρ1) (h++ns) b->own ρ h b\/w.heap.size<=b:=by
  rintro b ⟨i,v,y,z,l,s,C⟩
  rcases get i v y z l with⟨g1,f⟩|⟨k,_,g1,f⟩
  .exact .inl ⟨i,v,y,g1,f,s,C⟩
  .exact .inr (d b ⟨k,v,y,g1,f,s,C⟩)
 refine⟨⟨⟨by simp[hr.len,hl],λi v y z l=>?_,λi j v u x y b z l s C U F I J=>?_,λb c=>b9 (hr.gl b c) m.size,λb c W=>?_,hr.sF.mono (λ_ h=>h) D⟩,e.gm,λb c=>(e.go b c).imp (λh=>h) λl=>⟨l.1.same (D b c),l.2⟩,λb c=>?_,
  λb c X=>(m.iE b (b9 c e.size)).trans (e.frame b c X),aV e.size m.size,m.os.trans e.os,m.tape.trans e.tape,m.out.trans e.out,λid v Y hs=>?_,by have:=e.hl;grind,λr L=>?_⟩,A.df,A.sz,
  λi=>(A.tm i).mono (λ_ h=>h) D (λj M=>g j ((A.tm i).lt j M))⟩
 .rcases get i v y z l with⟨g1,f⟩|⟨k,_,g1,f⟩
  .have q:=hr.rep i v y g1 f
   by_cases R:y=.no
   .subst R;trivial
   .exact q.mono (λ_ h=>h) D (λb c=>m.iE b (hr.lt g1 f R c)) (λj M=>g j (q.lt j M))
  grind
 .rcases get i v x z l with⟨g1,f⟩|⟨k,rfl,g1,f⟩<;>rcases get j u y C U with⟨k1,k2⟩|⟨Z,rfl,k1,k2⟩
  .exact hr.oB i j v u x y b g1 f s k1 k2 F I J
  .have:=hr.lt g1 f s I;have:=d b ⟨Z,u,y,k1,k2,F,J⟩;omega
  .have:=hr.lt k1 k2 F J;have:=d b ⟨k,v,x,g1,f,s,I⟩;omega
  grind
 .rcases p b W with z|z
  .exact hr.gd b c z
  .have:=hr.gl b c;omega
 .rcases p b c with z|z
  .exact e.oo b z
  .exact .inl (aV e.size z)
 .have:=e.hand id v Y hs
  grind
 .have⟨z,l,s⟩:=e.sC r L;have N:=(aQ.1 z).1;refine⟨(m.iE r N).trans z,l,λC=>?_⟩
  grind
theorem yr(as:Array Value)(i:Nat):as.toList.getD i undef=as.getD i undef:=by
 simp_all
theorem EN(z:ak E n G ρ t h a w){f:Nat}(j:f<5000000){as:Array Value}{vs:List V}(u:eo P f=true->(execOp a.eval o).run P w=.ok (.enter f as) w)(hl:as.size=vs.length)
  (M:∀(i:Nat)(x:V),vs[i]?=some x->au G w ρ (as.getD i undef) x) {r:V} {ns:List B} (l:Sat P f (vs.map (rY h)) [] λout J=>out=.ret r/\J=ns) (m:ns.all yE=true) (hr:Di r=true)
  (p:∀(v:Value)(w':World)(ρ':List Value),ak E n G ρ' t (h++ns) a w'->au G w' ρ' v (gS (λk=>h.length+k) r)->bV (a.put o.dst v) w'):o.wp P a w bV Q:=by
 have⟨q,l⟩:=l.fn j;have s:HR (all w) w [] []:=⟨rfl,by simp,by simp,λ_ h=>h,(λb _ A=>by have⟨_,_,_,N,_⟩:=A;grind),z.ok.hr.sF.mono (λb c=>z.ok.hr.gl b c) (λ_ _=>rfl)⟩
 have d:=l (all w) w [] as.toList s (by grind) (λi x C=>by
  rw[yr];rw[aB]at C;cases d:vs[i]? with
  |none=>grind
  |some x0=>rw[d]at C;cases C;exact DK z.ok.hr (M i x0 d))
 rw[cr]at d;unfold Oper.wp;rw[u q,Oper.upon_enter];refine d.mono λe w' D=>?_;obtain⟨G',ρ1,J,out,y,O,rfl,rfl⟩:=D;obtain⟨v,rfl,F⟩:=O;have g:∀b,¬own ([]:List Value) ([]:H) b:=λb A=>by have⟨_,_,_,N,_⟩:=A;grind
 have R:gK w w':=⟨y.size,λb c=>y.frame b c (g b),y.os,y.tape,y.out⟩
 have I:=z.Sh R (ρ1:= ρ1) y.hr.len (λk v x g1 L=>LC (y.hr.rep k v x g1 L) (aS.1 m x (aJ L))) (λb c=>(y.oo b c).resolve_right (g b)) y.hr.oB;refine p v w' _ I (LB F hr λi U=>?_);rw[aY (by rw[z.ok.hr.len];omega),z.ok.hr.len]
 grind
def gone(ids:List Nat)(h:H):H:=h.zipIdx.map λp=>bif has ids p.2 then .no else p.1
theorem lR(ids:List Nat)(h:H):(gone ids h).length=h.length:=by simp[gone]
theorem nG{ids:List Nat}{h:H}{i:Nat}:(gone ids h)[i]?=if i∈ids then(h[i]?).map λ_=>.no else h[i]?:=by
 simp only[gone,aB,lW];cases h[i]? with
 |none=>simp
 |some x=>
  simp only[bE,cF];split
  .rename_i y;rw[cK.2 y];rfl
  .rename_i y;have:has ids i=false:=by
    rw[o5];exact λh=>y (cK.1 h)
   grind
theorem D8(Z:ak E n G ρ t h a w){f:Nat}(hlt:f<5000000){as:Array Value}{vs:List V}(hrun:eo P f=true->(execOp a.eval o).run P w=.ok (.enter f as) w)(hl:as.size=vs.length)
  (hv:∀(i:Nat)(x:V),vs[i]?=some x->au G w ρ (as.getD i undef) x) {ids:List Nat} (hids:∀x∈vs,∀j∈eT x,j∈ids) (hnd:ids.Nodup) (hrw:∀i∈ids,∃z rs,h[i]?=some (.rows z rs)) {r:V} {ns:List B}
  (hS:Sat P f (vs.map (gS (pos ids))) (ids.map λi=>eR (pos ids) ((get? h i).getD .no)) λout h'=>out=.ret r/\h'=List.replicate ids.length .no++ns)
  (hns:∀b∈ns,∀k∈eZ b,ids.length<=k) (hr:∀k∈eT r,ids.length<=k)
  (hnx:∀(v:Value)(w':World)(G':Nat->Prop)(ρ':List Value),ak E n G' ρ' t (gone ids h++ns.map (eR λk=>h.length+k-ids.length)) a w'->au G' w' ρ' v (gS (λk=>h.length+k-ids.length) r)->bV (a.put o.dst v) w'):o.wp P a w bV Q:=by
 have⟨hok,hS⟩:=hS.fn hlt;have O:∀i∈ids,i<h.length:=λi hi=>by grind
 have jb:∀i∈ids,∀x,h[i]?=some x->∀j∈eZ x,j∈ids:=λi hi x R j I=>by
  have⟨z,rs,e⟩:=hrw i hi;rw[e]at R;cases R;cases I
 have⟨hP,U⟩:=Z.ok.hr.part hnd O jb;have s:=Z.ok.hr;have hρl:=s.len;have hc:=hS G w _ as.toList hP (by grind) (λk x R=>by
  rw[aB]at R;cases hx0:vs[k]? with
  |none=>grind
  |some x0=>
   rw[hx0]at R;cases R;rw[yr];refine(hv k x0 hx0).pL (λj I=>?_);have hjm:=hids x0 (aJ hx0) j I;have hjl:=O j hjm;rw[aB,iA hjm,bE,aA (by omega)];rfl)
 rw[cr]at hc;unfold Oper.wp;rw[hrun hok,Oper.upon_enter];refine hc.mono λe w' hr'=>?_;obtain⟨G',ρ',h',out,m,hR,rfl,rfl⟩:=hr';obtain⟨v,rfl,hv'⟩:=hR;generalize(ids.map λi=>(ρ[i]?).getD undef)=ρc at *;generalize(ids.map λi=>eR (pos ids) ((get? h i).getD .no))=hB at *;have N:∀b,own ρc hB b->own ρ h b:=λb p=>by
  have⟨i,v,x,_,g1,l,g3,g4⟩:=U b p;exact⟨i,v,x,g1,l,g3,g4⟩
 have hold:∀b,b<w.heap.size->¬own ρc hB b->w'.heap[b]?=w.heap[b]?:=m.frame;have hGb:∀b,G b->w'.heap[b]?=w.heap[b]?:=λb p=>hold b (s.gl b p) (λD=>s.gd b p (N b D));have hsz:w.heap.size<=w'.heap.size:=m.size;have J:∀(i:Nat)(v:Value)(x:B)(b:Nat),i∉ids->ρ[i]?=some v->h[i]?=some x->x≠.no->b∈eU v x->b<w.heap.size/\(¬own ρc hB b)/\¬G' b/\¬own ρ' (List.replicate ids.length .no++ns) b:=by
  intro i v x b hi g1 l g3 g4;have p:=s.lt g1 l g3 g4;have hno:¬own ρc hB b:=λD=>by
   have⟨i',v',x',hm,k1,k2,k3,k4⟩:=U b D;exact hi (by rw[s.oB i i' v v' x x' b g1 l g3 k1 k2 k3 g4 k4];grind)
  refine⟨p,hno,λhg=>?_,λD=>?_⟩
  .rcases m.go b hg with d|⟨_,d|d⟩
   .exact s.gd b d ⟨i,v,x,g1,l,g3,g4⟩
   grind
   grind
  .rcases m.oo b D with d|d
   grind
   grind
 have hlen:=m.hr.len;rw[aK,List.length_replicate]at hlen;have L:∀i,i<ρ.length->(ρ++ρ'.drop ids.length)[i]?=ρ[i]?:=λi hi=>aT hi;have W:∀k,ids.length<=k->(ρ++ρ'.drop ids.length)[h.length+k-ids.length]?=ρ'[k]?:=λk hk=>by
  rw[aY (by omega),bF];congr 1;omega
 have get:∀(i:Nat)(v:Value)(y:B),(ρ++ρ'.drop ids.length)[i]?=some v->(gone ids h++ns.map (eR λk=>h.length+k-ids.length))[i]?=some y->y≠.no ->
   (i∉ids/\ρ[i]?=some v/\h[i]?=some y)\/∃k x,i=h.length+k/\ρ'[ids.length+k]?=some v/\ns[k]?=some x/\(List.replicate ids.length B.no++ns)[ids.length+k]?=some x/\y=eR (λk=>h.length+k-ids.length) x:=by
  intro i v y d A F
  by_cases hi:i<h.length
  .rw[L i (by grind)]at d;rw[aT (by rw[lR];grind),nG]at A
   grind
  .rw[aY (by omega),bF,hρl]at d;rw[aY (by rw[lR];omega),lR,aB,aG]at A;obtain⟨x,R,rfl⟩:=A;refine .inr ⟨i-h.length,x,by omega,d,R,?_,rfl⟩;rw[aY (by simp),List.length_replicate,Nat.add_sub_cancel_left]
   grind
 have C:∀(k:Nat)(x:B){v:Value}{b:Nat},eR (λk=>h.length+k-ids.length) x≠.no->b∈eU v (eR (λk=>h.length+k-ids.length) x)->x≠.no/\b∈eU v x:=λk x v b d A=>⟨λe=>d ((ka _ _).2 e),by rw[eU,nH]at A;exact A⟩
 have M:∀b,own (ρ++ρ'.drop ids.length) (gone ids h++ns.map (eR λk=>h.length+k-ids.length)) b->(own ρ h b\/w.heap.size<=b)/\¬G' b:=by
  rintro b ⟨i,v,y,d,A,F,X⟩
  rcases get i v y d A F with⟨g0,g1,l⟩|⟨k,x,rfl,g1,_,l,rfl⟩
  .exact⟨.inl ⟨i,v,y,g1,l,F,X⟩,(J i v y b g0 g1 l F X).2.2.1⟩
  .have⟨x1,x2⟩:=C k x F X;have D:own ρ' (List.replicate ids.length .no++ns) b:=⟨_,v,x,g1,l,x1,x2⟩
   refine⟨?_,λhg=>m.hr.gd b hg D⟩;rcases m.oo b D with h5|h5
   grind
   grind
 have g:=Z.ok;refine hnx v w' G' _ ⟨⟨⟨by rw[aK,aK,lR,aH,eJ];omega,λi v y d A=>?_,λi j v u x y b d A F X h5 h6 h7 h8=>?_,m.hr.gl,λb p D=>(M b D).2 p,m.hr.sF⟩,λb p=>m.gm b (g.gm b p),λb p=>?_,λb p=>?_,
   λb p C=>?_,aV g.size hsz,m.os.trans g.os,m.tape.trans g.tape,m.out.trans g.out,λi v hv hs=>?_,by rw[aK,lR];have:=g.hl;omega,λq hq=>?_⟩,Z.df,Z.sz,λi=>?_⟩ ?_
 .by_cases hy:y=.no
  .subst hy;trivial
  .rcases get i v y d A hy with⟨g0,g1,l⟩|⟨k,x,rfl,g1,g3,l,rfl⟩
   .have Y:=s.rep i v y g1 l;exact Y.mono m.gm hGb (λb p=>by
    grind) (λj I=>L j (Y.lt j I))
   .exact(m.hr.rep _ v x g1 l).pL λj I=>W j (hns x (aJ g3) j I)
 .rcases get i v x d A F with⟨g0,g1,l⟩|⟨k,x',rfl,g1,_,l,rfl⟩<;>rcases get j u y X h5 h6 with⟨k0,k1,k2⟩|⟨k',y',rfl,k1,_,k2,rfl⟩
  .exact s.oB i j v u x y b g1 l F k1 k2 h6 h7 h8
  .have⟨y1,y2⟩:=C k' y' h6 h8;exact absurd ⟨_,u,y',k1,k2,y1,y2⟩ (J i v x b g0 g1 l F h7).2.2.2
  .have⟨x1,x2⟩:=C k x' F h7;exact absurd ⟨_,v,x',g1,l,x1,x2⟩ (J j u y b k0 k1 k2 h6 h8).2.2.2
  .have⟨x1,x2⟩:=C k x' F h7;have⟨y1,y2⟩:=C k' y' h6 h8;have:=m.hr.oB _ _ v u x' y' b g1 l x1 k1 k2 y1 x2 y2;omega
 .rcases m.go b p with d|⟨hc,d|d⟩
  .exact(g.go b d).imp (λh=>h) λA=>⟨A.1.same (hGb b d),A.2⟩
  .exact .inr ⟨hc,.inl (aV g.size d)⟩
  .exact .inr ⟨hc,g.oo b (N b d)⟩
 .rcases(M b p).1 with d|d
  .exact g.oo b d
  .exact .inl (aV g.size d)
 .rw[hold b (b9 p g.size) (λD=>?_)]
  .exact g.frame b p C
  .rcases g.oo b (N b D)with d|d
   grind
   grind
 .have h0:=g.hand i v hv hs
  grind
 .have⟨d,A,F⟩:=g.sC q hq;have hlt:=(aQ.1 d).1;refine⟨(hold q hlt λD=>F (N q D)).trans d,λX=>?_,λX=>?_⟩
  .rcases m.go q X with h5|⟨_,h5|h5⟩
   grind
   grind
   grind
  grind
 .exact(Z.tm i).mono m.gm hGb (λj I=>L j ((Z.tm i).lt j I))
 .exact hv'.pL λj I=>W j (hr j I)
theorem pv(d:ak E n G ρ t h a w)(k:iQ E n a o K bV)(I:SE E n a KP Q){f:Nat}(u:f<5000000){as:Array Value}{vs:List V}(y:eo P f=true->(execOp a.eval o).run P w=.ok (.enter f as) w)(hl:as.size=vs.length)
  (l:∀(i:Nat)(x:V),vs[i]?=some x->au G w ρ (as.getD i undef) x) (z:px (Sat P) f vs t h K KP):o.wp P a w bV Q:=by
 unfold px at z;split at z
 .exact xS d k I u y hl l z
 .rcases z with⟨r,m,hs,z⟩|z
  .have⟨p,q⟩:=m.fn u;have s:HR (all w) w [] []:=⟨rfl,by simp,by simp,λ_ h=>h,(λb _ A=>by have⟨_,_,_,J,_⟩:=A;grind),d.ok.hr.sF.mono (λb B=>d.ok.hr.gl b B) (λ_ _=>rfl)⟩
   have g:∀i,as.toList.getD i undef=as.getD i undef:=by
    simp_all
   have c:=q (all w) w [] as.toList s (by grind) (λi x C=>by
    rw[g];rw[aB]at C;cases c:vs[i]? with
    |none=>grind
    |some x0=>rw[c]at C;cases C;exact DK d.ok.hr (l i x0 c))
   rw[cr]at c;unfold Oper.wp;rw[y p,Oper.upon_enter];refine c.mono λe w' hr=>?_;obtain⟨G',ρ',L,out,j,M,rfl,rfl⟩:=hr;obtain⟨v,rfl,D⟩:=M;have N:gK w w':=⟨j.size,λb B=>j.frame b B (λA=>by have⟨_,_,_,J,_⟩:=A;grind),j.os,j.tape,j.out⟩
   exact k v w' G ρ t h r (d.grow N (λ_ h=>h) (λ_ h=>.inl h)) (LD D hs) z
  .rcases Qd z with z|⟨r,ns,q,c,z⟩
   .rw[bf]at z;have⟨G',t',L,vs',k1,k2,k3,O⟩:=sG _ G t h _ (λi=>as.getD i undef) d l z;exact xS k1 k I u y (by grind) k3 O
   .rw[bf]at z;simp only[aP]at c;exact EN d u y hl l q c.1 c.2 λv w' ρ' F hr=>k v w' G ρ' t _ _ F hr z
variable(ow:Nat->Bool)
theorem TY(b:ak E n G ρ t h a w)(k:iQ E n a o K bV)(l:SE E n a KP Q){f:Nat}(v:f<5000000){c:Call}{oa:List O}(q:o.op=.call c)(d:c.callee=.value (.func f))(r:args P c.args.toList c.argTypes.toList=some oa)
  (u:bq (Sat P) ow (.cf f oa) t h K KP):o.wp P a w bV Q:=by
 have⟨g1,s⟩:=oG b _ _ _ r;have z:eo P f=true->(execOp a.eval o).run P w=.ok (.enter f (c.args.map a.eval)) w:=λe=>by
  have:=gC (P:=P) (w:=w) (as:=c.args.map a.eval) e;simp[execOp,q,resolve,d,Act.eval,Deferred.ofValue,invoke,this]
 have m:∀(i:Nat)(x:V),(oa.map λx=>cH (gv t x))[i]?=some x->au G w ρ ((c.args.map a.eval).getD i undef) x:=by
  intro i x g;rw[aB]at g;cases p:oa[i]? with
  |none=>grind
  |some y=>
   rw[p]at g;cases g;have:=s i y p;rw[a8,aB,bt]at this;rw[aF,gQ];exact qd this
 simp only[bq,bf]at u;cases j:ow f<;>rw[j]at u
 .simp only[ε]at u;exact pv b k l v z (by grind) m u
 .simp only[δ]at u;exact xS b k l v z (by grind) m u
theorem QD{x:D}{v:Value}(h:bp G w v x):dL G w ρ v (Sm x):=by
 cases h with
 |pt b o off row U y u c=>exact .e b o off row U y u c
 |int k n=>exact .d (.int k n)
 |bool b=>exact .d (.bool b)
 |str s hs=>exact .d (.str s hs)
 |xg z=>exact .d (.xg z)
 |sle a z=>exact .d (.sle a z)
 |sl b o g z rows U y u c i j l=>exact .d (.sl b o g z rows U y u c i j l)
 |np=>exact .d .np
 |nf=>exact .d .nf
 |ni=>exact .d .ni
 |nm=>exact .d .nm
 |fn f=>exact .d (.fn f)
 |fc F _ cs caps y u c=>exact .d (.fc F _ cs caps y u c)
theorem Qy{x:V}{v:Value}(h:au G w ρ v x):au G w ρ v (Vv x):=by
 unfold Vv;split
 .rename_i f caps;cases h.qu with
  |fc F _ cs _ u e b=>
   refine .o (.c (.fc _ _ cs _ u (by grind) λi x z=>?_));rw[aB,aG]at z;obtain⟨y,d,rfl⟩:=z;exact QD (b i y d)
 grind
theorem TZ(g:ak E n G ρ t h a w)(r:iQ E n a o K bV)(s:SE E n a KP Q){c:Call}{x:Operand}{ox:O}{oa:List O}{t1:TypeId}(A:o.op=.call c)(e:c.callee=.value x)(u:cX P t1 x=some ox)(L:args P c.args.toList c.argTypes.toList=some oa)
  (v:bq (Sat P) ow (.cc ox oa) t h K KP):o.wp P a w bV Q:=by
 have⟨g1,M⟩:=oG g _ _ _ L;have d:=Qy (bG g u);have B:∀(i:Nat)(x:V),(oa.map λx=>cH (gv t x))[i]?=some x->au G w ρ ((c.args.map a.eval).getD i undef) x:=by
  intro i x u;rw[aB]at u;cases J:oa[i]? with
  |none=>grind
  |some y=>
   rw[J]at u;cases u;have:=M i y J;rw[a8,aB,bt]at this;rw[aF,gQ];exact qd this
 simp only[bq,bf]at v;split at v
 .rename_i f caps C;rw[C]at d;have⟨cs,j,jb,l⟩:=d.Nv;cases m:Nat.blt f 1000000<;>rw[m]at v
  .simp only[ε]at v;cases p:Nat.blt f 2000000<;>rw[p]at v
   grind
   simp only[δ]at v;have q:=BX j (λhl=>by rw[<-fH,m]at hl;grind) (by simp_all);have z:eo P (f-1000000)=true->(execOp a.eval o).run P w=.ok (.enter (f-1000000) (cs++c.args.map a.eval)) w:=λb=>by
    have:=gC (P:=P) (w:=w) (as:=cs++c.args.map a.eval) b;simp[execOp,A,resolve,e,q,Deferred.ofValue,invoke,this]
   have D:∀(i:Nat)(x:V),(caps++(oa.map λx=>cH (gv t x)))[i]?=some x->au G w ρ ((cs++c.args.map a.eval).getD i undef) x:=by
    intro i x u
    by_cases F:i<caps.length
    .rw[aT F]at u;have:=l i x u;rw[aF]at this⊢;rw[cp (by omega)];exact .k this
    .rw[aY (by omega)]at u;have:=B _ x u;rw[aF]at this⊢
     grind
   exact pv g r s (by have:=p;simp[]at this;omega) z (by grind) D v
  simp only[δ]at v;have q:=uB j (by simp_all);have z:eo P f=true->(execOp a.eval o).run P w=.ok (.enter f (c.args.map a.eval++cs)) w:=λb=>by
   have:=gC (P:=P) (w:=w) (as:=c.args.map a.eval++cs) b;simp[execOp,A,resolve,e,q,Deferred.ofValue,invoke,this]
  have D:∀(i:Nat)(x:V),((oa.map λx=>cH (gv t x))++caps)[i]?=some x->au G w ρ ((c.args.map a.eval++cs).getD i undef) x:=by
   intro i x u;have I:(c.args.map a.eval).size=(oa.map λx=>cH (gv t x)).length:=by grind
   by_cases F:i<(oa.map λx=>cH (gv t x)).length
   .rw[aT F]at u;have:=B i x u;rw[aF]at this⊢
    grind
   .rw[aY (by omega)]at u;have:=l _ x u;rw[aF]at this⊢;rw[Array.getElem?_append_right (by omega),I];exact .k this
  exact pv g r s (by have:=m;simp[]at this;omega) z (by grind) D v
 .rename_i f C;rw[C]at d;have q:=BR d.qu;have z:eo P f=true->(execOp a.eval o).run P w=.ok (.enter f (c.args.map a.eval)) w:=λb=>by
   have:=gC (P:=P) (w:=w) (as:=c.args.map a.eval) b;simp[execOp,A,resolve,e,q,Deferred.ofValue,invoke,this]
  cases m:Nat.blt f 5000000<;>rw[m]at v
  grind
  .rw[δ]at v;exact pv g r s (by simp_all) z (by grind) B v
 grind
end
section
variable{P:Program}{E:gL}{n:Nat}{G:Nat->Prop}{ρ:List Value}{t:T}{h:H}{a:Act}{w:World}{o:Oper}{bV:Act->World->Prop}{Q:Exit->Act->World->Prop}{K KP:V->T->H->Prop}
variable(S:Nat->List V->H->(Out->H->Prop)->Prop)(ow:Nat->Bool)
theorem N6(hC:ak E n G ρ t h a w)(hn:iQ E n a o K bV){ne:Bool}{ty e t1 t2:TypeId}{x:Operand}{ox:O}(ho:o.op=.binOp (bif ne then .neq else .eql) ty x (.const (.slice none 0 0)) t2)(hu:P.underlying ty=some (.slice e))(hx:cX P t1 x=some ox)
  (hk:bq S ow (.nq ne ox) t h K KP):o.wp P a w bV Q:=by
 have hv:=bG hC hx;have run:∀(ad:Option Addr)(m c:Nat),a.eval x=.slice ad m c->(execOp a.eval o).run P w=.ok (.value (.bool (bif ne then !ad.isNone else ad.isNone))) w:=by
  intro ad m c he;have e0:a.eval (.const (.slice none 0 0))=.slice none 0 0:=rfl;have heq:∀k,(Op.equalIn (k+1) ty (.slice ad m c) (.slice none 0 0)).run P w=.ok ad.isNone w:=λk=>by
   cases ad<;>simp[Op.equalIn,run_underlying hu]
  have heq:(Op.equal ty (.slice ad m c) (.slice none 0 0)).run P w=.ok ad.isNone w:=heq 9999;cases ne<;>simp only[δ,ε]at ho⊢<;>simp only[execOp,ho,he,e0]
  .refine cT ?_;simp[eqGuard,binOp,heq]
  .refine cT ?_;simp[eqGuard,binOp,heq]
 have both:∀(ad:Option Addr)(m c:Nat),a.eval x=.slice ad m c->K (.d (.bool true)) t h/\K (.d (.bool false)) t h->o.wp P a w bV Q:=by
  intro ad m c he hk;refine an hC hn (v:=.d (.bool (bif ne then !ad.isNone else ad.isNone))) (run ad m c he) (.d (.bool _)) ?_;cases(bif ne then !ad.isNone else ad.isNone)
  grind
  grind
 have one:∀(ad:Addr)(m c:Nat),a.eval x=.slice (some ad) m c->K (.d (.bool ne)) t h->o.wp P a w bV Q:=by
  intro ad m c he hk;have:=run (some ad) m c he;exact an hC hn this (.d (.bool _)) (by grind)
 have data:∀(z:Nat)(r:List (List D)),bp G w (a.eval x) (.sl z r)->(match r with|[]=>K (.d (.bool true)) t h/\K (.d (.bool false)) t h|_::_=>K (.d (.bool ne)) t h)->o.wp P a w bV Q:=by
  intro z r hD hk;cases r with
  |nil=>
   obtain⟨ad,c,he,_⟩:=hD.len
   grind
  |cons r0 rs=>
   rcases hD.Rp with⟨_,h2⟩|⟨b,o,cap,U,he,_⟩
   grind
   grind
 simp only[bq]at hk;split at hk
 .rename_i z r hg;rw[hg]at hv;exact data z r hv.qu hk
 .rename_i z r hg;rw[hg]at hv;obtain⟨ad,m,he,hD⟩:=hv.PA
  grind
 .rename_i id hg;rw[hg]at hv;rw[get?_eq]at hk;split at hk
  .rename_i z r hcs;obtain⟨ad,c,he,_,hρ⟩:=w9 hC hv hcs;cases r with
   |nil=>grind
   |cons r0 rs=>
    rcases hC.ok.hr.rep id _ _ hρ hcs with⟨_,h2⟩|⟨b,cap,arr,ty',hb,_⟩
    grind
    grind
  grind
 grind
theorem TC(y:ak E n G ρ t h a w)(c:iQ E n a o K bV){ty e:TypeId}{zs:List V}(d:o.op=.buildSlice ty 0 #[])(f:P.underlying ty=some (.slice e))(g:rM P e=some zs)(u:bq S ow (.ns (P.cellsOf e)) t h K KP):o.wp P a w bV Q:=by
 have⟨i,z,j,_⟩:=jf (G:=G) (w:=w) (ρ := ρ) g;simp only[bq,bf,cZ]at u;have x:=y.push (gK.alloc w (.cells #[] e)) (.slice (some ⟨w.heap.size,0,none⟩) 0 0) (.rows (P.cellsOf e) []) (by intro b l;simp only[fO,aE]at l;omega)
  (.inr ⟨w.heap.size,0,#[],e,rfl,heap_alloc_new w _,aM _,by simp,by simp,by simp⟩)
 refine dU (v':=.slice (some ⟨w.heap.size,0,none⟩) 0 0) ?_ (c _ _ _ _ _ _ _ x (.k (.os h.length _ 0 0 (by rw[<-y.ok.hr.len];simp))) u);have v:(Instr.buildSlice ty 0 #[]).run P w=.ok (.slice (some ⟨w.heap.size,0,none⟩) 0 0) (w.alloc (.cells #[] e)):=by
  simp[Instr.buildSlice,Instr.fill,run_underlying f,sizeOf,typeInfo,j,newRow]
  grind
 simp only[execOp,d];simp_all
theorem TR(v:ak E n G ρ t h a w)(g:iQ E n a o K bV){ty t1 t2:TypeId}{x i:Operand}{ox e:O}(j:o.op=.index ty x i)(l:P.underlying ty=some .string)(p:cX P t1 x=some ox)(q:cX P t2 i=some e)
  (y:bq S ow (.ix ox e) t h K KP):o.wp P a w bV Q:=by
 have z:=bG v p;have u:=bG v q;simp only[bq]at y;split at y
 .rename_i s k m hgx c;rw[hgx]at z;rw[c]at u;obtain⟨r,A,rfl,_⟩:=z.str;have B:=u.int;have⟨b,⟨C,f⟩,y⟩:=y;have D:r[m.toNat]?=some b:=by
   rw[bt]at f;exact f
  refine an v g (v':=.int .u8 b.toNat) ?_ (.d (.int _ _)) y;simp[execOp,j,A,B,Instr.index,asIntOf,run_underlying l,C,D]
 grind
theorem au.X5{v:Value}{id z i:Nat}(h:au G w ρ v (.ov id z i)):∃a n c,ρ[id]?=some (.slice a n c)/\v=sliced a i n c z:=by
 cases h with|o h=>cases h with|c h=>cases h with|k h=>cases h with|ov _ _ _ _ a n c x y=>grind
theorem vU{α β:Type}{f:α->Option β}:∀{l:List α}{r:List β},l.mapM f=some r->r.length=l.length/\∀(k:Nat)(x:α)(y:β),l[k]?=some x->r[k]?=some y->f x=some y:=by
 intro l
 induction l with
 |nil=>grind
 |cons x l z=>
  intro r h;simp only[iU,aI,aD,jK,aE]at h
  grind
theorem JS{v:Value}{x:V}{d:D}(y:dL G w ρ v x)(hd:SB x=some d):bp G w v d:=by
 cases y<;>simp only[SB,reduceCtorEq,aE]at hd
 grind
 .subst hd;exact .xg _
theorem QN (hC : ak E n G ρ t h a w) (hn : iQ E n a o K bV) {ty e t1 : TypeId} {zs : List V} {ds : List D} {x : Operand} {ox : O} (ho : o.op = .call { callee := .builtin .clear, args := #[x], argTypes := #[ty] }) (hu : P.underlying ty = some (.slice e)) (hz : rM P e = some zs)
    (hd:zs.mapM SB=some ds) (hzl:zs.length=P.cellsOf e) (hz0:P.cellsOf e≠0) (hx:cX P t1 x=some ox) (hk:bq S ow (.fo ox ds (P.cellsOf e)) t h K KP):o.wp P a w bV Q:=by
  have hv:=bG hC hx
  have⟨it,z,hi,hz1,hzs,hst,hzr⟩:=jf (G:=G) (w:=w) (ρ := ρ) hz
  have⟨hdl,hdg⟩:=vU hd
  have hci:P.cellsOf e=it.size:=by simp[Program.cellsOf,hi]
  generalize hzz:P.cellsOf e=zz at *
  simp only[bq]at hk
  split at hk
  · rename_i id z' i hg
    rw[hg]at hv
    rw[get?_eq]at hk
    split at hk
    · rename_i z'' r hcs
      have⟨⟨k1,k2,k3⟩,hk⟩:=hk
      obtain rfl:=kH k1
      obtain rfl:=kH k2
      have k3:=bA k3
      rw[bf]at hk
      have⟨ad,m,c,hρ,hval⟩:=hv.X5
      have hrep:=hC.ok.hr.rep id _ _ hρ hcs
      have hlc:m=r.length/\m<=c:=by
        rcases hrep with⟨he,rfl⟩|⟨b,cap,arr,ty,he,h1,h2,_⟩
        grind
        grind
      obtain⟨rfl,hmc⟩:=hlc
      have runs:∀(v:Value)(w':World),a.eval x=v->(Builtin.clear_ #[ty] o.type #[v]).run P w=.ok (.tuple #[]) w'->(execOp a.eval o).run P w=.ok (.value (.tuple #[])) w':=by
        intro v w' he hr
        simp[execOp,ho,resolve,invoke,builtin,he,hr]
      by_cases hil:i=r.length
      · have hsame:h.set id (.rows z'' (r.take i++List.replicate (r.length-i) ds))=h:=by
          rw[hil,cO,qm,List.replicate_zero,cV]
          exact mh hcs
        rw[hsame]at hk
        refine dU (runs _ w hval ?_) (hn _ _ _ _ _ _ _ hC (.tu #[] [] rfl (by simp)) hk)
        subst hil
        simp only[sliced,qm]
        cases(if c=r.length then ad else ad.map (·.add (r.length*z'')))<;>simp[Builtin.clear_,run_underlying hu]
      · have hil:i<r.length:=by omega
        rcases hrep with⟨_,rfl⟩|⟨b,cap,arr,ty',he,h1,h2,h3,h4,h5⟩
        grind
        simp only[Value.slice.injEq]at he
        obtain⟨rfl,_,rfl⟩:=he
        have hv2:a.eval x=.slice (some ⟨b,i*z'',none⟩) (r.length-i) (c-i):=by
          rw[hval]
          simp[sliced,show ¬c=i by omega,dx]
        have hz'':it.size=z'':=hci.symm
        have hzc:z.cells.size=z'':=by grind
        have hzpos:0<z'':=by omega
        have hmul:(r.length-i)*z''+i*z''=r.length*z'':=by rw[<-iT];grind
        have hle:r.length*z''<=c*z'':=bB _ h2
        have hnl:(Builtin.zeroCells z.cells (r.length-i)).toList.length=(r.length-i)*z'':=by simp[Builtin.zeroCells,hzc]
        have hng:∀k,k<(r.length-i)*z''->(Builtin.zeroCells z.cells (r.length-i)).toList[k]?=some (z.cells.getD (k % z'') undef):=by
          intro k hk
          have hml:k % z''<z.cells.size:=by rw[hzc];exact Nat.mod_lt _ hzpos
          simp only[Builtin.zeroCells,bt,gQ,hzc,Array.getElem?_range,hk,if_true,bE,aE]
          rw[getElem!_pos z.cells _ hml,aF,aN hml]
          rfl
        have hzj:∀j,j<z''->∃x,zs[j]?=some x/\dL G w ρ (z.cells.getD j undef) x:=λj hj=>by
          have hjl:j<zs.length:=by grind
          exact⟨zs[j],aA hjl,(hzr j _ (aA hjl)).1⟩
        have hone:∀u∈(Builtin.zeroCells z.cells (r.length-i)).toList,u.oneCell'=true:=by
          intro u hu
          have⟨k,hk⟩:=aj.1 hu
          have hkl:k<(r.length-i)*z'':=by grind
          rw[hng k hkl]at hk
          cases hk
          have⟨y,hy,hr⟩:=hzj (k % z'') (Nat.mod_lt _ hzpos)
          exact A9 (.k hr) (aS.1 hst y (aJ hy))
        have hrun:=run_storeCells_at (P:=P) b (i*z'') ty' (Builtin.zeroCells z.cells (r.length-i)).toList 0 arr w h1 (by grind) hone
        rw[eQ,hnl]at hrun
        have hC':=hC.F3 (w':=w.setRow b (arr.toList.take (i*z'')++(Builtin.zeroCells z.cells (r.length-i)).toList++arr.toList.drop (i*z''+(r.length-i)*z'')).toArray) (x1:=.rows z'' (r.take i++List.replicate (r.length-i) ds)) hρ hcs (by simp) (by simp)
          (λc hc=>setRow_other w b c _ (by simp only[fO,ne_eq,aE]at hc;omega)) rfl rfl rfl
          (.inr ⟨b,c,_,ty',by grind,setRow_heap w b arr _ ty' _ h1,by grind,h3,by
            grind,λi' row hi'=>by
            have hs':∀c,G c->(w.setRow b (arr.toList.take (i*z'')++(Builtin.zeroCells z.cells (r.length-i)).toList++arr.toList.drop (i*z''+(r.length-i)*z'')).toArray).heap[c]?=w.heap[c]?:=λc hc=>setRow_other w b c _ (λe=>by
              subst e;exact hC.ok.hr.gd c hc ⟨id,_,_,hρ,hcs,by simp,bR.2 (.inl rfl)⟩)
            have hgetr:=λk=>nh (arr:=arr) (off:=i*z'') hnl (by omega) k
            by_cases hii:i'<i
            · rw[aT (by grind),ao,ζ hii]at hi'
              have⟨g1,g2⟩:=h5 i' row hi'
              refine⟨g1,λj x hj=>?_⟩
              have hjl:j<z'':=by grind
              have:i'*z''+z''<=i*z'':=by
                have:=bB z'' (show i'+1<=i by omega)
                grind
              rw[hgetr,η (by omega)]
              exact(g2 j x hj).mono (λ_ h=>h) hs'
            · rw [aY (by grind)] at hi'
              have hmin:(r.take i).length=i:=by grind
              rw[hmin,List.getElem?_replicate]at hi'
              split at hi'
              · rename_i hlt
                cases hi'
                refine⟨by grind,λj x hj=>?_⟩
                have hjl:j<z'':=by grind
                have hi1:i'*z''=i*z''+(i'-i)*z'':=by rw[<-iT];grind
                have hi2:(i'-i)*z''+z''<=(r.length-i)*z'':=by
                  have:=bB z'' (show(i'-i)+1<=r.length-i by omega)
                  grind
                rw[hgetr,ζ ⟨by omega,by omega⟩]
                have hk:i'*z''+j-i*z''=j+(i'-i)*z'':=by omega
                rw[hk,a8,hng _ (by omega),Nat.add_mul_mod_self_right,dQ hjl]
                have⟨y,hy,hr⟩:=hzj j hjl
                exact(JS hr (hdg j y x hy hj)).mono (λ_ h=>h) hs'
              grind⟩)
        refine dU (runs _ _ hv2 ?_) (hn _ _ _ _ _ _ _ hC' (.tu #[] [] rfl (by simp)) hk)
        have hn0:¬(r.length-i=0):=by omega
        have⟨k,hk⟩:=Nat.exists_eq_succ_of_ne_zero hn0
        rw[hk]at hrun⊢
        simp[Builtin.clear_,run_underlying hu,zeroValue,typeInfo,hi,hz1,hrun]
    grind
  grind
end
open Go.MapKept
section
variable{P:Program}{E:gL}{n:Nat}{G:Nat->Prop}{ρ ρ':List Value}{t:T}{h:H}{a:Act}{w:World}{o:Oper}{bV:Act->World->Prop}{Q:Exit->Act->World->Prop}{K KP:V->T->H->Prop}
variable(S:Nat->List V->H->(Out->H->Prop)->Prop)(ow:Nat->Bool)
theorem Gt{v:Value}(h:bp G w v .nm):v=.map none:=by cases h;rfl
theorem Am{α β:Type}(g:α->β)(f:α->α)(y:∀x,g (f x)=g x):∀(l:List α)(i:Nat),(l.modify i f).map g=l.map g:=by
 intro l
 induction l with
 |nil=>grind
 |cons x l z=>
  grind
theorem s_{arr:Array MapEntry}{clk i:Nat}{f:MapEntry->MapEntry}(u:∀e,(f e).born=e.born)(h:ord arr clk):ord (arr.modify i f) clk:=by
 have e:((arr.modify i f).toList.map (·.born))=arr.toList.map (·.born):=by
  rw[Array.toList_modify];exact Am _ _ u _ _
 refine⟨λx v=>?_,by rw[e];exact h.2⟩;have:x.born∈(arr.modify i f).toList.map (·.born):=bJ.2 ⟨x,v,rfl⟩;rw[e]at this;have⟨y,b,z⟩:=bJ.1 this;rw[<-z];exact h.1 y b
theorem yQ{arr:Array MapEntry}{clk:Nat}{e:MapEntry}(he:e.born=clk)(h:ord arr clk):ord (arr.push e) (clk+1):=by
 refine⟨λx u=>?_,?_⟩
 .rw[Array.toList_push]at u;rcases aR.1 u with u|u
  .have:=h.1 x u;omega
  grind
 .rw[Array.toList_push,bZ,List.pairwise_append];refine⟨h.2,by simp,λx u y v=>?_⟩;simp at v;subst v;obtain⟨z,b,rfl⟩:=bJ.1 u;have:=h.1 z b;omega
theorem vP{arr:Array MapEntry}{clk i:Nat}(h:ord arr clk):ord (arr.eraseIdxIfInBounds i) clk:=by
 have hs:(arr.eraseIdxIfInBounds i).toList.Sublist arr.toList:=by
  unfold Array.eraseIdxIfInBounds;split
  .simp only[Array.toList_eraseIdx];grind
  grind
 exact⟨λx y=>h.1 x (hs.subset y),h.2.sublist (hs.map _)⟩
theorem vu{ty:TypeId}{m:V}(A:zk P ty=some m):∃z,(zeroValue ty).run P w=.ok z w/\dM G w ρ z m/\jJ m=[]:=by
 simp only[zk,aI,aD]at A;have⟨zs,p,i,B,z,b,q⟩:=A;have⟨M,N,d,g,C,u,D⟩:=jf (G:=G) (w:=w) (ρ := ρ) p;rw[B]at d;cases d;rw[b]at g;cases g;refine⟨z,by simp[zeroValue,typeInfo,B,b],?_⟩;have hid:∀(v:V),ij v=[]->(∀f c,v≠.fc f c)->kI v=[]:=λv F I=>by cases v<;>first|exact F|exact absurd rfl (I _ _)
 have r:∀{v:Value}{x:V},dL G w ρ v x->∀f c,x≠.fc f c:=by
  intro v x y f c e;subst e;cases y
 have s:∀{v:Value}{x:V},dL G w ρ v x->∀c,x≠.ag c:=by
  intro v x y c e;subst e;cases y
 clear u;split at q
 .cases q;refine⟨.ag _ _ (by assumption) (λj x y=>.k (by simpa[Value.cells]using(D j x y).1)),?_⟩;simp only[jJ,br];intro x y;have⟨j,O⟩:=aj.1 y
  grind
 .rename_i x l;cases q;have y:=D 0 _ rfl;have J:z.cells=#[z]:=by
   cases z<;>first|rfl|exact absurd rfl (l _)
  rw[J]at y;refine⟨.c (.k y.1),?_⟩;have L:=hid _ y.2 (r y.1);have C:=s y.1;cases m<;>first|exact L|exact absurd rfl (C _)
 grind
theorem Ok.view(hO:Ok E G w ρ h){h':H}(hp:∀(i:Nat)(v:Value),ρ[i]?=some v->ρ'[i]?=some v)(hl:ρ'.length=h'.length)(hle:h.length<=h'.length)
  (rep:∀(i:Nat)(v:Value)(y:B),ρ'[i]?=some v->h'[i]?=some y->y≠.no->cY G w ρ' v y)
  (src:∀(i:Nat) (v:Value) (y:B) (b:Nat),ρ'[i]? = some v→h'[i]? = some y→y≠.no→b∈eU v y→∃(j:Nat) (u:Value) (x:B),ρ[j]? = some u∧h[j]? = some x∧x≠.no∧b∈eU u x ∧
   ∀(i':Nat)(v':Value)(y':B),ρ'[i']?=some v'->h'[i']?=some y'->y'≠.no->b∈eU v' y'->i'=i):Ok E G w ρ' h':=by
 have hown:∀b,own ρ' h' b->own ρ h b:=λb ⟨i,v,y,h1,h2,h3,h4⟩=>by
  have⟨j,u,x,g1,g2,g3,g4,_⟩:=src i v y b h1 h2 h3 h4;exact⟨j,u,x,g1,g2,g3,g4⟩
 refine⟨⟨hl,λi v y h1 h2=>?_,λi i' v v' y y' b h1 h2 h3 h4 h5 h6 h7 h8=>?_,hO.hr.gl,λb hb ho=>hO.hr.gd b hb (hown b ho),hO.hr.sF⟩,hO.gm,hO.go,λb hb=>hO.oo b (hown b hb),hO.frame,hO.size,hO.os,hO.tape,hO.out,
  λi v hv hs=>hp i v (hO.hand i v hv hs),aV hO.hl hle,λr hr=>let⟨g1,g2,g3⟩:=hO.sC r hr;⟨g1,g2,λg4=>g3 (hown r g4)⟩⟩
 .by_cases hy:y=.no
  .subst hy;trivial
  grind
 grind
theorem fT{i j:Nat}{x:Option (Option Nat×List (List D))}{es:List ME}:(eM i x es)[j]?=if i=j then(es[j]?).map λe=>(e.1,x)else es[j]?:=by
 unfold eM
 grind
theorem my{i:Nat}{x:Option (Option Nat×List (List D))}{es:List ME}:(eM i x es).length=es.length:=by simp[eM]
theorem ly{i b:Nat}{x:Option (Option Nat×List (List D))}{es:List ME}(h:b∈BM (eM i x es)):(∃(j:Nat)(k:List UInt8×List UInt8)(rs:List (List D)),j≠i/\es[j]?=some (k,some (some b,rs)))\/∃rs,x=some (some b,rs):=by
 have⟨j,k,rs,y⟩:=eI.1 h;rw[fT]at y
 grind
theorem tE{i:Nat}{x:Option (Option Nat×List (List D))}{es:List ME}(v:Gm es)(c:∀b rs,x=some (some b,rs)->∀(j:Nat)(k:List UInt8×List UInt8)(y:List (List D)),j≠i->es[j]?≠some (k,some (some b,y))) :
  Gm (eM i x es):=by
 intro d j k e rs y b z u;rw[fT]at z u;split at z<;>split at u
 grind
 grind
 grind
 .exact v _ _ _ _ _ _ _ z u
theorem ak.Pz(hC:ak E n G ρ t h a w){id m z z' i:Nat}{es:List ME}{it:Option (Nat×It)}{rs:List (List D)}(hx:h[id]?=some (.ms z es (some (i,.os m)) it))(hm:h[m]?=some (.rows z' rs))(hz:z=z') :
    ∃b,ak E n G ρ (ju m t) (((h.map (gV m)).set m .no).set id (.ms z (eM i (some (b,rs)) es) none it)) a w:=by
  subst hz
  have hO:=hC.ok
  have hr:=hO.hr
  have hil:id<ρ.length:=by rw[hr.len];grind
  have hml:m<ρ.length:=by rw[hr.len];grind
  have hne:m≠id:=λe=>by grind
  have hv:=aA hil
  have hv0:=aA hml
  have hrm:=hr.rep m _ _ hv0 hm
  have⟨⟨r,arr,clk,e0,h1,h2,h3,h4,h5,h6,h7⟩,hit⟩:=hr.rep id _ _ hv hx
  generalize hgm:ρ[m]=v0 at *
  generalize hgi:ρ[id]=v at *
  have hsl:kN v0=true:=by
    rcases hrm with⟨e,_⟩|⟨_,_,_,_,e,_⟩<;>rw[e]<;>rfl
  have hpb:∀b,fO v0=some b->b∉eU v (.ms z es (some (i,.os m)) it):=λb hb hb2=>hne (hr.oB m id v0 v _ _ b hv0 hm (by simp) hv hx (by simp) (bR.2 (.inl hb)) hb2)
  have hset:=mh hv0
  have get:∀(j:Nat)(y:B),(((h.map (gV m)).set m .no).set id (.ms z (eM i (some (fO v0,rs)) es) none it))[j]?=some y->y≠.no->(j=id/\y=.ms z (eM i (some (fO v0,rs)) es) none it)\/(j≠id/\j≠m/\∃y0,h[j]?=some y0/\y=gV m y0):=by
    grind
  have kno:∀y0:B,gV m y0≠.no->y0≠.no:=λy0 h e=>h (by rw[e];rfl)
  have new:∀b,b∈eU v (.ms z (eM i (some (fO v0,rs)) es) none it)->b∈eU v (.ms z es (some (i,.os m)) it)\/fO v0=some b:=by
    intro b hb
    rcases bR.1 hb with hb|hb
    · exact .inl (bR.2 (.inl hb))
    · simp only[gh,aR]at hb
      rcases hb with hb|hb
      · rcases ly hb with⟨j,k,rs',_,hj⟩|⟨rs',e⟩
        · exact .inl (bR.2 (.inr (by simp only[gh,aR];exact .inl (eI.2 ⟨j,k,rs',hj⟩))))
        grind
      · exact .inl (bR.2 (.inr (by simp only[gh,aR];grind)))
  have hrep:cY G w ρ v (.ms z (eM i (some (fO v0,rs)) es) none it):=by
    have hgE:∀b,b∈BM es->b∈eU v (.ms z es (some (i,.os m)) it):=λb hb=>bR.2 (.inr (by simp only[gh,aR];grind))
    refine⟨⟨r,arr,clk,e0,h1,by rw[my];grind,h3,⟨tE h4.1 λb rs' e j k rs2 _ hj=>?_,λhb=>?_⟩,λj e x he hj=>?_,λj v h=>(by cases h),λj v e h=>by cases h⟩,?_⟩
    · have⟨e,_⟩:=Prod.mk.inj (aq e)
      exact hpb b e (hgE b (eI.2 ⟨j,k,rs2,hj⟩))
    · rcases ly hb with⟨j,k,rs',_,hj⟩|⟨rs',e⟩
      · exact h4.2 (eI.2 ⟨j,k,rs',hj⟩)
      · have⟨e,_⟩:=Prod.mk.inj (aq e)
        exact hpb r e (bR.2 (.inl (by rw[e0];rfl)))
    · rw [fT] at hj
      split at hj
      · rename_i e1
        subst e1
        rw[aG]at hj
        obtain⟨x0,hx0,rfl⟩:=hj
        refine⟨(h5 i e x0 he hx0).1,λb rs' e2=>?_⟩
        cases e2
        have h8:=h7 i _ e rfl he
        have h9:e.val=v0:=by
          generalize e.val=u at h8
          cases h8 with
          |k h8=>cases h8 with
            |os _ a n c h8=>grind
        rw[h9]
        exact⟨rfl,hrm⟩
      grind
    · match it,hit,hpb with
      |none,_,_=>trivial
      |some (q,l),hit,hpb=>
        refine⟨hit.1,λhb=>?_⟩
        rcases ly hb with⟨j,k,rs',_,hj⟩|⟨rs',e⟩
        · exact hit.2 (eI.2 ⟨j,k,rs',hj⟩)
        · have⟨e,_⟩:=Prod.mk.inj (aq e)
          exact hpb q e (bR.2 (.inr (by simp[gh,Np])))
  refine⟨fO v0,⟨hO.view (ρ':= ρ) (λ_ _ h=>h) (by simp[hr.len]) (by simp) (λj u y g1 g2 g3=>?_) (λj u y b g1 g2 g3 g4=>?_),hC.df,hC.sz,λj=>?_⟩⟩
  · rcases get j y g2 g3 with⟨rfl,rfl⟩|⟨_,_,y0,k1,rfl⟩
    grind
    · have:=(hr.rep j u y0 g1 k1).tX (v1:=v0) hv0 hsl
      grind
  · rcases get j y g2 g3 with⟨rfl,rfl⟩|⟨hj1,hj2,y0,k1,rfl⟩
    · rw [hv] at g1; cases g1
      rcases new b g4 with hb|hb
      · refine⟨j,v,_,hv,hx,by simp,hb,λj' u' y' q1 q2 q3 q4=>?_⟩
        rcases get j' y' q2 q3 with⟨rfl,_⟩|⟨_,_,y1,p1,rfl⟩
        rfl
        · rw[eU,ny]at q4
          exact hr.oB j' j u' v y1 _ b q1 p1 (kno _ q3) hv hx (by simp) q4 hb
      · refine⟨m,v0,_,hv0,hm,by simp,bR.2 (.inl hb),λj' u' y' q1 q2 q3 q4=>?_⟩
        rcases get j' y' q2 q3 with⟨rfl,_⟩|⟨_,p0,y1,p1,rfl⟩
        rfl
        · rw[eU,ny]at q4
          exact absurd (hr.oB j' m u' v0 y1 _ b q1 p1 (kno _ q3) hv0 hm (by simp) q4 (bR.2 (.inl hb))) p0
    · rw[eU,ny]at g4
      refine⟨j,u,y0,g1,k1,kno _ g3,g4,λj' u' y' q1 q2 q3 q4=>?_⟩
      rcases get j' y' q2 q3 with⟨rfl,rfl⟩|⟨_,_,y1,p1,rfl⟩
      · rw[hv]at q1;cases q1
        rcases new b q4 with hb|hb
        · exact hr.oB j' j v u _ y0 b hv hx (by simp) g1 k1 (kno _ g3) hb g4
        · exact absurd (hr.oB m j v0 u _ y0 b hv0 hm (by simp) g1 k1 (kno _ g3) (bR.2 (.inl hb)) g4).symm hj2
      · rw[eU,ny]at q4
        exact hr.oB j' j u' u y1 y0 b q1 p1 (kno _ q3) g1 k1 (kno _ g3) q4 g4
  · rw[ju,q6 _ rfl]
    have:=(hC.tm j).tX (v1:=v0) hv0 hsl
    grind
theorem ak.WA(y:ak E n G ρ t h a w){id:Nat}{x x1:B}(c:h[id]?=some x)(d:x≠.no)(e:∀v,ρ[id]?=some v->cY G w ρ v x->cY G w ρ v x1)(f:∀b∈gh x1,b∈gh x):ak E n G ρ t (h.set id x1) a w:=by
 have z:id<ρ.length:=by rw[y.ok.hr.len];grind
 have u:=aA z;exact y.sP u c d (aM _) (λ_ _ _=>rfl) rfl rfl rfl (e _ u (y.ok.hr.rep id _ _ u c)) (λb g=>.inl (bR.2 (.inr (f b g))))
theorem wC{KK:T->H->Prop}(y:ak E n G ρ t h a w){id:Nat}(x:NQ id t h KK):∃t' u,ak E n G ρ t' u a w/\KK t' u:=by
 unfold NQ at x;rw[get?_eq]at x;split at x
 .rename_i z es i v it c;split at x
  .rename_i m;rw[get?_eq]at x;split at x
   .rename_i j rs d;have⟨e,x⟩:=x;have⟨b,f⟩:=y.Pz c d (eH e);have x:=x b;simp only[jR,f_]at x
    grind
   grind
  .simp only[f_]at x;exact⟨_,_,y.WA (x1:=.ms z es none it) c (by simp) (λv _ hr=>⟨hr.1.drop,hr.2⟩) (λb g=>g),x⟩
 grind
theorem wB{KK:T->H->Prop}:∀(l:List Nat){t:T}{h:H},ak E n G ρ t h a w->Fg l t h KK->∃t' y,ak E n G ρ t' y a w/\KK t' y
 |[],_,_,z,x=>⟨_,_,z,x⟩
 |i::l,t,h,z,x=>by
  rw[Df]at x;have⟨t',y,u,v⟩:=wC z x;exact wB l u v
theorem Qe{KK:T->H->Prop}{l:List Nat}{t:T}{h:H}(y:ak E n G ρ t h a w)(x:Tw l t h KK):∃t' z,ak E n G ρ t' z a w/\KK t' z:=by
 cases l with
 |nil=>exact⟨_,_,y,x⟩
 |cons i r=>exact x.elim (λx=>⟨_,_,y,x⟩) λx=>wB _ y x
theorem ak.taken(Y:ak E n G ρ t h a w){id z i:Nat}{es:List ME}{it:Option (Nat×It)}{k:List UInt8×List UInt8}{b:Option Nat}{rs:List (List D)}(M:h[id]?=some (.ms z es none it))(Z:es[i]?=some (k,some (b,rs))) :
  ∃r arr clk e,ρ[id]?=some (.map (some r))/\w.heap[r]?=some (.map arr clk)/\arr[i]?=some e/\kN e.val=true/\ak E n G (ρ++[e.val]) t (h.set id (.ms z (eM i none es) (some (i,.os h.length)) it)++[.rows z rs]) a w:=by
 have hO:=Y.ok;have hr:=hO.hr;have hil:id<ρ.length:=by rw[hr.len];grind
 have hihl:id<h.length:=by grind
 have C:=aA hil;have⟨⟨r,arr,clk,e0,h1,h2,h3,h4,h5,h6,h7⟩,m⟩:=hr.rep id _ _ C M;have hia:i<arr.size:=by grind
 have he:=aN hia;generalize hge:arr[i]=e at he;have⟨hke,p⟩:=h5 i e _ he Z;have⟨hb,p⟩:=p b rs rfl;have N:kN e.val=true:=by
  rcases p with⟨e,_⟩|⟨_,_,_,_,e,_⟩<;>rw[e]<;>rfl
 refine⟨r,arr,clk,e,by grind,h1,he,N,?_⟩;rw[e0]at C;have F:∀j,j<ρ.length->(ρ++[e.val])[j]?=ρ[j]?:=λj g=>aT g;have I:(ρ++[e.val])[h.length]?=some e.val:=by rw[<-hr.len];simp
 have get:∀(j:Nat)(u:Value)(y:B),(ρ++[e.val])[j]?=some u->(h.set id (.ms z (eM i none es) (some (i,.os h.length)) it)++[.rows z rs])[j]?=some y ->
   (j=id/\u=.map (some r)/\y=.ms z (eM i none es) (some (i,.os h.length)) it)\/(j=h.length/\u=e.val/\y=.rows z rs)\/(j≠id/\j<h.length/\ρ[j]?=some u/\h[j]?=some y):=by
  intro j u y g1 g2
  by_cases g:j<h.length
  grind
  grind
 have iE:∀c,c∈eU (.map (some r)) (.ms z (eM i none es) (some (i,.os h.length)) it)->c∈eU (.map (some r)) (.ms z es none it)/\b≠some c:=by
  intro c f;have hib:∀s d j,j≠i->es[j]?=some (s,some (some c,d))->b≠some c:=λs d j g h8 W=>g (by subst W;exact h4.1 _ _ _ _ _ _ _ h8 Z);rcases bR.1 f with f|f
  .refine⟨bR.2 (.inl f),λW=>?_⟩;subst W;simp only[fO,aE]at f;subst f;exact h4.2 (eI.2 ⟨i,k,rs,Z⟩)
  .simp only[gh,aR]at f;rcases f with f|f
   .rcases ly f with⟨j,s,d,g,h8⟩|⟨_,W⟩
    .exact⟨bR.2 (.inr (by simp only[gh,aR];exact .inl (eI.2 ⟨j,s,d,h8⟩))),hib s d j g h8⟩
    grind
   .refine⟨bR.2 (.inr (by simp only[gh,aR];grind)),λW=>?_⟩;subst W
    match it,m,f with
    |some (q,l),m,f=>
     simp only[Np,aL]at f;subst f;exact m.2 (eI.2 ⟨i,k,rs,Z⟩)
 have new:∀c,c∈eU e.val (.rows z rs)->c∈eU (.map (some r)) (.ms z es none it)/\b=some c:=by
  intro c f;have f:=(fi).1 f;rw[hb]at f;subst f;exact⟨bR.2 (.inr (by simp only[gh,aR];exact .inl (eI.2 ⟨i,k,rs,Z⟩))),rfl⟩
 have O:∀(v:Value)(y:B),cY G w ρ v y->y≠.no->cY G w (ρ++[e.val]) v y:=λv y hy hn=>hy.mono (λ_ h=>h) (λ_ _=>rfl) (λ_ _=>rfl) (λj g=>F j (hy.lt j g));refine⟨hO.view (ρ':= ρ++[e.val]) (λj u hu=>by grind) (by simp[hr.len]) (by simp) (λj u y g1 g2 g3=>?_) (λj u y c g1 g2 g3 X=>?_),Y.df,Y.sz,λj=>(Y.tm j).mono (λ_ h=>h) (λ_ _=>rfl) (λq hq=>F q ((Y.tm j).lt q hq))⟩
 .rcases get j u y g1 g2 with⟨rfl,rfl,rfl⟩|⟨rfl,rfl,rfl⟩|⟨_,_,k1,k2⟩
  .refine⟨⟨r,arr,clk,rfl,h1,by rw[my];grind,h3,⟨tE h4.1 λb d e=>(by cases e),λhb=>?_⟩,λj e' x R g=>?_,λj v h=>?_,λj v e' h R=>?_⟩,?_⟩
   .rcases ly hb with⟨j,s,d,_,g⟩|⟨d,e⟩
    .exact h4.2 (eI.2 ⟨j,s,d,g⟩)
    grind
   .rw[fT]at g
    grind
   .cases h;rw[my];grind
   .cases h;rw[he]at R;cases R;refine .k ?_;generalize e.val=u at N I;cases u<;>first|(cases N;done)|skip
    exact .os _ _ _ _ I
   .match it,m with
    |none,_=>trivial
    |some (q,l),m=>
     refine⟨?_,λhb=>?_⟩
     .rw[<-e0];exact m.1
     rcases ly hb with⟨j,s,d,_,g⟩|⟨d,e⟩
     .exact m.2 (eI.2 ⟨j,s,d,g⟩)
     grind
  .exact p
  .exact O _ _ (hr.rep j u y k1 k2) g3
 .rcases get j u y g1 g2 with⟨rfl,rfl,rfl⟩|⟨rfl,rfl,rfl⟩|⟨g,hjl,k1,k2⟩
  .have⟨o1,o2⟩:=iE c X;refine⟨j,_,_,C,M,by simp,o1,λA J L q1 q2 q3 U=>?_⟩;rcases get A J L q1 q2 with⟨rfl,rfl,rfl⟩|⟨rfl,rfl,rfl⟩|⟨_,_,p1,p2⟩
   rfl
   grind
   .exact hr.oB A j J _ L _ c p1 p2 q3 C M (by simp) U o1
  .have⟨o1,o2⟩:=new c X;refine⟨id,_,_,C,M,by simp,o1,λA J L q1 q2 q3 U=>?_⟩;rcases get A J L q1 q2 with⟨rfl,rfl,rfl⟩|⟨rfl,rfl,rfl⟩|⟨p0,_,p1,p2⟩
   grind
   rfl
   .exact absurd (hr.oB A id J _ L _ c p1 p2 q3 C M (by simp) U o1) p0
  .refine⟨j,u,y,k1,k2,g3,X,λA J L q1 q2 q3 U=>?_⟩;rcases get A J L q1 q2 with⟨rfl,rfl,rfl⟩|⟨rfl,rfl,rfl⟩|⟨_,_,p1,p2⟩
   .exact hr.oB A j _ u _ y c C M (by simp) k1 k2 g3 (iE c U).1 X
   .exact absurd (hr.oB id j _ u _ y c C M (by simp) k1 k2 g3 (new c U).1 X) (λe=>g e.symm)
   .exact hr.oB A j J u L y c p1 p2 q3 k1 k2 g3 U X
end
end Go.Vx
