/- Lemmas. Conditions: none. -/
import Derived.Test.YtjpgfgajkjhonaaGreatDoorQRAE
namespace Go.Vx
section
variable{P:Program}{E:gL}{n:Nat}{G:Nat->Prop}{ρ:List Value}{t:T}{h:H}{a:Act}{w:World}{o:Oper}{bV:Act->World->Prop}{Q:Exit->Act->World->Prop}{K KP:V->T->H->Prop}
variable(S:Nat->List V->H->(Out->H->Prop)->Prop)(ow:Nat->Bool)
theorem MY{ty e:TypeId}(x:P.underlying ty=some (.slice e)):P.underlying ty=some (.slice (P.elem ty)):=by
 rw[x];simp[Program.elem,x]
theorem bp.part{f:Option Addr}{len y z l u m:Nat}{rows:List (List D)}(s:bp G w (.slice f len y) (.sl z rows))(I:l<=u)(q:u<=rows.length)(J:u<=m)(A:m<=y) :
  bp G w (sliced f l u m z) (.sl z ((rows.take u).drop l)):=by
 have v:((rows.take u).drop l).length=u-l:=by grind
 rcases s.Rp with⟨⟨a0,he⟩,rfl⟩|⟨b,o,c,U,he,g1,L,g3,B,M,C⟩
 .simp only[Value.slice.injEq]at he;obtain⟨rfl,_,rfl⟩:=he;simp at q A;subst q;have g:l=0:=by omega
  have k:m=0:=by omega
  subst g k;have:sliced f 0 0 0 z=.slice f 0 0:=by rfl
  grind
 .simp only[Value.slice.injEq]at he;obtain⟨rfl,rfl,rfl⟩:=he
  by_cases d:m=l
  .have p:u=l:=by omega
   subst p;have e:(rows.take u).drop u=[]:=et (by grind);rw[e];have:=bp.sl (G:=G) (w:=w) b o 0 z [] (λ_ _=>undef) (by simp) (by simp) g3 (by simp) (by simp) (by simp);simpa[sliced,d]using this
  .have F:sliced (some ⟨b,o,none⟩) l u m z=.slice (some ⟨b,o+l*z,none⟩) ((rows.take u).drop l).length (m-l):=by
    rw[v];simp[sliced,d,dx]
   rw[F];have get:∀(i:Nat)(row:List D),((rows.take u).drop l)[i]?=some row->rows[l+i]?=some row:=by
    grind
   refine .sl b _ _ z _ (λi j=>U (l+i) j) (by grind) (by omega) g3 (λi row hr=>B _ _ (get i row hr)) (λi row j x hr r=>?_) (λi row j x hr r=>C _ _ _ _ (get i row hr) r)
   grind
theorem w9(y:ak E n G ρ t h a w){v:Value}{id z:Nat}{r:List (List D)}(u:au G w ρ v (.os id))(d:h[id]?=some (.rows z r)) :
  ∃x c,v=.slice x r.length c/\r.length<=c/\ρ[id]?=some (.slice x r.length c):=by
 obtain⟨x,m,c,rfl,e⟩:=u.QG;rcases y.ok.hr.rep id _ _ e d with⟨he,rfl⟩|⟨b,f,arr,ty,he,g,i,_⟩
 grind
 grind
theorem Sy(F:ak E n G ρ t h a w)(hn:iQ E n a o K bV){ty e t1:TypeId}{x:Operand}{lo hi mx:Option Operand}{ox:O}{R I W:Option O}(M:o.op=.slice ty x lo hi mx)(hu:P.underlying ty=some (.slice e))
  (hz:P.cellsOf e≠0) (hx:cX P t1 x=some ox) (hlo:(lo=none/\R=none)\/∃y oy ty',lo=some y/\R=some oy/\cX P ty' y=some oy) (hhi:(hi=none/\I=none)\/∃y oy ty',hi=some y/\I=some oy/\cX P ty' y=some oy)
  (hmx:(mx=none/\W=none)\/∃y oy ty',mx=some y/\W=some oy/\cX P ty' y=some oy) (g:bq S ow (.s3 ox R I W (P.cellsOf e)) t h K KP):o.wp P a w bV Q:=by
 have q:=Cr (bG F hx);have z:=MY hu;have j:(sizeOf (P.elem ty)).run P w=.ok (P.cellsOf e) w:=by
  have:P.elem ty=e:=by grind
  rw[this];unfold Program.cellsOf at hz⊢;cases hie:P.info? e with
  |none=>grind
  |some ie=>simp[sizeOf,typeInfo,hie]
 have src:∀(i:Nat)(r:List (List D)),(dv (gv t ox)=.d (.sl i r)\/dv (gv t ox)=.cl i r)->∃p c,a.eval x=.slice p r.length c/\r.length<=c/\bp G w (.slice p r.length c) (.sl i r):=by
  intro i r s;have N:bp G w (a.eval x) (.sl i r):=by
   rcases s with s|s
   .rw[s]at q;exact q.qu
   .rw[s]at q;obtain⟨p,m,A,N⟩:=q.PA
    grind
  rcases N.Rp with⟨⟨a0,he⟩,rfl⟩|⟨b,o,c,U,he,g1,_⟩
  grind
  grind
 have J:∀l:Int,(∃k,(match R with|some lo=>gv t lo|none=>.d (.int .i64 0))=.d (.int k l))->(lo=none/\l=0)\/∃y k,lo=some y/\a.eval y=.int k l:=by
  rintro l ⟨k,hl⟩
  rcases hlo with⟨h1,B⟩|⟨y,oy,ty',h1,B,h3⟩
  grind
  .subst B;have:=bG F h3;simp only at hl;rw[hl]at this;exact .inr ⟨y,k,h1,this.int⟩
 simp only[bq]at g;split at g
 .skip
  rename_i kl l hl;have J:=J l ⟨kl,hl⟩;rcases hhi with⟨rfl,_⟩|⟨_,_,_,_,B,_⟩
  rotate_left
  grind
  rcases hmx with⟨rfl,_⟩|⟨_,_,_,_,B,_⟩
  rotate_left
  grind
  have fin:∀(i:Nat)(r:List (List D)),(dv (gv t ox)=.d (.sl i r)\/dv (gv t ox)=.cl i r)->((0<=l/\l<=r.length/\Nat.beq i (P.cellsOf e)=true)/\K (.d (.sl (P.cellsOf e) (r.drop l.toNat))) t h)->o.wp P a w bV Q:=by
   rintro i r s ⟨⟨g1,X,g3⟩,g⟩
   obtain rfl:=kH g3;obtain⟨p,c,A,L,N⟩:=src _ r s;have:=N.part (l:=l.toNat) (u:=r.length) (m:=c) (by omega) (aM _) L (aM _);rw[cO]at this;refine an F hn (v':=sliced p l.toNat r.length c (P.cellsOf e)) ?_ (.d this) g;rcases J with⟨rfl,rfl⟩|⟨y,k,rfl,Y⟩
   .simp[execOp,M,A,run_sliceAt_slice w ty _ _ _ _ z,run_slice_all w ty _ _ _ z,j]
   .simp[execOp,M,A,Y,run_sliceAt_slice w ty _ _ _ _ z,run_slice_l w ty _ _ _ z k l g1 X,j]
  split at g
  grind
  grind
  .rename_i id s;rw[get?_eq]at g;split at g
   .rename_i i r Z;obtain⟨⟨g1,X,g3⟩,g⟩:=g;obtain rfl:=kH g3;rw[s]at q;obtain⟨p,c,A,L,hρ⟩:=w9 F q Z;refine an F hn (v':=sliced p l.toNat r.length c (P.cellsOf e)) ?_ (.k (.ov id _ _ _ p r.length c hρ rfl)) g;rcases J with⟨rfl,rfl⟩|⟨y,k,rfl,Y⟩
    .simp[execOp,M,A,run_sliceAt_slice w ty _ _ _ _ z,run_slice_all w ty _ _ _ z,j]
    .simp[execOp,M,A,Y,run_sliceAt_slice w ty _ _ _ _ z,run_slice_l w ty _ _ _ z k l g1 X,j]
   grind
  grind
 .skip
  rename_i kl l I hl;have J:=J l ⟨kl,hl⟩;rcases hhi with⟨_,B⟩|⟨yh,oyh,tyh,rfl,B,hyh⟩
  grind
  cases B;rcases hmx with⟨rfl,_⟩|⟨_,_,_,_,B,_⟩
  rotate_left
  grind
  split at g
  .rename_i ku u hgu;have f:=bG F hyh;rw[hgu]at f;have f:=f.int;have fin:∀(i:Nat)(r:List (List D)),(dv (gv t ox)=.d (.sl i r)\/dv (gv t ox)=.cl i r)->((0<=l/\l<=u/\u<=r.length/\Nat.beq i (P.cellsOf e)=true)/\K (.d (.sl (P.cellsOf e) ((r.take u.toNat).drop l.toNat))) t h)->o.wp P a w bV Q:=by
    rintro i r s ⟨⟨g1,X,g3,g4⟩,g⟩
    obtain rfl:=kH g4;obtain⟨p,c,A,L,N⟩:=src _ r s;have:=N.part (l:=l.toNat) (u:=u.toNat) (m:=c) (by omega) (by omega) (by omega) (aM _);refine an F hn (v':=sliced p l.toNat u.toNat c (P.cellsOf e)) ?_ (.d this) g;rcases J with⟨rfl,rfl⟩|⟨y,k,rfl,Y⟩
    .have hr:=run_slice_h w ty p r.length c z ku u (by omega) (by omega);simp[execOp,M,A,f,run_sliceAt_slice w ty _ _ _ _ z,hr,j]
    .have hr:=run_slice_lh w ty p r.length c z k ku l u g1 X (by omega);simp[execOp,M,A,f,Y,run_sliceAt_slice w ty _ _ _ _ z,hr,j]
   split at g
   grind
   grind
   .rename_i id s;rw[get?_eq]at g;split at g
    .rename_i i r Z;simp only[jR,f_]at g;obtain⟨⟨g1,X,g3,g4⟩,g⟩:=g;obtain rfl:=kH g4;rw[s]at q;obtain⟨p,c,A,L,hρ⟩:=w9 F q Z;obtain⟨v0,hv0,N,hC'⟩:=F.free Z;rw[hρ]at hv0;cases hv0;have:=N.part (l:=l.toNat) (u:=u.toNat) (m:=c) (by omega) (by omega) (by omega) (aM _);refine an hC' hn (v':=sliced p l.toNat u.toNat c (P.cellsOf e)) ?_ (.d this) g;rcases J with⟨rfl,rfl⟩|⟨y,k,rfl,Y⟩
     .have hr:=run_slice_h w ty p r.length c z ku u (by omega) (by omega);simp[execOp,M,A,f,run_sliceAt_slice w ty _ _ _ _ z,hr,j]
     .have hr:=run_slice_lh w ty p r.length c z k ku l u g1 X (by omega);simp[execOp,M,A,f,Y,run_sliceAt_slice w ty _ _ _ _ z,hr,j]
    grind
   grind
  grind
 .skip
  rename_i kl l I W hl;have J:=J l ⟨kl,hl⟩;rcases hhi with⟨_,B⟩|⟨yh,oyh,tyh,rfl,B,hyh⟩
  grind
  cases B;rcases hmx with⟨_,B⟩|⟨ym,oym,tym,rfl,B,hym⟩
  grind
  cases B;split at g
  .rename_i ku u km v hgu hgm;have f:=bG F hyh;rw[hgu]at f;have f:=f.int;have C:=bG F hym;rw[hgm]at C;have C:=C.int;have fin:∀(i:Nat)(r:List (List D)),(dv (gv t ox)=.d (.sl i r)\/dv (gv t ox)=.cl i r)->((0<=l/\l<=u/\u=v/\u<=r.length/\Nat.beq i (P.cellsOf e)=true)/\K (.cl (P.cellsOf e) ((r.take u.toNat).drop l.toNat)) t h)->o.wp P a w bV Q:=by
    rintro i r s ⟨⟨g1,X,huv,g3,g4⟩,g⟩
    rw[<-huv]at C;obtain rfl:=kH g4;obtain⟨p,c,A,L,N⟩:=src _ r s;have:=N.part (l:=l.toNat) (u:=u.toNat) (m:=u.toNat) (by omega) (by omega) (by omega) (by omega);refine an F hn (v':=sliced p l.toNat u.toNat u.toNat (P.cellsOf e)) ?_ (.k (.cl _ _ _ _ this)) g;rcases J with⟨rfl,rfl⟩|⟨y,k,rfl,Y⟩
    .have hr:=run_slice_hm w ty p r.length c z ku km u u (by omega) (by omega) (by omega);simp[execOp,M,A,f,C,run_sliceAt_slice w ty _ _ _ _ z,hr,j]
    .have hr:=run_slice_lhm w ty p r.length c z k ku km l u u g1 X (by omega) (by omega);simp[execOp,M,A,f,C,Y,run_sliceAt_slice w ty _ _ _ _ z,hr,j]
   grind
  grind
 grind
theorem CF{v:Value}{x:V}(hr:au G w ρ v x)(y:uI x=true):dL G w ρ v x:=by
 cases hr with
 |o hr=>cases hr with
  |c hr=>cases hr with
   |k hr=>grind
   |fc=>cases y
  |ag=>cases y
 |tu=>cases y
theorem N9(hC:ak E n G ρ t h a w)(hn:iQ E n a o K bV){f F:Nat}{first caps cc:Array Operand}{oc:List O}(ho:o.op=.makeFunc (.func f) first caps)(hf:f<1000000)
    (hF:(F=f/\first=#[]/\cc=caps)\/(F=f+1000000/\caps=#[]/\cc=first))
    (hcaps:oc.length=cc.size/\∀(i:Nat)(x:O),oc[i]?=some x->∃y ty,cc[i]?=some y/\cX P ty y=some x)
    (hk:((Nat.blt F 1000000||!oc.isEmpty)&&oc.all λx=>uI (gv t x))=true/\K (.fc F (oc.map (gv t))) t h):o.wp P a w bV Q:=by
  have hk1:=hk.1
  rw[aP]at hk1
  have hv:JJ F (.func (.func f) (first.map a.eval) (caps.map a.eval)) (cc.map a.eval):=by
    rcases hF with⟨rfl,rfl,rfl⟩|⟨rfl,rfl,rfl⟩
    · exact .inl ⟨hf,by simp⟩
    · refine .inr ⟨?_,.inl ⟨f,rfl,hf,by simp⟩⟩
      have h2:¬(Nat.blt (f+1000000) 1000000=true):=by simp_all
      grind
  refine an hC hn (v':=.func (.func f) (first.map a.eval) (caps.map a.eval)) ?_ (.c (.fc F _ _ _ hv (by grind) (λi x hi=>?_))) hk.2
  · simp[execOp,ho,Instr.makeFunc]
  · rw [aB] at hi
    cases hc:oc[i]? with
    |none=>grind
    |some y=>
      rw[hc]at hi;cases hi
      have⟨yo,ty,h1,h2⟩:=hcaps.2 i y hc
      have hr:=bG hC h2
      have hall:=aS.1 hk1.2 y (aJ hc)
      have he:(cc.map a.eval).getD i undef=a.eval yo:=by
        simp_all
      rw[he]
      exact CF hr hall
theorem xK(place:Nat->Option (Nat×Nat)):∀(ps:List (Nat×Value))(qs:List (Nat×List V))(cells:Array Value)(cs:List V),ps.length=qs.length ->
  (∀(i:Nat)(p:Nat×Value)(q:Nat×List V),ps[i]?=some p->qs[i]?=some q->place p.1=some (q.1,q.2.length)/\q.1+q.2.length<=cells.size/\p.2.cells.size=q.2.length/\∀(j:Nat)(x:V),q.2[j]?=some x->dI G w ρ (p.2.cells.getD j undef) x) ->
  cells.size=cs.length->(∀(j:Nat)(x:V),cs[j]?=some x->dI G w ρ (cells.getD j undef) x) ->
  ∃out,Instr.fill place cells ps=some out/\out.size=cells.size/\∀(j:Nat)(x:V),(qs.foldl (λcs q=>lay cs q.1 q.2) cs)[j]?=some x->dI G w ρ (out.getD j undef) x:=by
 intro ps
 induction ps with
 |nil=>
  intro qs cells cs hl _ hs hr;have:qs=[]:=bP (by grind);subst this;exact⟨cells,rfl,rfl,hr⟩
 |cons p ps s=>
  intro qs cells cs hl g hs hr;cases qs with
  |nil=>grind
  |cons q qs=>
   obtain⟨i,v⟩:=p;obtain⟨A,M,N,B⟩:=g 0 (i,v) q rfl rfl;have y:∀(l:List Value)(st off:Nat)(cells:Array Value),off+st+l.length<=cells.size ->
     ((l.zipIdx st).foldl (λcs(c:Value×Nat)=>cs.setIfInBounds (off+c.2) c.1) cells).size=cells.size /\
     ∀j,((l.zipIdx st).foldl (λcs(c:Value×Nat)=>cs.setIfInBounds (off+c.2) c.1) cells)[j]?=if off+st<=j/\j<off+st+l.length then l[j-(off+st)]? else cells[j]?:=by
    intro l
    induction l with
    |nil=>intro st off cells _;refine⟨rfl,λj=>?_⟩;simp;omega
    |cons c l d=>
     intro st off cells e;simp only[aX]at e;obtain⟨f,m⟩:=d (st+1) off (cells.setIfInBounds (off+st) c) (by grind);simp only[List.zipIdx_cons,cQ]
     grind
   have C:(Instr.fill place cells ((i,v)::ps))=Instr.fill place (v.cells.zipIdx.foldl (λcs(c,j)=>cs.setIfInBounds (q.1+j) c) cells) ps:=by
    simp only[Instr.fill,A]
    grind
   have z:v.cells.zipIdx.foldl (λcs(c,j)=>cs.setIfInBounds (q.1+j) c) cells=((v.cells.toList.zipIdx 0).foldl (λcs(c:Value×Nat)=>cs.setIfInBounds (q.1+c.2) c.1) cells):=by
    rw[<-Array.foldl_toList]
    grind
   obtain⟨f,m⟩:=y v.cells.toList 0 q.1 cells (by grind);rw[C,z];obtain⟨out,o1,o2,O⟩:=s qs _ (lay cs q.1 q.2) (by grind) (λk D F I J=>by
    have:=g (k+1) D F (by grind) (by grind);rw[f];grind) (by rw[f,j4,hs]) (λj x u=>by
    rw[aF,m j];rw[nr]at u
    by_cases r:j<q.1
    .rw[ζ r]at u;rw[η (by omega),<-aF]
     grind
    .rw[η r]at u
     by_cases b:j-q.1<q.2.length/\j<cs.length
     .rw[ζ b]at u;rw[ζ (by grind)];have:=B _ x u;rw[aF,<-bt]at this
      grind
     .rw[η b]at u;have L:j<cs.length:=(aC.1 u).1;rw[η (by grind),<-aF]
      grind)
   grind
end
section
variable{P:Program}{E:gL}{n:Nat}{G:Nat->Prop}{ρ:List Value}{t:T}{h:H}{a:Act}{w:World}{o:Oper}{bV:Act->World->Prop}{Q:Exit->Act->World->Prop}{K KP:V->T->H->Prop}
variable(S:Nat->List V->H->(Out->H->Prop)->Prop)(ow:Nat->Bool)
theorem foldl_map'{α β γ:Type}(f:γ->β->γ)(g:α->β)(l:List α)(c:γ):(l.map g).foldl f c=l.foldl (λc x=>f c (g x)) c:=by
 induction l generalizing c with
 |nil=>rfl
 |cons x l y=>grind
theorem T3(hC:ak E n G ρ t h a w)(hn:iQ E n a o K bV){ty:TypeId}{fs:Array Field}{ps:Array (Nat×Operand)}{pl:List (Nat×Nat)}{oq:List (Nat×Nat×O)}{zs:List V}(ho:o.op=.build ty ps)(hu:P.underlying ty=some (.struct fs))
  (hpl:fs.toList.mapM (λf=>(P.info? f.type).map λi=>(f.offset,i.size))=some pl) (hz:rM P ty=some zs)
  (hq:oq.length=ps.size/\∀(k:Nat)(p:Nat×Operand)(q:Nat×Nat×O),ps[k]?=some p->oq[k]?=some q->pl[p.1]?=some (q.1,q.2.1)/\∃ty',cX P ty' p.2=some q.2.2)
  (hk:bq S ow (.bd zs oq) t h K KP):o.wp P a w bV Q:=by
 simp only[bq,bf]at hk;have⟨hall,hk⟩:=hk;have⟨i,z,hi,hz0,hzs,_,hzr⟩:=jf (G:=G) (w:=w) (ρ := ρ) hz;have hall':∀q∈oq,(gv t q.2.2).cs.length=q.2.1/\q.1+q.2.1<=zs.length/\(gv t q.2.2).cs.all fA=true:=by
  intro q hq;have:=aS.1 hall q hq;simp_all
 have⟨out,o1,o2,o3⟩:=xK (G:=G) (w:=w) (ρ := ρ) (pl.toArray[·]?) (ps.map λ(i,x)=>(i,a.eval x)).toList (oq.map λq=>(q.1,(gv t q.2.2).cs)) z.cells zs (by grind)
  (λk p q hp hq'=>by
   simp only[kr,aB,aG]at hp hq';obtain⟨p0,hp0,rfl⟩:=hp;obtain⟨q0,hq0,rfl⟩:=hq';have⟨g1,ty',g2⟩:=hq.2 k p0 q0 (by grind) hq0;have⟨e1,e2,e3⟩:=hall' q0 (aJ hq0);have⟨c1,c2⟩:=jE (bG hC g2) e3
   grind)
  hzs (λj x hx=>.k (hzr j x hx).1)
 rw[foldl_map']at o3;have hb:P.built ty (ps.map λ(i,x)=>(i,a.eval x)).toList=some out:=by
  simp only[Program.built,hi,hu,hz0,hpl]
  grind
 refine an hC hn (v':=.agg out) ?_ (.o (.ag out _ ?_ o3)) hk
 .simp only[execOp,ho];exact cT (run_build w ty _ out hb)
 .have:∀(l:List (Nat×Nat×O))(c:List V),(l.foldl (λcs p=>lay cs p.1 (gv t p.2.2).cs) c).length=c.length:=by
   intro l
   induction l with
   |nil=>grind
   |cons q l ih=>intro c;simp only[cQ];rw[ih,j4]
  grind
theorem ir{α:Type}(z:Nat):∀(n:Nat)(l:List α),(chunk z n l).length=n
 |0,_=>rfl
 |n+1,l=>by simp[chunk,ir z n]
theorem qe{α:Type}(z:Nat):∀(n:Nat)(l:List α)(i:Nat),i<n->(chunk z n l)[i]?=some ((l.drop (i*z)).take z)
 |0,_,_,h=>by omega
 |n+1,l,0,_=>by simp[chunk]
 |n+1,l,i+1,h=>by
  simp only[chunk,eY];rw[qe z n _ i (by omega),List.drop_drop,iT,Nat.one_mul,Nat.add_comm]
theorem GP(zs:List V)(n i:Nat)(h:i<n*zs.length):(List.replicate n zs).flatten[i]?=zs[i % zs.length]?:=by
 induction n generalizing i with
 |zero=>grind
 |succ n y=>
  rw[List.replicate_succ,List.flatten_cons]
  by_cases x:i<zs.length
  .rw[aT x,dQ x]
  .rw[aY (by omega),y (i-zs.length) (by grind)];rw[Nat.mod_eq_sub_mod (by omega:i>=zs.length)]
theorem T2(hC:ak E n G ρ t h a w)(hn:iQ E n a o K bV){ty e:TypeId}{m:Nat}{ps:Array (Nat×Operand)}{oq:List (Nat×O)}{zs:List V}(ho:o.op=.buildSlice ty m ps)(hu:P.underlying ty=some (.slice e))
    (hz:rM P e=some zs) (hzl:zs.length=P.cellsOf e) (hz0:P.cellsOf e≠0) (hm:m*P.cellsOf e<=16777216) (hm0:m≠0)
    (hq:oq.length=ps.size/\∀(k:Nat)(p:Nat×Operand)(q:Nat×O),ps[k]?=some p->oq[k]?=some q->p.1=q.1/\∃ty',cX P ty' p.2=some q.2)
    (hk:bq S ow (.bs (P.cellsOf e) zs m oq) t h K KP):o.wp P a w bV Q:=by
  simp only[bq,bf]at hk
  have⟨hall,hk⟩:=hk
  have⟨i,z,hi,hz1,hzs,_,hzr⟩:=jf (G:=G) (w:=w) (ρ := ρ) hz
  have hci:P.cellsOf e=i.size:=by simp[Program.cellsOf,hi]
  have hall':∀q∈oq,(gv t q.2).cs.length=P.cellsOf e/\q.1*P.cellsOf e+P.cellsOf e<=m*P.cellsOf e/\(gv t q.2).cs.all fA=true:=by
    intro q hq
    have:=aS.1 hall q hq
    simp only[aP]at this
    exact⟨kH this.1.1,bA this.1.2,this.2⟩
  have hfl:(List.replicate m zs).flatten.length=m*P.cellsOf e:=by simp[hzl]
  have⟨out,o1,o2,o3⟩:=xK (G:=G) (w:=w) (ρ := ρ) (λi=>some (i*P.cellsOf e,P.cellsOf e)) (ps.map λ(i,x)=>(i,a.eval x)).toList (oq.map λq=>(q.1*P.cellsOf e,(gv t q.2).cs))
    ((Array.range (m*P.cellsOf e)).map (z.cells[· % z.cells.size]!)) (List.replicate m zs).flatten (by grind)
    (λk p q hp hq'=>by
      simp only[kr,aB,aG]at hp hq'
      obtain⟨p0,hp0,rfl⟩:=hp
      obtain⟨q0,hq0,rfl⟩:=hq'
      have⟨g1,ty',g2⟩:=hq.2 k p0 q0 (by grind) hq0
      have⟨e1,e2,e3⟩:=hall' q0 (aJ hq0)
      have⟨c1,c2⟩:=jE (bG hC g2) e3
      grind)
    (by grind) (fun j x hx => by
      have hjl:j<m*P.cellsOf e:=by grind
      rw[GP zs m j (by grind)]at hx
      have hr:=(hzr _ x hx).1
      have he:((Array.range (m*P.cellsOf e)).map (z.cells[· % z.cells.size]!)).getD j undef=z.cells.getD (j % zs.length) undef:=by
        have hml:j % z.cells.size<z.cells.size:=Nat.mod_lt _ (by omega)
        rw[aF,aF]
        grind
      rw[he]
      exact .k hr)
  rw[foldl_map']at o3
  have hfll:∀(l:List (Nat×O))(c:List V),(l.foldl (λcs p=>lay cs (p.1*P.cellsOf e) (gv t p.2).cs) c).length=c.length:=by
    intro l
    induction l with
    |nil=>grind
    |cons q l ih=>intro c;simp only[cQ];rw[ih,j4]
  have⟨G',t',h',ds,hC1,hG',hdl,hds,hk⟩:=BO _ G t h (λj=>out.getD j undef) hC o3 hk
  rw[hfll,hfl]at hdl
  have hos:out.size=m*P.cellsOf e:=by grind
  have hg:=gK.alloc w (.cells out e)
  have hC2:=hC1.grow (G':=λb=>G' b\/b=w.heap.size) hg (λb hb=>.inl hb) (λb hb=>by
    rcases hb with hb|hb
    grind
    · subst hb;exact .inr ⟨aM _,by simp,_,_,_,heap_alloc_new w _⟩)
  have hrow:∀(i:Nat)(row:List D),(chunk (P.cellsOf e) m ds)[i]?=some row->i<m/\row=(ds.drop (i*P.cellsOf e)).take (P.cellsOf e):=by
    intro i row hr
    have hil:i<m:=by
      have:=(aC.1 hr).1
      rwa[ir]at this
    rw[qe _ _ _ _ hil]at hr
    grind
  have hat:∀(i:Nat)(row:List D)(j:Nat)(x:D),(chunk (P.cellsOf e) m ds)[i]?=some row->row[j]?=some x->ds[i*P.cellsOf e+j]?=some x:=by
    grind
  have hm':m<=maxLen:=by
    have:m<=m*P.cellsOf e:=Nat.le_mul_of_pos_right _ (by omega)
    exact aV (by omega:m<=16777216) (by decide)
  have hrun:(Instr.buildSlice ty m (ps.map λ(i,x)=>(i,a.eval x))).run P w=.ok (.slice (some ⟨w.heap.size,0,none⟩) m m) (w.alloc (.cells out e)):=by
    rw[hci]at o1 hm hz0
    have hne:(m*i.size=0)=False:=eq_false (λh0=>by rcases Nat.mul_eq_zero.1 h0 with h1|h1<;>omega)
    have hne2:¬(16777216<m*i.size):=by omega
    simp only[kr]at o1
    simp[Instr.buildSlice,run_underlying hu,sizeOf,typeInfo,zeroValue,hi,hz1,hne,hne2,o1,newRow]
  have hexec:(execOp a.eval o).run P w=.ok (.value (.slice (some ⟨w.heap.size,0,none⟩) m m)) (w.alloc (.cells out e)):=by
    simp only[execOp,ho]
    exact cT hrun
  unfold KQ at hk
  rcases hk with hk|hk
  · simp only[cZ]at hk
    have hC':=hC1.push hg (.slice (some ⟨w.heap.size,0,none⟩) m m) (.rows (P.cellsOf e) (chunk (P.cellsOf e) m ds)) (λb hb=>by simp only[fO,aE]at hb;omega)
      (.inr ⟨w.heap.size,m,out,e,by rw[ir],heap_alloc_new w _,by rw[ir];grind,hm',hos,λi row hr=>by
        refine⟨?_,λj x hx=>(hds _ x (hat i row j x hr hx)).mono (λb hb=>hb) (λb hb=>hg.iE b (hC1.ok.hr.gl b hb))⟩
        obtain⟨hil,rfl⟩:=hrow i row hr
        have:(i+1)*P.cellsOf e<=m*P.cellsOf e:=bB _ hil
        grind⟩)
    refine dU hexec (hn _ _ _ _ _ _ _ hC' (.k (.os h'.length _ _ _ ?_)) hk)
    rw[<-hC1.ok.hr.len];simp
  have hD:bp (λb=>G' b\/b=w.heap.size) (w.alloc (.cells out e)) (.slice (some ⟨w.heap.size,0,none⟩) m m) (.sl (P.cellsOf e) (chunk (P.cellsOf e) m ds)):=by
    have:=bp.sl (G:=λb=>G' b\/b=w.heap.size) (w:=w.alloc (.cells out e)) w.heap.size 0 m (P.cellsOf e) (chunk (P.cellsOf e) m ds) (λi j=>out.getD (i*P.cellsOf e+j) undef)
      (by rw[ir];grind) hm' (.inr rfl)
      (λi row hr=>by
        obtain⟨hil,rfl⟩:=hrow i row hr
        have:(i+1)*P.cellsOf e<=m*P.cellsOf e:=bB _ hil
        grind)
      (λi row j x hr hx=>by
        have hl:i*P.cellsOf e+j<out.size:=by grind
        rw[dC (heap_alloc_new w _),cF,aF,aN hl];rfl)
      (λi row j x hr hx=>(hds _ x (hat i row j x hr hx)).mono (λb hb=>.inl hb) (λb hb=>by
        rcases hb with hb
        exact hg.iE b (hC1.ok.hr.gl b hb)))
    rwa[ir]at this
  exact dU hexec (hn _ _ _ _ _ _ _ hC2 (.d hD) hk)
end
theorem UJ{ks:List Nat}{x y:List V}{K:Bool->Prop}(h:UK ks x y K):∃e,rH ks x y=some e/\K e:=by
 unfold UK at h
 grind
theorem jC{k:Nat}{ks:List Nat}{x y:List V}{e:Bool}(h:rH (k::ks) x y=some e):∃x0 r y0 s b e',x=x0::r/\y=y0::s/\JL k x0 y0=some b/\rH ks r s=some e'/\e=(b&&e'):=by
 cases x with
 |nil=>simp[rH]at h
 |cons x0 r=>cases y with
  |nil=>simp[rH]at h
  |cons y0 s=>
   simp only[rH]at h
   grind
theorem pz{x y:List V}{e:Bool}(h:rH [] x y=some e):x=[]/\y=[]/\e=true:=by
 cases x<;>cases y<;>simp[rH]at h⊢;exact h
theorem Cn:∀(ks:List Nat)(x y:List V)(e:Bool),rH ks x y=some e->x.length=ks.length/\y.length=ks.length:=by
 intro ks
 induction ks with
 |nil=>intro x y e h;obtain⟨rfl,rfl,_⟩:=pz h;simp
 |cons k ks z=>
  intro x y e h;obtain⟨x0,r,y0,s,b,e',rfl,rfl,_,u,_⟩:=jC h
  grind
theorem BY:∀(a b:List Nat)(x y:List V)(e:Bool),rH (a++b) x y=some e->∃z u,rH a (x.take a.length) (y.take a.length)=some z/\rH b (x.drop a.length) (y.drop a.length)=some u/\e=(z&&u):=by
 intro a
 induction a with
 |nil=>intro b x y e h;exact⟨true,e,by rfl,by grind,by simp⟩
 |cons k a v=>
  intro b x y e h;obtain⟨x0,r,y0,s,c,e',rfl,rfl,d,f,rfl⟩:=jC h;obtain⟨z,u,g1,g,rfl⟩:=v _ _ _ _ f;exact⟨c&&z,u,by simp[rH,d,g1],by grind,by grind⟩
section
variable{P:Program}{E:gL}{n:Nat}{G:Nat->Prop}{ρ:List Value}{t:T}{h:H}{a:Act}{w:World}{o:Oper}{bV:Act->World->Prop}{Q:Exit->Act->World->Prop}{K KP:V->T->H->Prop}
def zX(P:Program)(G:Nat->Prop)(w:World)(ρ:List Value)(ty:TypeId)(v:Value)(cs:List V):Prop:=
 match P.underlying ty with
 |some (.struct _)=>∃arr:Array Value,v=.agg arr/\arr.size=cs.length/\∀(i:Nat)(x:V),cs[i]?=some x->dI G w ρ (arr.getD i undef) x
 |_=>∃x,cs=[x]/\dI G w ρ v x
theorem CL{ty:TypeId}{arr:Array Value}{cs:List V}{off:Nat}{ks:List Nat}{m:Nat}(hs:arr.size=cs.length)(hr:∀(i:Nat)(x:V),cs[i]?=some x->dI G w ρ (arr.getD i undef) x)(y:flat P m ty=some ks)(r:off+ks.length<=cs.length) :
  ∃v,(part ty arr off).run P w=.ok v w/\zX P G w ρ ty v ((cs.drop off).take ks.length):=by
 cases m with
 |zero=>cases y
 |succ m=>
  simp only[flat]at y;have scalar:∀d,P.underlying ty=some d->(∀fs,d≠.struct fs)->(∀k e,d≠.array k e)->ks.length=1->∃v,(part ty arr off).run P w=.ok v w/\zX P G w ρ ty v ((cs.drop off).take ks.length):=by
   intro d hd s A B;have l:off<arr.size:=by omega
   have u:kO P ty=some false:=by
    cases d<;>first|exact absurd rfl (s _)|exact absurd rfl (A _ _)|simp[kO,hd]
   refine⟨arr[off],by simp[part,ib u,l],?_⟩;have c:off<cs.length:=by omega
   have f:=hr off _ (aA c);have p:(cs.drop off).take ks.length=[cs[off]]:=by
    rw[B,bO c];rfl
   rw[p];unfold zX;simp_all
  split at y
  .rename_i k hd;cases y;simp_all
  .rename_i hd;cases y;simp_all
  .rename_i hd;cases y;simp_all
  .rename_i fs hd;split at y
   grind
   .simp only[aI,aD]at y;have⟨b,C,g⟩:=y;split at g
    .rename_i z;cases g;have u:kO P ty=some true:=by simp[kO,hd]
     unfold Program.cellsOf at z;cases q:P.info? ty with
     |none=>exfalso;simp[Program.underlying,q]at hd
     |some i=>
      rw[q]at z;simp at z;refine⟨.agg (arr.extract off (off+ks.length)),by simp[part,ib u,sizeOf,typeInfo,q,z],?_⟩;unfold zX;rw[hd];refine⟨_,rfl,by grind,λj x f=>?_⟩;rw[ao]at f;split at f
      .rename_i D;rw[bF]at f;have:=hr _ x f;have hl:off+j<arr.size:=by grind
       rw[aF,aN hl]at this;simp_all
      grind
    grind
  grind
theorem uC:∀(m:Nat)(ty:TypeId)(ks:List Nat)(x y:Value)(q A:List V)(e:Bool)(d:Nat),flat P m ty=some ks->zX P G w ρ ty x q->zX P G w ρ ty y A->rH ks q A=some e->m<=d ->
  (Op.equalIn d ty x y).run P w=.ok e w:=by
 intro m
 induction m with
 |zero=>intro ty ks x y q A e d i;cases i
 |succ m ih=>
  intro ty ks x y q A e d i u v he hd;obtain⟨d,rfl⟩:∃d',d=d'+1:=⟨d-1,by omega⟩
  simp only[flat]at i;split at i
  .rename_i k g;cases i;simp only[zX,g]at u v;obtain⟨vx,rfl,u⟩:=u;obtain⟨vy,rfl,v⟩:=v;obtain⟨x0,r,y0,s,b,e',j,l,z,F,rfl⟩:=jC he;cases j;cases l;obtain⟨_,_,rfl⟩:=pz F;unfold JL at z;split at z<;>first|(cases z;done)|(rename_i I;cases I;done)|skip
   .rename_i k1 a1 k2 b1 _;cases J:Nat.beq (kn k1) (kn k2)<;>rw[J]at z
    grind
    .cases z;obtain rfl:k1=k2:=by revert J;cases k1<;>cases k2<;>simp[kn]
     have B:=(au.c u).int;have C:=(au.c v).int;rw[B,C,dz];exact run_equalIn_int w d ty _ _ _ _ g
  .rename_i g;cases i;simp only[zX,g]at u v;obtain⟨vx,rfl,u⟩:=u;obtain⟨vy,rfl,v⟩:=v;obtain⟨x0,r,y0,s,b,e',j,l,z,F,rfl⟩:=jC he;cases j;cases l;obtain⟨_,_,rfl⟩:=pz F;unfold JL at z;split at z<;>first|(cases z;done)|(rename_i I;cases I;done)|skip
   .cases z;have B:=(au.c u).bool;have C:=(au.c v).bool;rw[B,C,dz];exact run_equalIn_bool' w d ty _ _ g
  .rename_i g;cases i;simp only[zX,g]at u v;obtain⟨vx,rfl,u⟩:=u;obtain⟨vy,rfl,v⟩:=v;obtain⟨x0,r,y0,s,b,e',j,l,z,F,rfl⟩:=jC he;cases j;cases l;obtain⟨_,_,rfl⟩:=pz F;unfold JL at z;split at z<;>first|(cases z;done)|(rename_i I;cases I;done)|skip
   .cases z;have⟨s1,B,C,_⟩:=(au.c u).str;have⟨s2,e3,e4,_⟩:=(au.c v).str;rw[B,e3,dz];rw[run_equalIn_string w d ty _ _ g,ByteArray.toList_eq,ByteArray.toList_eq,C,e4]
  .rename_i fs g;split at i
   grind
   .rename_i hst;simp only[aI,aD]at i;have⟨b,p,L⟩:=i;split at L
    .cases L;simp only[zX,g]at u v;obtain⟨ax,rfl,M,N⟩:=u;obtain⟨ay,rfl,O,R⟩:=v;have U:P.fieldsOf ty=fs:=by simp[Program.fieldsOf,g]
     rw[run_equalIn_struct w d ty ax ay (by grind) (by grind),U];have key:∀(fl:List Field)(off:Nat)(b:List Nat)(e:Bool),xJ (flat P m) off fl=some b->rH b (q.drop off) (A.drop off)=some e->off+b.length=q.length->off+b.length=A.length ->
       (Op.eqFields d ax ay fl).run P w=.ok e w:=by
      intro fl
      induction fl with
      |nil=>
       intro off b e p he j l;cases p;have:q.drop off=[]:=et (by grind);have h':A.drop off=[]:=et (by grind);rw[this,h']at he;simp[rH]at he;subst he;rfl
      |cons f fl W=>
       intro off b e p he j l;simp only[xJ]at p;split at p
       grind
       .rename_i hn;simp only[cI,χ,bne_iff_ne,ne_eq,not_or,kF]at hn;have⟨X,Y⟩:=hn;simp only[aI,aD]at p;have⟨b1,D,b2,Z,hbb⟩:=p;cases hbb;simp only[aK]at j l;obtain⟨B,C,g1,g2,rfl⟩:=BY _ _ _ _ _ he;have⟨v1,p1,s1⟩:=CL (off:=off) M N D (by omega);have⟨v2,p2,s2⟩:=CL (off:=off) O R D (by omega);have hr:=ih _ _ _ _ _ _ _ d D s1 s2 g1 (by omega);rw[List.drop_drop,List.drop_drop]at g2;have hrest:=W (off+b1.length) b2 C Z g2 (by omega) (by omega);subst Y;simp only[Op.eqFields,X,ne_eq,not_false_eq_true,if_true,Sem.run_bind,p1,p2,hr,Result.andThen_ok,Sem.run_ite];cases B;simp
        grind
     refine key fs.toList 0 ks e p (by grind) ?_ ?_
     .have:=(Cn _ _ _ _ he).1;omega
     .have:=(Cn _ _ _ _ he).2;omega
    grind
  grind
theorem py{m:Nat}{ty:TypeId}{ks:List Nat}{v:Value}{x:V}{b:Bool}(y:flat P m ty=some ks)(g:kO P ty=some b)(z:x.oJ=b)(u:au G w ρ v x)(hs:x.cs.all fA=true):zX P G w ρ ty v x.cs:=by
 have⟨j,k⟩:=jE u hs;simp only[kO,aG]at g;have⟨d,hd,e⟩:=g;have scalar:b=false->(∀fs,d≠.struct fs)->zX P G w ρ ty v x.cs:=by
  rintro rfl l
  have f:x.cs=[x]:=by cases x<;>first|rfl|cases z
  have p:dI G w ρ v x:=by
   cases u with
   |o h=>cases h with
    |c h=>exact h
    |ag=>cases z
   |tu=>contradiction
  rw[f];unfold zX
  grind
 cases m with
 |zero=>cases y
 |succ m=>
  simp only[flat,hd]at y;cases d<;>simp only at y e<;>first|(cases y;done)|(subst e;exact scalar rfl (by simp))|skip
  subst e;cases x<;>first|(cases z;done)|skip
  obtain⟨cs,rfl,g1,i⟩:=u.R9;unfold zX;rw[hd];exact⟨cs,rfl,g1,i⟩
theorem JK:∀(ks:List Nat)(x y:List V)(e:Bool),rH ks x y=some e->x.all fA=true/\y.all fA=true:=by
 intro ks
 induction ks with
 |nil=>intro x y e h;obtain⟨rfl,rfl,_⟩:=pz h;simp
 |cons k ks u=>
  intro x y e h;obtain⟨x0,r,y0,s,b,e',rfl,rfl,z,v,_⟩:=jC h;have:=u _ _ _ v;unfold JL at z;split at z<;>first|(cases z;done)|simp[this,fA]
variable(S:Nat->List V->H->(Out->H->Prop)->Prop)(ow:Nat->Bool)
theorem Na(j:ak E n G ρ t h a w)(M:iQ E n a o K bV){ne st:Bool}{ks:List Nat}{ty t1 t2 t3:TypeId}{x y:Operand}{ox oy:O}(N:o.op=.binOp (if ne then .neq else .eql) ty x y t3)(R:cX P t1 x=some ox)(U:cX P t2 y=some oy)
  (W:∀k,P.underlying ty≠some (.int k)) (I:P.eqGuardType P.depth ty=false) (v:flat P 100 ty=some ks) (l:kO P ty=some st) (g:bq S ow (.eq ne st ks ox oy) t h K KP):o.wp P a w bV Q:=by
 have m:=bG j R;have p:=bG j U;simp only[bq]at g;have⟨⟨g1,X⟩,g⟩:=g;have⟨e,he,g⟩:=UJ g;have⟨s1,s2⟩:=JK _ _ _ _ he;have z:=py v l g1 m s1;have u:=py v l X p s2;have hr:=uC 100 ty ks _ _ _ _ e 10000 v z u he (by decide);refine an j M (v':=.bool (bif ne then !e else e)) ?_ (.d (.bool _)) g;simp only[execOp,N];refine cT ?_;generalize a.eval x=vx at *;generalize a.eval y=vy at *;cases i:P.underlying ty with
 |none=>simp[kO,i]at l
 |some d=>
  replace v:flat P (99+1) ty=some ks:=v
  rw[flat]at v;simp only[i]at v;cases d<;>simp only at v<;>first|(cases v;done)|skip
  .cases v;simp only[zX,i]at z u;have⟨Y,ex,z⟩:=z;have⟨Z,q,u⟩:=u;rw[ex,q]at he;obtain⟨x0,r,y0,s,b,e',A,B,f,h4,rfl⟩:=jC he;cases A;cases B;unfold JL at f;split at f<;>first|(cases f;done)|(rename_i C;cases C;done)|skip
   have D:=(au.c z).bool;have F:=(au.c u).bool;subst D F;cases ne<;>simp[eqGuard,binOp,Op.equal,Op.maxDepth,hr]
  grind
  .cases v;simp only[zX,i]at z u;have⟨Y,ex,z⟩:=z;have⟨Z,q,u⟩:=u;rw[ex,q]at he;obtain⟨x0,r,y0,s,b,e',A,B,f,h4,rfl⟩:=jC he;cases A;cases B;unfold JL at f;split at f<;>first|(cases f;done)|(rename_i C;cases C;done)|skip
   have⟨s1,D,_,_⟩:=(au.c z).str;have⟨s2,F,_,_⟩:=(au.c u).str;subst D F;rw[run_equalIn_string w _ ty _ _ i]at hr;simp only[Result.ok.injEq,ω]at hr;cases ne<;>simp[eqGuard,binOp,Op.stringOp,hr]
  .simp only[zX,i]at z u;obtain⟨J,rfl,_⟩:=z;obtain⟨L,rfl,_⟩:=u;cases ne
   .simp only[cj,ψ,ε,Sem.run_bind,run_eqGuard_agg w _ ty x y J L I,Result.andThen_ok,run_eql_struct,hr]
   .simp only[if_true,δ,Sem.run_bind,run_eqGuard_agg w _ ty x y J L I,Result.andThen_ok,run_neq_struct,hr]
end
section
variable{P:Program}{E:gL}{n:Nat}{G:Nat->Prop}{ρ:List Value}{t:T}{h:H}{a:Act}{w:World}{o:Oper}{bV:Act->World->Prop}{Q:Exit->Act->World->Prop}{K KP:V->T->H->Prop}
theorem Dm{ty uy ty' e:TypeId}{i:TypeInfo}(ht:P.underlying ty=some (.slice e))(hu:∃e',P.underlying uy=some (.slice e'))(hi:P.info? e=some i){b sLen sCap m:Nat}{cur:Array Value}{ty0:TypeId}(hg:w.heap[b]?=some (.cells cur ty0 (0,0)))
  {y:Value} {news:List Value} (hl:(Builtin.lenOf y).run P w=.ok m w) (hf:(Builtin.firstCells i.size m y).run P w=.ok news.toArray w) (h1:∀u∈news,u.oneCell'=true)
  (hroom:sLen+m<=sCap) (hfit:sLen*i.size+news.length<=cur.size) :
  (Builtin.append_ #[ty,uy] ty' #[.slice (some ⟨b,0,none⟩) sLen sCap,y]).run P w =
   .ok (.slice (some ⟨b,0,none⟩) (sLen+m) sCap) (w.setRow b (cur.toList.take (sLen*i.size)++news++cur.toList.drop (sLen*i.size+news.length)).toArray):=by
 have⟨e',hu⟩:=hu;have hst:=run_storeCells_at (P:=P) b (sLen*i.size) ty0 news 0 cur w hg (by grind) h1;simp only[eQ]at hst;simp[Builtin.append_,run_underlying ht,run_underlying hu,sizeOf,typeInfo,hi,hl,hf,hroom,Addr.add_lit,hst]
theorem sa{ty z ty' e:TypeId}{i:TypeInfo}(u:P.underlying ty=some (.slice e))(x:∃e',P.underlying z=some (.slice e'))(v:P.info? e=some i)
  {y:Value} (hl:(Builtin.lenOf y).run P w=.ok 0 w) (b:(Builtin.firstCells i.size 0 y).run P w=.ok #[] w) :
  (Builtin.append_ #[ty,z] ty' #[.slice none 0 0,y]).run P w=.ok (.slice none 0 0) w:=by
 have⟨e',x⟩:=x;simp[Builtin.append_,run_underlying u,run_underlying x,sizeOf,typeInfo,v,hl,b]
theorem o9{ty uy ty' e:TypeId}{i:TypeInfo}{z:Value}(ht:P.underlying ty=some (.slice e))(hu:∃e',P.underlying uy=some (.slice e'))(hi:P.info? e=some i)(hz:i.zero=some z){base:Option Addr}{sLen sCap m:Nat}
  {x y:Value} {olds news:List Value} (hx:x=.slice base sLen sCap) (hfo:(Builtin.firstCells i.size sLen x).run P w.drew=.ok olds.toArray w.drew) (hl:(Builtin.lenOf y).run P w=.ok m w) (hf:(Builtin.firstCells i.size m y).run P w.drew=.ok news.toArray w.drew)
  (hg:sCap<sLen+m) (h63:sLen+m<=9223372036854775807) (hb:(sLen+m)*i.bytes<=140737488355328) :
  (Builtin.append_ #[ty,uy] ty' #[x,y]).run P w =
   .ok (.slice (some ⟨w.heap.size,0,none⟩) (sLen+m) (grownCap w (sLen+m) sCap e))
    (w.drew.alloc (.cells (olds++news++(Builtin.zeroCells z.cells (grownCap w (sLen+m) sCap e-(sLen+m))).toList).toArray e)):=by
 have⟨e',hu⟩:=hu;subst hx;have hn:¬(sLen+m<=sCap):=by omega
 have h63':¬(9223372036854775807<((sLen:Int)+(m:Int))):=by omega
 have h48':¬(281474976710656<Builtin.nextslicecap (sLen+m) sCap*i.bytes):=by have:=growslice_fits hg hb;omega
 simp[Builtin.append_,run_underlying ht,run_underlying hu,sizeOf,typeInfo,zeroValue,hi,hz,hl,hn,h63',h48',Question.forced,hf,hfo,newRow,grownCap];congr 2
 grind
theorem Fk{y:Value}{z:Nat}{d:List (List D)}(I:bp G w y (.sl z d)):(Builtin.lenOf y).run P w=.ok d.length w/\∃news:List Value,(∀w',w'.heap=w.heap->(Builtin.firstCells z d.length y).run P w'=.ok news.toArray w')/\news.length=d.length*z /\
  (∀u∈news,u.oneCell'=true)/\∀(i:Nat)(row:List D),d[i]?=some row->row.length=z/\∀(j:Nat)(x:D),row[j]?=some x->bp G w (news.getD (i*z+j) undef) x:=by
 rcases I.Rp with⟨⟨a0,rfl⟩,rfl⟩|⟨b,oo,c,U,rfl,g1,W,g3,p,J,L⟩
 .refine⟨by rfl,[],λw' _=>by cases a0<;>simp[Builtin.firstCells,loadCells,loadCellsFrom],by simp,by simp,by simp⟩
 .by_cases B:z=0
  .subst B;refine⟨by rfl,[],λw' _=>by rfl,by simp,by simp,λi row hr=>⟨p i row hr,λj x m=>?_⟩⟩
   grind
  .have e:0<z:=Nat.pos_of_ne_zero B
   let f:Nat->Value:=λk=>U (k / z) (k % z)
   have q:∀k,k<d.length*z->w.cell? ⟨b,oo+k,none⟩=some (f k)/\(f k).oneCell'=true:=by
    intro k M;have r:k / z<d.length:=(Nat.div_lt_iff_lt_mul e).2 M;have hr:=aA r;have s:k % z<(d[k / z]).length:=by rw[p _ _ hr];exact Nat.mod_lt _ e
    have m:=aA s;have C:=J _ _ _ _ hr m;have N:=L _ _ _ _ hr m;have he:k / z*z+k % z=k:=by rw[Nat.mul_comm];exact Nat.div_add_mod k z
    rw[he]at C;exact⟨C,N.one⟩
   refine⟨by rfl,(List.range (d.length*z)).map f,λw' O=>?_,by simp,λu X=>?_,λi row hr=>⟨p i row hr,λj x m=>?_⟩⟩
   .refine run_firstCells_some (P:=P) w' z d.length ⟨b,oo,none⟩ _ c _ (by simp) (λj v F=>?_);rw[dx];simp only[aB,aG]at F;obtain⟨Y,g,rfl⟩:=F;have l:j<d.length*z:=by
     grind
    rw[ck l]at g;cases g;rw[World.cell?_of_block (w:=w) (w':=w') (by grind)]
    grind
   grind
   .have A:i<d.length:=(aC.1 hr).1;have l:j<z:=by grind
    have R:i*z+j<d.length*z:=by
     have:(i+1)*z<=d.length*z:=bB _ A
     grind
    grind
theorem rv{rs y:List (List D)}{z:Nat}{olds news rest:List Value}(m:olds.length=rs.length*z)(p:news.length=y.length*z)
  (g:∀(i:Nat)(row:List D),rs[i]?=some row->row.length=z/\∀(j:Nat)(x:D),row[j]?=some x->bp G w (olds.getD (i*z+j) undef) x)
  (k:∀(i:Nat)(row:List D),y[i]?=some row->row.length=z/\∀(j:Nat)(x:D),row[j]?=some x->bp G w (news.getD (i*z+j) undef) x) :
  ∀(i:Nat)(row:List D),(rs++y)[i]?=some row->row.length=z/\∀(j:Nat)(x:D),row[j]?=some x->bp G w ((olds++news++rest).toArray.getD (i*z+j) undef) x:=by
 intro i row hr
 by_cases f:i<rs.length
 .rw[aT f]at hr;have⟨v,b⟩:=g i row hr;refine⟨v,λj x c=>?_⟩;have d:j<z:=by grind
  have u:i*z+j<olds.length:=by
   have:(i+1)*z<=rs.length*z:=bB _ f
   grind
  have:=b j x c;rw[a8]at this;rw[aF,fJ,bN,aT u]
  grind
 .rw[aY (by omega)]at hr;have⟨v,b⟩:=k _ row hr;refine⟨v,λj x c=>?_⟩;have d:j<z:=by grind
  have e:i-rs.length<y.length:=(aC.1 hr).1;have l:i*z=rs.length*z+(i-rs.length)*z:=by rw[<-iT];grind
  have u:(i-rs.length)*z+j<news.length:=by
   have:(i-rs.length+1)*z<=y.length*z:=bB _ e
   grind
  have:=b j x c;rw[a8]at this;rw[aF,fJ,bN,aY (by omega),aT (by omega)]
  grind
theorem Dy{hd:Value}{z:Nat}{rs:List (List D)}(hr:cY G w ρ hd (.rows z rs)):∃base y,hd=.slice base rs.length y/\rs.length<=y/\∃olds:List Value,(∀w',w'.heap=w.heap->(Builtin.firstCells z rs.length hd).run P w'=.ok olds.toArray w')/\olds.length=rs.length*z /\
  ∀(i:Nat)(row:List D),rs[i]?=some row->row.length=z/\∀(j:Nat)(x:D),row[j]?=some x->bp G w (olds.getD (i*z+j) undef) x:=by
 rcases hr with⟨rfl,rfl⟩|⟨b,y,arr,ty,rfl,e,c,q,f,d⟩
 .exact⟨none,0,rfl,by simp,[],λw' _=>by rfl,by simp,by simp⟩
 .have g:rs.length*z<=arr.size:=by rw[f];exact bB _ c
  refine⟨some ⟨b,0,none⟩,y,rfl,c,arr.toList.take (rs.length*z),λw' k=>?_,by grind,λi row hr=>⟨(d i row hr).1,λj x l=>?_⟩⟩
  .refine run_firstCells_some (P:=P) w' z rs.length ⟨b,0,none⟩ _ y _ (by grind) (λj v r=>?_);rw[dx,cF,World.cell?_of_block (w:=w) (w':=w') (by grind),dC e]
   grind
  .have u:i<rs.length:=(aC.1 hr).1;have m:j<z:=by grind
   have p:i*z+j<rs.length*z:=by
    have:(i+1)*z<=rs.length*z:=bB _ u
    grind
   have:=(d i row hr).2 j x l;rw[aF,<-bt]at this
   grind
variable(S:Nat->List V->H->(Out->H->Prop)->Prop)(ow:Nat->Bool)
theorem Gv{v:Value}{z:Nat}(h:au G w ρ v (.nl z)):v=.slice none 0 0:=by
 cases h with|o h=>cases h with|c h=>cases h with|k h=>cases h;rfl
theorem T4 (hC:ak E n G ρ t h a w) (hn:iQ E n a o K bV) {ty uy e e' t1 t2:TypeId} {i:TypeInfo} {zs:List V} {x y:Operand} {ox oy:O} (ho:o.op = .call { callee:=.builtin .append,args:= #[x,y],argTypes:= #[ty,uy] })
    (ht:P.underlying ty=some (.slice e)) (hu:P.underlying uy=some (.slice e')) (hi:P.info? e=some i) (hz:rM P e=some zs) (hzl:zs.length=i.size) (hx:cX P t1 x=some ox) (hy:cX P t2 y=some oy)
    (hk:bq S ow (.ap ox oy i.size i.bytes) t h K KP):o.wp P a w bV Q:=by
  have hvx:=Gu hC hx
  have hvy:=Cr (bG hC hy)
  obtain⟨i',z,hi',hz0,hzs,_,_⟩:=jf (G:=G) (w:=w) (ρ := ρ) hz
  rw[hi]at hi'
  cases hi'
  have hue:∃e',P.underlying uy=some (.slice e'):=⟨e',hu⟩
  have hexec:∀{v' w'},(Builtin.append_ #[ty,uy] o.type #[a.eval x,a.eval y]).run P w=.ok v' w'->(execOp a.eval o).run P w=.ok (.value v') w':=by
    intro v' w' hr
    simp[execOp,ho,resolve,invoke,builtin,hr]
  have hgrow:∀c:Obj,gK w (w.drew.alloc c):=λc=>(gK.drew w).trans (gK.alloc w.drew c)
  have hzc:∀k,(Builtin.zeroCells z.cells k).size=k*i.size:=by intro k;rw[size_zeroCells,hzs,hzl]
  have body:∀(xv:V),au G w ρ (a.eval x) xv→∀(ys:List (List D)),bp G w (a.eval y) (.sl i.size ys) →
      (match xv with
        |.os id=>(match get? h id with
          |some (.rows z'' rs)=>(Nat.beq i.size z''=true/\rs.length+ys.length<=9223372036854775807/\(rs.length+ys.length)*i.bytes<=140737488355328) /\
              K (.os id) (ju id t) ((h.map (gV id)).set id (.rows i.size (rs++ys)))
          |_=>False)
        |.nl _=>(ys.length<=9223372036854775807/\ys.length*i.bytes<=140737488355328)/\K (.os h.length) t (h++[.rows i.size ys])
        |.cl z'' rs=>(Nat.beq i.size z''=true/\rs.length+ys.length<=9223372036854775807/\(rs.length+ys.length)*i.bytes<=140737488355328)/\K (.d (.sl i.size (rs++ys))) t h
        |_=>False)->o.wp P a w bV Q:=by
    intro xv hvx ys hDy hk
    obtain⟨hly,news,hfy,hnl,hn1,hnr⟩:=Fk (P:=P) hDy
    split at hk
    · rename_i id
      rw[get?_eq]at hk
      split at hk
      · rename_i z'' rs hrs
        obtain⟨⟨hzz,hb1,hb2⟩,hk⟩:=hk
        obtain rfl:=kH hzz
        obtain⟨ad,nn,c,hv,hρ⟩:=hvx.QG
        have hrep:=hC.ok.hr.rep id _ _ hρ hrs
        obtain⟨base,cap,hhd,hcap,olds,hfo,hol,hor⟩:=Dy (P:=P) hrep
        cases hhd
        have hidl:id<ρ.length:=(aC.1 hρ).1
        by_cases hroom:rs.length+ys.length<=c
        · skip
          rcases hrep with⟨he,rfl⟩|⟨b,cap',arr,ty0,he,h1,h2,h3,h4,h5⟩
          · cases he
            have hys:ys=[]:=bP (by grind)
            subst hys
            have hnn:news=[]:=bP (by grind)
            subst hnn
            have hr:=sa (ty':=o.type) ht hue hi (by simpa using hly) (by grind)
            have hv':a.eval x=.slice none 0 0:=hv
            rw[<-hv']at hr
            have hC':=hC.PW (w':=w) (v1:=.slice none 0 0) (x1:=.rows i.size []) hρ hrs (by simp) rfl (aM _) (λ_ _ _=>rfl) rfl rfl rfl (.inl ⟨rfl,rfl⟩) (λb hb=>.inl hb)
            refine dU (hexec hr) (hn _ _ _ _ _ _ _ hC' (.k (by rw[hv'];exact .os id none 0 0 (b_ hidl))) (by grind))
          · cases he
            have hr:=Dm (ty':=o.type) (w:=w) (sLen:=rs.length) (sCap:=c) ht hue hi h1 hly (hfy w rfl) hn1 hroom (by
              rw[h4,hnl,<-iT];exact bB _ hroom)
            rw[<-hv]at hr
            have holds:olds=arr.toList.take (rs.length*i.size):=by
              have h6:=hfo w rfl
              have h7:=run_firstCells_some (P:=P) w i.size rs.length ⟨b,0,none⟩ rs.length c (arr.toList.take (rs.length*i.size)) (by
                simp_all) (λj v hv=>by
                  rw[dx,cF,dC h1]
                  grind)
              grind
            have hsame:∀k,k≠b->(w.setRow b (arr.toList.take (rs.length*i.size)++news++arr.toList.drop (rs.length*i.size+news.length)).toArray).heap[k]?=w.heap[k]?:=λk hk=>setRow_other w b k _ hk
            have hGs:∀k,G k->(w.setRow b (arr.toList.take (rs.length*i.size)++news++arr.toList.drop (rs.length*i.size+news.length)).toArray).heap[k]?=w.heap[k]?:=λk hk=>hsame k (λe=>by
              subst e;exact hC.ok.hr.gd k hk ⟨id,_,_,hρ,hrs,by simp,bR.2 (.inl rfl)⟩)
            have hC':=hC.PW (w':=w.setRow b (arr.toList.take (rs.length*i.size)++news++arr.toList.drop (rs.length*i.size+news.length)).toArray) (v1:=.slice (some ⟨b,0,none⟩) (rs.length+ys.length) c) (x1:=.rows i.size (rs++ys))
              hρ hrs (by simp) rfl (by simp) (λk _ hk=>hsame k (by simp only[fO,ne_eq,aE]at hk;omega)) rfl rfl rfl
              (.inr ⟨b,c,_,ty0,by simp,setRow_heap w b arr _ ty0 _ h1,by grind,h3,by
                have h9:(rs.length+ys.length)*i.size<=c*i.size:=bB _ hroom
                grind,by
                have:=rv (rest:=arr.toList.drop (rs.length*i.size+news.length)) hol hnl hor hnr
                rw[<-holds]
                intro k row hr
                obtain⟨e1,e2⟩:=this k row hr
                exact⟨e1,λj x hx=>(e2 j x hx).mono (λ_ h=>h) (by grind)⟩⟩) (λk hk=>.inl hk)
            refine dU (hexec hr) (hn _ _ _ _ _ _ _ hC' (.k (.os id _ _ _ (b_ hidl))) hk)
        · skip
          have hr:=o9 (ty':=o.type) (w:=w) ht hue hi hz0 rfl (hfo w.drew rfl) hly (hfy w.drew rfl) (by omega) hb1 hb2
          rw[<-hv]at hr
          have hge:=grownCap_ge w (rs.length+ys.length) c e
          have hC':=hC.PW (w':=w.drew.alloc (.cells (olds++news++(Builtin.zeroCells z.cells (grownCap w (rs.length+ys.length) c e-(rs.length+ys.length))).toList).toArray e)) (v1:=.slice (some ⟨w.heap.size,0,none⟩) (rs.length+ys.length) (grownCap w (rs.length+ys.length) c e)) (x1:=.rows i.size (rs++ys))
            hρ hrs (by simp) rfl (hgrow _).size (λk hk _=>(hgrow _).iE k hk) rfl rfl rfl
            (.inr ⟨w.heap.size,grownCap w (rs.length+ys.length) c e,(olds++news++(Builtin.zeroCells z.cells (grownCap w (rs.length+ys.length) c e-(rs.length+ys.length))).toList).toArray,e,by simp,heap_alloc_new w.drew _,by grind,grownCap_le_maxLen w _ _ e hb1,by
              simp only[eX,aK,dW,hzc,hol,hnl,<-iT]
              grind,by
              have:=rv (rest:=(Builtin.zeroCells z.cells (grownCap w (rs.length+ys.length) c e-(rs.length+ys.length))).toList) hol hnl hor hnr
              intro k row hr
              obtain⟨e1,e2⟩:=this k row hr
              exact⟨e1,λj x hx=>(e2 j x hx).mono (λ_ h=>h) (λb hb=>(hgrow _).iE b (hC.ok.hr.gl b hb))⟩⟩) (λk hk=>by simp only[fO,aE]at hk;grind)
          refine dU (hexec hr) (hn _ _ _ _ _ _ _ hC' (.k (.os id _ _ _ (b_ hidl))) hk)
      grind
    · rename_i z0
      obtain⟨⟨hb1,hb2⟩,hk⟩:=hk
      have hv:a.eval x=.slice none 0 0:=Gv hvx
      by_cases hys:ys.length=0
      · have hys':ys=[]:=bP hys
        subst hys'
        have hnn:news=[]:=bP (by grind)
        subst hnn
        have hr:=sa (ty':=o.type) ht hue hi (by simpa using hly) (by grind)
        have hC':=hC.push (gK.refl w) (.slice none 0 0) (.rows i.size []) (by simp[fO]) (.inl ⟨rfl,rfl⟩)
        rw[<-hv]at hr hC'
        refine dU (hexec hr) (hn _ _ _ _ _ _ _ hC' (.k ?_) hk)
        rw[hv]
        exact .os h.length none 0 0 (by rw[<-hC.ok.hr.len];simp)
      · have hr:=o9 (ty':=o.type) (w:=w) (sLen:=0) (sCap:=0) (olds:=[]) ht hue hi hz0 rfl (run_firstCells_none w.drew _ _ _ _) hly (hfy w.drew rfl) (by omega) (by omega) (by grind)
        rw[<-hv]at hr
        simp only[cF,List.nil_append]at hr
        have hge:=grownCap_ge w ys.length 0 e
        have hC':=hC.push (hgrow (.cells (news++(Builtin.zeroCells z.cells (grownCap w ys.length 0 e-ys.length)).toList).toArray e)) (.slice (some ⟨w.heap.size,0,none⟩) ys.length (grownCap w ys.length 0 e)) (.rows i.size ys)
          (λb hb=>by simp only[fO,aE]at hb;omega)
          (.inr ⟨w.heap.size,grownCap w ys.length 0 e,(news++(Builtin.zeroCells z.cells (grownCap w ys.length 0 e-ys.length)).toList).toArray,e,rfl,heap_alloc_new w.drew _,hge,grownCap_le_maxLen w _ _ e hb1,by
            simp only[eX,aK,dW,hzc,hnl,<-iT]
            grind,by
            have:=rv (G:=G) (w:=w) (rs:=[]) (olds:=[]) (rest:=(Builtin.zeroCells z.cells (grownCap w ys.length 0 e-ys.length)).toList) (by simp) hnl (by simp) hnr
            intro k row hr
            obtain⟨e1,e2⟩:=this k row (by grind)
            exact⟨e1,λj x hx=>(e2 j x hx).mono (λ_ h=>h) (λb hb=>(hgrow _).iE b (hC.ok.hr.gl b hb))⟩⟩)
        refine dU (hexec hr) (hn _ _ _ _ _ _ _ hC' (.k (.os h.length _ _ _ ?_)) hk)
        rw[<-hC.ok.hr.len];simp
    · rename_i z'' rs
      obtain⟨⟨hzz,hb1,hb2⟩,hk⟩:=hk
      obtain rfl:=kH hzz
      obtain⟨ad,nn,hv,hD⟩:=hvx.PA
      have hlen:=hD.len
      obtain⟨ad',c',he,_⟩:=hlen
      cases he
      obtain⟨hlx,olds,hfx,hol,_,hor⟩:=Fk (P:=P) hD
      by_cases hys:ys.length=0
      · skip
        have hys':ys=[]:=bP hys
        subst hys'
        have hnn:news=[]:=bP (by grind)
        subst hnn
        have hr:(Builtin.append_ #[ty,uy] o.type #[.slice ad rs.length rs.length,a.eval y]).run P w=.ok (.slice ad rs.length rs.length) w:=by
          have hfy0:=hfy w rfl
          simp only[ah]at hfy0 hly
          cases ad<;>simp[Builtin.append_,run_underlying ht,run_underlying hu,sizeOf,typeInfo,hi,hly,hfy0,storeCells]
        rw[<-hv]at hr
        refine an hC hn (hexec hr) (.d ?_) hk
        grind
      · have hr:=o9 (ty':=o.type) (w:=w) ht hue hi hz0 rfl (hfx w.drew rfl) hly (hfy w.drew rfl) (by omega) hb1 hb2
        rw[<-hv]at hr
        have hge:=grownCap_ge w (rs.length+ys.length) rs.length e
        have hC':=hC.grow (w':=w.drew.alloc (.cells (olds++news++(Builtin.zeroCells z.cells (grownCap w (rs.length+ys.length) rs.length e-(rs.length+ys.length))).toList).toArray e)) (G':=λb=>G b\/b=w.heap.size) (hgrow _) (λb hb=>.inl hb) (λb hb=>by
          rcases hb with hb|rfl
          grind
          · exact .inr ⟨aM _,by simp,_,_,_,heap_alloc_new w.drew _⟩)
        refine dU (hexec hr) (hn _ _ _ _ _ _ _ hC' (.d ?_) hk)
        have hb:cY G (w.drew.alloc (.cells (olds++news++(Builtin.zeroCells z.cells (grownCap w (rs.length+ys.length) rs.length e-(rs.length+ys.length))).toList).toArray e)) ρ (.slice (some ⟨w.heap.size,0,none⟩) (rs.length+ys.length) (grownCap w (rs.length+ys.length) rs.length e)) (.rows i.size (rs++ys)):=
          .inr ⟨w.heap.size,grownCap w (rs.length+ys.length) rs.length e,_,e,by simp,heap_alloc_new w.drew _,by grind,grownCap_le_maxLen w _ _ e hb1,by
            simp only[eX,aK,dW,hzc,hol,hnl,<-iT]
            grind,by
            have:=rv (rest:=(Builtin.zeroCells z.cells (grownCap w (rs.length+ys.length) rs.length e-(rs.length+ys.length))).toList) hol hnl hor hnr
            intro k row hr
            obtain⟨e1,e2⟩:=this k row hr
            exact⟨e1,λj x hx=>(e2 j x hx).mono (λ_ h=>h) (λb hb=>(hgrow _).iE b (hC.ok.hr.gl b hb))⟩⟩
        exact hb.data.mono (λb hb=>by
          rcases hb with hb|hb
          grind
          · simp only[fO,aE]at hb;grind) (λ_ _=>rfl)
    grind
  have fin:∀(z':Nat)(ys:List (List D)),bp G w (a.eval y) (.sl z' ys) ->
      (match KL t ox with
        |.os id=>(match get? h id with
          |some (.rows z'' rs)=>(Nat.beq i.size z''=true/\Nat.beq i.size z'=true/\rs.length+ys.length<=9223372036854775807/\(rs.length+ys.length)*i.bytes<=140737488355328) /\
              BS (ju id t) λt=>flb ((h.map (gV id)).set id (.rows i.size (rs++ys))) λh=>K (.os id) t h
          |_=>False)
        |.nl _=>(Nat.beq i.size z'=true/\ys.length<=9223372036854775807/\ys.length*i.bytes<=140737488355328)/\PD (fl (h++[.rows i.size ys]) λh'=>iX h.length λn=>K (.os n) t h') (K (.d (.sl i.size ys)) t h)
        |.cl z'' rs=>(Nat.beq i.size z''=true/\Nat.beq i.size z'=true/\rs.length+ys.length<=9223372036854775807/\(rs.length+ys.length)*i.bytes<=140737488355328)/\K (.d (.sl i.size (rs++ys))) t h
        |_=>False)->o.wp P a w bV Q:=by
    intro z' ys hD hk
    split at hk
    · rename_i id hg
      split at hk
      · rename_i h4
        simp only[jR,f_]at hk
        obtain rfl:=kH hk.1.2.1
        grind
      grind
    · rename_i z0 hg
      simp only[bf,cZ]at hk
      obtain rfl:=kH hk.1.1
      have hk2:=hk.2
      unfold PD at hk2
      rcases hk2 with hk2|hk2
      grind
      · have hv:a.eval x=.slice none 0 0:=Gv (hg ▸ hvx)
        exact body (.cl i.size []) (by rw[hv];exact .o (.c (.k (.cl none 0 _ [] (.xg _))))) ys hD ⟨⟨fV _,by grind,by grind⟩,by grind⟩
    · rename_i z'' rs hg
      obtain rfl:=kH hk.1.2.1
      grind
    grind
  simp only[bq]at hk
  split at hk
  · rename_i z' ys hg
    rw[hg]at hvy
    exact fin z' ys hvy.qu hk
  · rename_i z' ys hg
    rw[hg]at hvy
    obtain⟨ad,nn,hv,hD⟩:=hvy.PA
    grind
  grind
end
end Go.Vx
