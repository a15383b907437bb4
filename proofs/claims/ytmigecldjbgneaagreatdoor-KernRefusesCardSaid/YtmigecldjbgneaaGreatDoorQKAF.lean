/- Lemmas. Conditions: none. -/
import Derived.Test.YtmigecldjbgneaaGreatDoorQKAE
namespace Go.Vx
section
variable{P:Program}{E:gG}{n:Nat}{G:Nat->Prop}{ρ:List Value}{t:T}{h:H}{a:Act}{w:World}{o:Oper}{bS:Act->World->Prop}{Q:Exit->Act->World->Prop}{K KP:V->T->H->Prop}
variable(S:Nat->List V->H->(Out->H->Prop)->Prop)(ow:Nat->Bool)
theorem NK{ty e:TypeId}(hu:P.underlying ty=some (.slice e)):P.underlying ty=some (.slice (P.elem ty)):=by
 rw[hu];simp[Program.elem,hu]
theorem bp.part{ad:Option Addr}{len cap z l u m:Nat}{rows:List (List D)}(hD:bp G w (.slice ad len cap) (.sl z rows))(h1:l<=u)(h2:u<=rows.length)(h3:u<=m)(h4:m<=cap) :
  bp G w (sliced ad l u m z) (.sl z ((rows.take u).drop l)):=by
 have hlen:((rows.take u).drop l).length=u-l:=by grind
 rcases hD.Q0 with⟨⟨a0,he⟩,rfl⟩|⟨b,o,c,U,he,g1,g2,g3,g4,g5,g6⟩
 .simp only[Value.slice.injEq]at he;obtain⟨rfl,_,rfl⟩:=he;simp at h2 h4;subst h2;have hl0:l=0:=by omega
  have hm0:m=0:=by omega
  subst hl0 hm0;have:sliced ad 0 0 0 z=.slice ad 0 0:=by rfl
  grind
 .simp only[Value.slice.injEq]at he;obtain⟨rfl,rfl,rfl⟩:=he
  by_cases hml:m=l
  .have hul:u=l:=by omega
   subst hul;have hnil:(rows.take u).drop u=[]:=gR (by grind);rw[hnil];have:=bp.sl (G:=G) (w:=w) b o 0 z [] (λ_ _=>undef) (by simp) (by simp) g3 (by simp) (by simp) (by simp);simpa[sliced,hml]using this
  .have hv:sliced (some ⟨b,o,none⟩) l u m z=.slice (some ⟨b,o+l*z,none⟩) ((rows.take u).drop l).length (m-l):=by
    rw[hlen];simp[sliced,hml,dk]
   rw[hv];have get:∀(i:Nat)(row:List D),((rows.take u).drop l)[i]?=some row->rows[l+i]?=some row:=by
    grind
   refine .sl b _ _ z _ (λi j=>U (l+i) j) (by grind) (by omega) g3 (λi row hr=>g4 _ _ (get i row hr)) (λi row j x hr hx=>?_) (λi row j x hr hx=>g6 _ _ _ _ (get i row hr) hx)
   grind
theorem xN(hC:an E n G ρ t h a w){v:Value}{id z:Nat}{r:List (List D)}(hv:az G w ρ v (.os id))(hx:h[id]?=some (.rows z r)) :
  ∃ad c,v=.slice ad r.length c/\r.length<=c/\ρ[id]?=some (.slice ad r.length c):=by
 obtain⟨ad,m,c,rfl,hρ⟩:=hv.PT;rcases hC.ok.hr.rep id _ _ hρ hx with⟨he,rfl⟩|⟨b,cap,arr,ty,he,h1,h2,_⟩
 grind
 grind
theorem Tn(hC:an E n G ρ t h a w)(hn:gq E n a o K bS){ty e t1:TypeId}{x:Operand}{lo hi mx:Option Operand}{ox:O}{olo ohi omx:Option O}(ho:o.op=.slice ty x lo hi mx)(hu:P.underlying ty=some (.slice e))
  (hz:P.cellsOf e≠0) (hx:cO P t1 x=some ox) (hlo:(lo=none/\olo=none)\/∃y oy ty',lo=some y/\olo=some oy/\cO P ty' y=some oy) (hhi:(hi=none/\ohi=none)\/∃y oy ty',hi=some y/\ohi=some oy/\cO P ty' y=some oy)
  (hmx:(mx=none/\omx=none)\/∃y oy ty',mx=some y/\omx=some oy/\cO P ty' y=some oy) (hk:dV S ow (.s3 ox olo ohi omx (P.cellsOf e)) t h K KP):o.wp P a w bS Q:=by
 have hvx:=Dg (bG hC hx);have hue:=NK hu;have hsz:(sizeOf (P.elem ty)).run P w=.ok (P.cellsOf e) w:=by
  have:P.elem ty=e:=by grind
  rw[this];unfold Program.cellsOf at hz⊢;cases hie:P.info? e with
  |none=>grind
  |some ie=>simp[sizeOf,typeInfo,hie]
 have src:∀(z':Nat)(r:List (List D)),(dv (gv t ox)=.d (.sl z' r)\/dv (gv t ox)=.cl z' r)->∃ad c,a.eval x=.slice ad r.length c/\r.length<=c/\bp G w (.slice ad r.length c) (.sl z' r):=by
  intro z' r hg;have hD:bp G w (a.eval x) (.sl z' r):=by
   rcases hg with hg|hg
   .rw[hg]at hvx;exact hvx.rj
   .rw[hg]at hvx;obtain⟨ad,m,hv,hD⟩:=hvx.N6
    grind
  rcases hD.Q0 with⟨⟨a0,he⟩,rfl⟩|⟨b,o,c,U,he,g1,_⟩
  grind
  grind
 have hL:∀l:Int,(∃k,(match olo with|some lo=>gv t lo|none=>.d (.int .i64 0))=.d (.int k l))->(lo=none/\l=0)\/∃y k,lo=some y/\a.eval y=.int k l:=by
  rintro l ⟨k,hl⟩
  rcases hlo with⟨h1,h2⟩|⟨y,oy,ty',h1,h2,h3⟩
  grind
  .subst h2;have:=bG hC h3;simp only at hl;rw[hl]at this;exact .inr ⟨y,k,h1,this.int⟩
 simp only[dV]at hk;split at hk
 .skip
  rename_i kl l hl;have hL:=hL l ⟨kl,hl⟩;rcases hhi with⟨rfl,_⟩|⟨_,_,_,_,h2,_⟩
  rotate_left
  grind
  rcases hmx with⟨rfl,_⟩|⟨_,_,_,_,h2,_⟩
  rotate_left
  grind
  have fin:∀(z':Nat)(r:List (List D)),(dv (gv t ox)=.d (.sl z' r)\/dv (gv t ox)=.cl z' r)->((0<=l/\l<=r.length/\Nat.beq z' (P.cellsOf e)=true)/\K (.d (.sl (P.cellsOf e) (r.drop l.toNat))) t h)->o.wp P a w bS Q:=by
   rintro z' r hg ⟨⟨g1,g2,g3⟩,hk⟩
   obtain rfl:=kA g3;obtain⟨ad,c,hv,hrc,hD⟩:=src _ r hg;have:=hD.part (l:=l.toNat) (u:=r.length) (m:=c) (by omega) (aL _) hrc (aL _);rw[cG]at this;refine au hC hn (v':=sliced ad l.toNat r.length c (P.cellsOf e)) ?_ (.d this) hk;rcases hL with⟨rfl,rfl⟩|⟨y,k,rfl,hy⟩
   .simp[execOp,ho,hv,run_sliceAt_slice w ty _ _ _ _ hue,run_slice_all w ty _ _ _ hue,hsz]
   .simp[execOp,ho,hv,hy,run_sliceAt_slice w ty _ _ _ _ hue,run_slice_l w ty _ _ _ hue k l g1 g2,hsz]
  split at hk
  grind
  grind
  .rename_i id hg;rw[get?_eq]at hk;split at hk
   .rename_i z' r hcs;obtain⟨⟨g1,g2,g3⟩,hk⟩:=hk;obtain rfl:=kA g3;rw[hg]at hvx;obtain⟨ad,c,hv,hrc,hρ⟩:=xN hC hvx hcs;refine au hC hn (v':=sliced ad l.toNat r.length c (P.cellsOf e)) ?_ (.k (.ov id _ _ _ ad r.length c hρ rfl)) hk;rcases hL with⟨rfl,rfl⟩|⟨y,k,rfl,hy⟩
    .simp[execOp,ho,hv,run_sliceAt_slice w ty _ _ _ _ hue,run_slice_all w ty _ _ _ hue,hsz]
    .simp[execOp,ho,hv,hy,run_sliceAt_slice w ty _ _ _ _ hue,run_slice_l w ty _ _ _ hue k l g1 g2,hsz]
   grind
  grind
 .skip
  rename_i kl l ohi hl;have hL:=hL l ⟨kl,hl⟩;rcases hhi with⟨_,h2⟩|⟨yh,oyh,tyh,rfl,h2,hyh⟩
  grind
  cases h2;rcases hmx with⟨rfl,_⟩|⟨_,_,_,_,h2,_⟩
  rotate_left
  grind
  split at hk
  .rename_i ku u hgu;have hvu:=bG hC hyh;rw[hgu]at hvu;have hvu:=hvu.int;have fin:∀(z':Nat)(r:List (List D)),(dv (gv t ox)=.d (.sl z' r)\/dv (gv t ox)=.cl z' r)->((0<=l/\l<=u/\u<=r.length/\Nat.beq z' (P.cellsOf e)=true)/\K (.d (.sl (P.cellsOf e) ((r.take u.toNat).drop l.toNat))) t h)->o.wp P a w bS Q:=by
    rintro z' r hg ⟨⟨g1,g2,g3,g4⟩,hk⟩
    obtain rfl:=kA g4;obtain⟨ad,c,hv,hrc,hD⟩:=src _ r hg;have:=hD.part (l:=l.toNat) (u:=u.toNat) (m:=c) (by omega) (by omega) (by omega) (aL _);refine au hC hn (v':=sliced ad l.toNat u.toNat c (P.cellsOf e)) ?_ (.d this) hk;rcases hL with⟨rfl,rfl⟩|⟨y,k,rfl,hy⟩
    .have hr:=run_slice_h w ty ad r.length c hue ku u (by omega) (by omega);simp[execOp,ho,hv,hvu,run_sliceAt_slice w ty _ _ _ _ hue,hr,hsz]
    .have hr:=run_slice_lh w ty ad r.length c hue k ku l u g1 g2 (by omega);simp[execOp,ho,hv,hvu,hy,run_sliceAt_slice w ty _ _ _ _ hue,hr,hsz]
   split at hk
   grind
   grind
   .rename_i id hg;rw[get?_eq]at hk;split at hk
    .rename_i z' r hcs;simp only[j6,fH]at hk;obtain⟨⟨g1,g2,g3,g4⟩,hk⟩:=hk;obtain rfl:=kA g4;rw[hg]at hvx;obtain⟨ad,c,hv,hrc,hρ⟩:=xN hC hvx hcs;obtain⟨v0,hv0,hD,hC'⟩:=hC.free hcs;rw[hρ]at hv0;cases hv0;have:=hD.part (l:=l.toNat) (u:=u.toNat) (m:=c) (by omega) (by omega) (by omega) (aL _);refine au hC' hn (v':=sliced ad l.toNat u.toNat c (P.cellsOf e)) ?_ (.d this) hk;rcases hL with⟨rfl,rfl⟩|⟨y,k,rfl,hy⟩
     .have hr:=run_slice_h w ty ad r.length c hue ku u (by omega) (by omega);simp[execOp,ho,hv,hvu,run_sliceAt_slice w ty _ _ _ _ hue,hr,hsz]
     .have hr:=run_slice_lh w ty ad r.length c hue k ku l u g1 g2 (by omega);simp[execOp,ho,hv,hvu,hy,run_sliceAt_slice w ty _ _ _ _ hue,hr,hsz]
    grind
   grind
  grind
 .skip
  rename_i kl l ohi omx hl;have hL:=hL l ⟨kl,hl⟩;rcases hhi with⟨_,h2⟩|⟨yh,oyh,tyh,rfl,h2,hyh⟩
  grind
  cases h2;rcases hmx with⟨_,h2⟩|⟨ym,oym,tym,rfl,h2,hym⟩
  grind
  cases h2;split at hk
  .rename_i ku u km v hgu hgm;have hvu:=bG hC hyh;rw[hgu]at hvu;have hvu:=hvu.int;have hvm:=bG hC hym;rw[hgm]at hvm;have hvm:=hvm.int;have fin:∀(z':Nat)(r:List (List D)),(dv (gv t ox)=.d (.sl z' r)\/dv (gv t ox)=.cl z' r)->((0<=l/\l<=u/\u=v/\u<=r.length/\Nat.beq z' (P.cellsOf e)=true)/\K (.cl (P.cellsOf e) ((r.take u.toNat).drop l.toNat)) t h)->o.wp P a w bS Q:=by
    rintro z' r hg ⟨⟨g1,g2,huv,g3,g4⟩,hk⟩
    rw[<-huv]at hvm;obtain rfl:=kA g4;obtain⟨ad,c,hv,hrc,hD⟩:=src _ r hg;have:=hD.part (l:=l.toNat) (u:=u.toNat) (m:=u.toNat) (by omega) (by omega) (by omega) (by omega);refine au hC hn (v':=sliced ad l.toNat u.toNat u.toNat (P.cellsOf e)) ?_ (.k (.cl _ _ _ _ this)) hk;rcases hL with⟨rfl,rfl⟩|⟨y,k,rfl,hy⟩
    .have hr:=run_slice_hm w ty ad r.length c hue ku km u u (by omega) (by omega) (by omega);simp[execOp,ho,hv,hvu,hvm,run_sliceAt_slice w ty _ _ _ _ hue,hr,hsz]
    .have hr:=run_slice_lhm w ty ad r.length c hue k ku km l u u g1 g2 (by omega) (by omega);simp[execOp,ho,hv,hvu,hvm,hy,run_sliceAt_slice w ty _ _ _ _ hue,hr,hsz]
   grind
  grind
 grind
theorem xH{v:Value}{x:V}(hr:az G w ρ v x)(hc:sP x=true):dN G w ρ v x:=by
 cases hr with
 |o hr=>cases hr with
  |c hr=>cases hr with
   |k hr=>grind
   |fc=>cases hc
  |ag=>cases hc
 |tu=>cases hc
theorem Kd{f:Nat}{l:List V}{r:Nat×List V}(h:Sx f l=some r):∃cs,l=[.ag cs]/\1000000<=f/\(!cs.isEmpty)=true/\cs.all sP=true/\r=(f+500000,cs):=by
 unfold Sx at h;split at h
 .rw[Bool.cond_eq_ite]at h;split at h
  .rename_i hb;simp only[aO,Nat.ble_eq]at hb;cases h;exact⟨_,rfl,hb.1,hb.2.1,hb.2.2,rfl⟩
  .cases h
 .cases h
theorem PZ(hC:an E n G ρ t h a w)(hn:gq E n a o K bS){f F:Nat}{first caps cc:Array Operand}{oc:List O}(ho:o.op=.makeFunc (.func f) first caps)(hf:f<500000)
    (hF:(F=f/\first=#[]/\cc=caps)\/(F=f+1000000/\caps=#[]/\cc=first))
    (hcaps:oc.length=cc.size/\∀(i:Nat)(x:O),oc[i]?=some x->∃y ty,cc[i]?=some y/\cO P ty y=some x)
    (hk:match Sx F (oc.map (gv t))with|some r=>K (.fc r.1 r.2) t h|none=>((Nat.blt F 1000000||!oc.isEmpty)&&oc.all λx=>sP (gv t x))=true/\K (.fc F (oc.map (gv t))) t h):o.wp P a w bS Q:=by
  cases hm:Sx F (oc.map (gv t)) with
  |some r=>
    rw[hm]at hk
    obtain⟨cs,hg,hb1,hb2,hb3,rfl⟩:=Kd hm
    rcases hF with⟨rfl,_⟩|⟨rfl,rfl,rfl⟩
    · omega
    obtain⟨y,l,rfl,hy,hg⟩:=List.map_eq_cons_iff.1 hg
    obtain rfl:=List.map_eq_nil_iff.1 hg
    obtain⟨yo,ty,h1,h2⟩:=hcaps.2 0 y rfl
    have hr:=bG hC h2
    rw[hy]at hr
    obtain⟨as,hv,hl,hp⟩:=hr.Pu
    have hcc:cc=#[yo]:=by
      apply Array.ext_getElem?
      intro i
      have:=hcaps.1
      match i with
      |0=>simpa using h1
      |i+1=>rw[Array.getElem?_eq_none (by simp at this;omega)];simp
    subst hcc
    have hpos:0<as.size:=by cases cs<;>simp_all
    refine au hC hn (v':=.func (.func f) #[a.eval yo] #[]) (by simp[execOp,ho,Instr.makeFunc]) (.c (.fc _ _ as _ (.inr ⟨hpos,.inr (.inr (.inr ⟨f,by omega,hf,by rw[hv]⟩))⟩) hl λi x hi=>?_)) hk
    exact xH (.c (hp i x hi)) (aP.1 hb3 x (aG hi))
  |none=>
  rw[hm]at hk
  have hk1:=hk.1
  rw[aO]at hk1
  have hv:FX F (.func (.func f) (first.map a.eval) (caps.map a.eval)) (cc.map a.eval):=by
    rcases hF with⟨rfl,rfl,rfl⟩|⟨rfl,rfl,rfl⟩
    · exact .inl ⟨by omega,by simp⟩
    · refine .inr ⟨?_,.inl ⟨f,rfl,hf,by simp⟩⟩
      have h2:¬(Nat.blt (f+1000000) 1000000=true):=by simp_all
      grind
  refine au hC hn (v':=.func (.func f) (first.map a.eval) (caps.map a.eval)) ?_ (.c (.fc F _ _ _ hv (by grind) (λi x hi=>?_))) hk.2
  · simp[execOp,ho,Instr.makeFunc]
  · rw [aB] at hi
    cases hc:oc[i]? with
    |none=>grind
    |some y=>
      rw[hc]at hi;cases hi
      obtain⟨yo,ty,h1,h2⟩:=hcaps.2 i y hc
      have hr:=bG hC h2
      have hall:=aP.1 hk1.2 y (aG hc)
      have he:(cc.map a.eval).getD i undef=a.eval yo:=by
        simp_all
      rw[he]
      exact xH hr hall
theorem xq(place:Nat->Option (Nat×Nat)):∀(ps:List (Nat×Value))(qs:List (Nat×List V))(cells:Array Value)(cs:List V),ps.length=qs.length ->
  (∀(i:Nat)(p:Nat×Value)(q:Nat×List V),ps[i]?=some p->qs[i]?=some q->place p.1=some (q.1,q.2.length)/\q.1+q.2.length<=cells.size/\p.2.cells.size=q.2.length/\∀(j:Nat)(x:V),q.2[j]?=some x->dO G w ρ (p.2.cells.getD j undef) x) ->
  cells.size=cs.length->(∀(j:Nat)(x:V),cs[j]?=some x->dO G w ρ (cells.getD j undef) x) ->
  ∃out,Instr.fill place cells ps=some out/\out.size=cells.size/\∀(j:Nat)(x:V),(qs.foldl (λcs q=>lay cs q.1 q.2) cs)[j]?=some x->dO G w ρ (out.getD j undef) x:=by
 intro ps
 induction ps with
 |nil=>
  intro qs cells cs hl _ hs hr;have:qs=[]:=bR (by grind);subst this;exact⟨cells,rfl,rfl,hr⟩
 |cons p ps ih=>
  intro qs cells cs hl hp hs hr;cases qs with
  |nil=>grind
  |cons q qs=>
   obtain⟨i,v⟩:=p;obtain⟨h1,h2,h3,h4⟩:=hp 0 (i,v) q rfl rfl;have hfold:∀(l:List Value)(st off:Nat)(cells:Array Value),off+st+l.length<=cells.size ->
     ((l.zipIdx st).foldl (λcs(c:Value×Nat)=>cs.setIfInBounds (off+c.2) c.1) cells).size=cells.size /\
     ∀j,((l.zipIdx st).foldl (λcs(c:Value×Nat)=>cs.setIfInBounds (off+c.2) c.1) cells)[j]?=if off+st<=j/\j<off+st+l.length then l[j-(off+st)]? else cells[j]?:=by
    intro l
    induction l with
    |nil=>intro st off cells _;refine⟨rfl,λj=>?_⟩;simp;omega
    |cons c l ihl=>
     intro st off cells hle;simp only[aZ]at hle;obtain⟨e1,e2⟩:=ihl (st+1) off (cells.setIfInBounds (off+st) c) (by grind);simp only[List.zipIdx_cons,gb]
     grind
   have hz:(Instr.fill place cells ((i,v)::ps))=Instr.fill place (v.cells.zipIdx.foldl (λcs(c,j)=>cs.setIfInBounds (q.1+j) c) cells) ps:=by
    simp only[Instr.fill,h1]
    grind
   have hcast:v.cells.zipIdx.foldl (λcs(c,j)=>cs.setIfInBounds (q.1+j) c) cells=((v.cells.toList.zipIdx 0).foldl (λcs(c:Value×Nat)=>cs.setIfInBounds (q.1+c.2) c.1) cells):=by
    rw[<-Array.foldl_toList]
    grind
   obtain⟨e1,e2⟩:=hfold v.cells.toList 0 q.1 cells (by grind);rw[hz,hcast];obtain⟨out,o1,o2,o3⟩:=ih qs _ (lay cs q.1 q.2) (by grind) (λk p' q' hp' hq'=>by
    have:=hp (k+1) p' q' (by grind) (by grind);rw[e1];grind) (by rw[e1,jo,hs]) (λj x hx=>by
    rw[aH,e2 j];rw[ot]at hx
    by_cases hj:j<q.1
    .rw[ζ hj]at hx;rw[η (by omega),<-aH]
     grind
    .rw[η hj]at hx
     by_cases hj2:j-q.1<q.2.length/\j<cs.length
     .rw[ζ hj2]at hx;rw[ζ (by grind)];have:=h4 _ x hx;rw[aH,<-cJ]at this
      grind
     .rw[η hj2]at hx;have hjl:j<cs.length:=(aC.1 hx).1;rw[η (by grind),<-aH]
      grind)
   grind
end
section
variable{P:Program}{E:gG}{n:Nat}{G:Nat->Prop}{ρ:List Value}{t:T}{h:H}{a:Act}{w:World}{o:Oper}{bS:Act->World->Prop}{Q:Exit->Act->World->Prop}{K KP:V->T->H->Prop}
variable(S:Nat->List V->H->(Out->H->Prop)->Prop)(ow:Nat->Bool)
theorem foldl_map'{α β γ:Type}(f:γ->β->γ)(g:α->β)(l:List α)(c:γ):(l.map g).foldl f c=l.foldl (λc x=>f c (g x)) c:=by
 induction l generalizing c with
 |nil=>rfl
 |cons x l ih=>grind
theorem UT(hC:an E n G ρ t h a w)(hn:gq E n a o K bS){ty:TypeId}{fs:Array Field}{ps:Array (Nat×Operand)}{pl:List (Nat×Nat)}{oq:List (Nat×Nat×O)}{zs:List V}(ho:o.op=.build ty ps)(hu:P.underlying ty=some (.struct fs))
  (hpl:fs.toList.mapM (λf=>(P.info? f.type).map λi=>(f.offset,i.size))=some pl) (hz:vP P ty=some zs)
  (hq:oq.length=ps.size/\∀(k:Nat)(p:Nat×Operand)(q:Nat×Nat×O),ps[k]?=some p->oq[k]?=some q->pl[p.1]?=some (q.1,q.2.1)/\∃ty',cO P ty' p.2=some q.2.2)
  (hk:dV S ow (.bd zs oq) t h K KP):o.wp P a w bS Q:=by
 simp only[dV,qv,bn]at hk;obtain⟨hall,hk⟩:=hk;obtain⟨i,z,hi,hz0,hzs,_,hzr⟩:=kv (G:=G) (w:=w) (ρ := ρ) hz;have hall':∀q∈oq,(gv t q.2.2).cs.length=q.2.1/\q.1+q.2.1<=zs.length/\(gv t q.2.2).cs.all fP=true:=by
  intro q hq;have:=aP.1 hall q hq;simp_all
 obtain⟨out,o1,o2,o3⟩:=xq (G:=G) (w:=w) (ρ := ρ) (pl.toArray[·]?) (ps.map λ(i,x)=>(i,a.eval x)).toList (oq.map λq=>(q.1,(gv t q.2.2).cs)) z.cells zs (by grind)
  (λk p q hp hq'=>by
   simp only[qw,aB,aJ]at hp hq';obtain⟨p0,hp0,rfl⟩:=hp;obtain⟨q0,hq0,rfl⟩:=hq';obtain⟨g1,ty',g2⟩:=hq.2 k p0 q0 (by grind) hq0;obtain⟨e1,e2,e3⟩:=hall' q0 (aG hq0);obtain⟨c1,c2⟩:=jV (bG hC g2) e3
   grind)
  hzs (λj x hx=>.k (hzr j x hx).1)
 rw[foldl_map']at o3;have hb:P.built ty (ps.map λ(i,x)=>(i,a.eval x)).toList=some out:=by
  simp only[Program.built,hi,hu,hz0,hpl]
  grind
 refine au hC hn (v':=.agg out) ?_ (.o (.ag out _ ?_ o3)) hk
 .simp only[execOp,ho];exact cL (run_build w ty _ out hb)
 .have:∀(l:List (Nat×Nat×O))(c:List V),(l.foldl (λcs p=>lay cs p.1 (gv t p.2.2).cs) c).length=c.length:=by
   intro l
   induction l with
   |nil=>grind
   |cons q l ih=>intro c;simp only[gb];rw[ih,jo]
  grind
theorem jD{α:Type}(z:Nat):∀(n:Nat)(l:List α),(chunk z n l).length=n
 |0,_=>rfl
 |n+1,l=>by simp[chunk,jD z n]
theorem rZ{α:Type}(z:Nat):∀(n:Nat)(l:List α)(i:Nat),i<n->(chunk z n l)[i]?=some ((l.drop (i*z)).take z)
 |0,_,_,h=>by omega
 |n+1,l,0,_=>by simp[chunk]
 |n+1,l,i+1,h=>by
  simp only[chunk,eX];rw[rZ z n _ i (by omega),List.drop_drop,fY,Nat.one_mul,Nat.add_comm]
theorem HP(zs:List V)(n i:Nat)(h:i<n*zs.length):(List.replicate n zs).flatten[i]?=zs[i % zs.length]?:=by
 induction n generalizing i with
 |zero=>grind
 |succ n ih=>
  rw[List.replicate_succ,List.flatten_cons]
  by_cases hi:i<zs.length
  .rw[aR hi,cm hi]
  .rw[ae (by omega),ih (i-zs.length) (by grind)];rw[Nat.mod_eq_sub_mod (by omega:i>=zs.length)]
theorem US(hC:an E n G ρ t h a w)(hn:gq E n a o K bS){ty e:TypeId}{m:Nat}{ps:Array (Nat×Operand)}{oq:List (Nat×O)}{zs:List V}(ho:o.op=.buildSlice ty m ps)(hu:P.underlying ty=some (.slice e))
    (hz:vP P e=some zs) (hzl:zs.length=P.cellsOf e) (hz0:P.cellsOf e≠0) (hm:m*P.cellsOf e<=16777216) (hm0:m≠0)
    (hq:oq.length=ps.size/\∀(k:Nat)(p:Nat×Operand)(q:Nat×O),ps[k]?=some p->oq[k]?=some q->p.1=q.1/\∃ty',cO P ty' p.2=some q.2)
    (hk:dV S ow (.bs (P.cellsOf e) zs m oq) t h K KP):o.wp P a w bS Q:=by
  simp only[dV,bn]at hk
  obtain⟨hall,hk⟩:=hk
  obtain⟨i,z,hi,hz1,hzs,_,hzr⟩:=kv (G:=G) (w:=w) (ρ := ρ) hz
  have hci:P.cellsOf e=i.size:=by simp[Program.cellsOf,hi]
  have hall':∀q∈oq,(gv t q.2).cs.length=P.cellsOf e/\q.1*P.cellsOf e+P.cellsOf e<=m*P.cellsOf e/\(gv t q.2).cs.all fP=true:=by
    intro q hq
    have:=aP.1 hall q hq
    simp only[aO]at this
    exact⟨kA this.1.1,bN this.1.2,this.2⟩
  have hfl:(List.replicate m zs).flatten.length=m*P.cellsOf e:=by simp[hzl]
  obtain⟨out,o1,o2,o3⟩:=xq (G:=G) (w:=w) (ρ := ρ) (λi=>some (i*P.cellsOf e,P.cellsOf e)) (ps.map λ(i,x)=>(i,a.eval x)).toList (oq.map λq=>(q.1*P.cellsOf e,(gv t q.2).cs))
    ((Array.range (m*P.cellsOf e)).map (z.cells[· % z.cells.size]!)) (List.replicate m zs).flatten (by grind)
    (λk p q hp hq'=>by
      simp only[qw,aB,aJ]at hp hq'
      obtain⟨p0,hp0,rfl⟩:=hp
      obtain⟨q0,hq0,rfl⟩:=hq'
      obtain⟨g1,ty',g2⟩:=hq.2 k p0 q0 (by grind) hq0
      obtain⟨e1,e2,e3⟩:=hall' q0 (aG hq0)
      obtain⟨c1,c2⟩:=jV (bG hC g2) e3
      grind)
    (by grind) (fun j x hx => by
      have hjl:j<m*P.cellsOf e:=by grind
      rw[HP zs m j (by grind)]at hx
      have hr:=(hzr _ x hx).1
      have he:((Array.range (m*P.cellsOf e)).map (z.cells[· % z.cells.size]!)).getD j undef=z.cells.getD (j % zs.length) undef:=by
        have hml:j % z.cells.size<z.cells.size:=Nat.mod_lt _ (by omega)
        rw[aH,aH]
        grind
      rw[he]
      exact .k hr)
  rw[foldl_map']at o3
  have hfll:∀(l:List (Nat×O))(c:List V),(l.foldl (λcs p=>lay cs (p.1*P.cellsOf e) (gv t p.2).cs) c).length=c.length:=by
    intro l
    induction l with
    |nil=>grind
    |cons q l ih=>intro c;simp only[gb];rw[ih,jo]
  obtain⟨G',t',h',ds,hC1,hG',hdl,hds,hk⟩:=Bv _ G t h (λj=>out.getD j undef) hC o3 hk
  rw[hfll,hfl]at hdl
  have hos:out.size=m*P.cellsOf e:=by grind
  have hg:=ga.alloc w (.cells out e)
  have hC2:=hC1.grow (G':=λb=>G' b\/b=w.heap.size) hg (λb hb=>.inl hb) (λb hb=>by
    rcases hb with hb|hb
    grind
    · subst hb;exact .inr ⟨aL _,by simp,_,_,_,heap_alloc_new w _⟩)
  have hrow:∀(i:Nat)(row:List D),(chunk (P.cellsOf e) m ds)[i]?=some row->i<m/\row=(ds.drop (i*P.cellsOf e)).take (P.cellsOf e):=by
    intro i row hr
    have hil:i<m:=by
      have:=(aC.1 hr).1
      rwa[jD]at this
    rw[rZ _ _ _ _ hil]at hr
    grind
  have hat:∀(i:Nat)(row:List D)(j:Nat)(x:D),(chunk (P.cellsOf e) m ds)[i]?=some row->row[j]?=some x->ds[i*P.cellsOf e+j]?=some x:=by
    grind
  have hm':m<=maxLen:=by
    have:m<=m*P.cellsOf e:=Nat.le_mul_of_pos_right _ (by omega)
    exact aX (by omega:m<=16777216) (by decide)
  have hrun:(Instr.buildSlice ty m (ps.map λ(i,x)=>(i,a.eval x))).run P w=.ok (.slice (some ⟨w.heap.size,0,none⟩) m m) (w.alloc (.cells out e)):=by
    rw[hci]at o1 hm hz0
    have hne:(m*i.size=0)=False:=eq_false (λh0=>by rcases Nat.mul_eq_zero.1 h0 with h1|h1<;>omega)
    have hne2:¬(16777216<m*i.size):=by omega
    simp only[qw]at o1
    simp[Instr.buildSlice,run_underlying hu,sizeOf,typeInfo,zeroValue,hi,hz1,hne,hne2,o1,newRow]
  have hexec:(execOp a.eval o).run P w=.ok (.value (.slice (some ⟨w.heap.size,0,none⟩) m m)) (w.alloc (.cells out e)):=by
    simp only[execOp,ho]
    exact cL hrun
  unfold Pn at hk
  rcases hk with hk|hk
  · simp only[cP]at hk
    have hC':=hC1.push hg (.slice (some ⟨w.heap.size,0,none⟩) m m) (.rows (P.cellsOf e) (chunk (P.cellsOf e) m ds)) (λb hb=>by simp only[gB,aD]at hb;omega)
      (.inr ⟨w.heap.size,m,out,e,by rw[jD],heap_alloc_new w _,by rw[jD];grind,hm',hos,λi row hr=>by
        refine⟨?_,λj x hx=>(hds _ x (hat i row j x hr hx)).mono (λb hb=>hb) (λb hb=>hg.iZ b (hC1.ok.hr.gl b hb))⟩
        obtain⟨hil,rfl⟩:=hrow i row hr
        have:(i+1)*P.cellsOf e<=m*P.cellsOf e:=bD _ hil
        grind⟩)
    refine dc hexec (hn _ _ _ _ _ _ _ hC' (.k (.os h'.length _ _ _ ?_)) hk)
    rw[<-hC1.ok.hr.len];simp
  have hD:bp (λb=>G' b\/b=w.heap.size) (w.alloc (.cells out e)) (.slice (some ⟨w.heap.size,0,none⟩) m m) (.sl (P.cellsOf e) (chunk (P.cellsOf e) m ds)):=by
    have:=bp.sl (G:=λb=>G' b\/b=w.heap.size) (w:=w.alloc (.cells out e)) w.heap.size 0 m (P.cellsOf e) (chunk (P.cellsOf e) m ds) (λi j=>out.getD (i*P.cellsOf e+j) undef)
      (by rw[jD];grind) hm' (.inr rfl)
      (λi row hr=>by
        obtain⟨hil,rfl⟩:=hrow i row hr
        have:(i+1)*P.cellsOf e<=m*P.cellsOf e:=bD _ hil
        grind)
      (λi row j x hr hx=>by
        have hl:i*P.cellsOf e+j<out.size:=by grind
        rw[cz (heap_alloc_new w _),cE,aH,aS hl];rfl)
      (λi row j x hr hx=>(hds _ x (hat i row j x hr hx)).mono (λb hb=>.inl hb) (λb hb=>by
        rcases hb with hb
        exact hg.iZ b (hC1.ok.hr.gl b hb)))
    rwa[jD]at this
  exact dc hexec (hn _ _ _ _ _ _ _ hC2 (.d hD) hk)
end
theorem VC{ks:List Nat}{x y:List V}{K:Bool->Prop}(h:Su ks x y K):∃e,sA ks x y=some e/\K e:=by
 unfold Su at h
 grind
theorem jS{k:Nat}{ks:List Nat}{x y:List V}{e:Bool}(h:sA (k::ks) x y=some e):∃x0 r y0 s b e',x=x0::r/\y=y0::s/\Jv k x0 y0=some b/\sA ks r s=some e'/\e=(b&&e'):=by
 cases x with
 |nil=>simp[sA]at h
 |cons x0 r=>cases y with
  |nil=>simp[sA]at h
  |cons y0 s=>
   simp only[sA]at h
   grind
theorem qf{x y:List V}{e:Bool}(h:sA [] x y=some e):x=[]/\y=[]/\e=true:=by
 cases x<;>cases y<;>simp[sA]at h⊢;exact h
theorem Dd:∀(ks:List Nat)(x y:List V)(e:Bool),sA ks x y=some e->x.length=ks.length/\y.length=ks.length:=by
 intro ks
 induction ks with
 |nil=>intro x y e h;obtain⟨rfl,rfl,_⟩:=qf h;simp
 |cons k ks ih=>
  intro x y e h;obtain⟨x0,r,y0,s,b,e',rfl,rfl,_,h2,_⟩:=jS h
  grind
theorem CB:∀(a b:List Nat)(x y:List V)(e:Bool),sA (a++b) x y=some e->∃e1 e2,sA a (x.take a.length) (y.take a.length)=some e1/\sA b (x.drop a.length) (y.drop a.length)=some e2/\e=(e1&&e2):=by
 intro a
 induction a with
 |nil=>intro b x y e h;exact⟨true,e,by rfl,by grind,by simp⟩
 |cons k a ih=>
  intro b x y e h;obtain⟨x0,r,y0,s,b1,e',rfl,rfl,h1,h2,rfl⟩:=jS h;obtain⟨e1,e2,g1,g2,rfl⟩:=ih _ _ _ _ h2;exact⟨b1&&e1,e2,by simp[sA,h1,g1],by grind,by grind⟩
section
variable{P:Program}{E:gG}{n:Nat}{G:Nat->Prop}{ρ:List Value}{t:T}{h:H}{a:Act}{w:World}{o:Oper}{bS:Act->World->Prop}{Q:Exit->Act->World->Prop}{K KP:V->T->H->Prop}
def AU(P:Program)(G:Nat->Prop)(w:World)(ρ:List Value)(ty:TypeId)(v:Value)(cs:List V):Prop:=
 match P.underlying ty with
 |some (.struct _)=>∃arr:Array Value,v=.agg arr/\arr.size=cs.length/\∀(i:Nat)(x:V),cs[i]?=some x->dO G w ρ (arr.getD i undef) x
 |_=>∃x,cs=[x]/\dO G w ρ v x
theorem Cu{ty:TypeId}{arr:Array Value}{cs:List V}{off:Nat}{ks:List Nat}{m:Nat}(hs:arr.size=cs.length)(hr:∀(i:Nat)(x:V),cs[i]?=some x->dO G w ρ (arr.getD i undef) x)(hf:flat P m ty=some ks)(hle:off+ks.length<=cs.length) :
  ∃v,(part ty arr off).run P w=.ok v w/\AU P G w ρ ty v ((cs.drop off).take ks.length):=by
 cases m with
 |zero=>cases hf
 |succ m=>
  simp only[flat]at hf;have scalar:∀d,P.underlying ty=some d->(∀fs,d≠.struct fs)->(∀k e,d≠.array k e)->ks.length=1->∃v,(part ty arr off).run P w=.ok v w/\AU P G w ρ ty v ((cs.drop off).take ks.length):=by
   intro d hd h1 h2 h3;have hol:off<arr.size:=by omega
   have hag:ke P ty=some false:=by
    cases d<;>first|exact absurd rfl (h1 _)|exact absurd rfl (h2 _ _)|simp[ke,hd]
   refine⟨arr[off],by simp[part,iw hag,hol],?_⟩;have hoc:off<cs.length:=by omega
   have hx:=hr off _ (aA hoc);have hcs:(cs.drop off).take ks.length=[cs[off]]:=by
    rw[h3,bC hoc];rfl
   rw[hcs];unfold AU;simp_all
  split at hf
  .rename_i k hd;cases hf;simp_all
  .rename_i hd;cases hf;simp_all
  .rename_i hd;cases hf;simp_all
  .rename_i fs hd;split at hf
   grind
   .simp only[aK,aE]at hf;obtain⟨b,hb,hif⟩:=hf;split at hif
    .rename_i hbl;cases hif;have hag:ke P ty=some true:=by simp[ke,hd]
     unfold Program.cellsOf at hbl;cases hi:P.info? ty with
     |none=>exfalso;simp[Program.underlying,hi]at hd
     |some i=>
      rw[hi]at hbl;simp at hbl;refine⟨.agg (arr.extract off (off+ks.length)),by simp[part,iw hag,sizeOf,typeInfo,hi,hbl],?_⟩;unfold AU;rw[hd];refine⟨_,rfl,by grind,λj x hx=>?_⟩;rw[bO]at hx;split at hx
      .rename_i hj;rw[bY]at hx;have:=hr _ x hx;have hl:off+j<arr.size:=by grind
       rw[aH,aS hl]at this;simp_all
      grind
    grind
  grind
theorem uc:∀(m:Nat)(ty:TypeId)(ks:List Nat)(x y:Value)(cx cy:List V)(e:Bool)(d:Nat),flat P m ty=some ks->AU P G w ρ ty x cx->AU P G w ρ ty y cy->sA ks cx cy=some e->m<=d ->
  (Op.equalIn d ty x y).run P w=.ok e w:=by
 intro m
 induction m with
 |zero=>exact nofun
 |succ m ih=>
  intro ty ks x y cx cy e d hf hx hy he hd;obtain⟨d,rfl⟩:∃d',d=d'+1:=⟨d-1,by omega⟩
  simp only[flat]at hf;split at hf
  .rename_i k hu;cases hf;simp only[AU,hu]at hx hy;obtain⟨vx,rfl,hx⟩:=hx;obtain⟨vy,rfl,hy⟩:=hy;obtain⟨x0,r,y0,s,b,e',h1,h2,h3,h4,rfl⟩:=jS he;cases h1;cases h2;obtain⟨_,_,rfl⟩:=qf h4;unfold Jv at h3;split at h3<;>first|(cases h3;done)|(rename_i hh;cases hh;done)|skip
   .rename_i k1 a1 k2 b1 _;cases hkk:Nat.beq (kn k1) (kn k2)<;>rw[hkk]at h3
    grind
    .cases h3;obtain rfl:k1=k2:=by revert hkk;cases k1<;>cases k2<;>simp[kn]
     have e1:=(az.c hx).int;have e2:=(az.c hy).int;rw[e1,e2,eA];exact run_equalIn_int w d ty _ _ _ _ hu
  .rename_i hu;cases hf;simp only[AU,hu]at hx hy;obtain⟨vx,rfl,hx⟩:=hx;obtain⟨vy,rfl,hy⟩:=hy;obtain⟨x0,r,y0,s,b,e',h1,h2,h3,h4,rfl⟩:=jS he;cases h1;cases h2;obtain⟨_,_,rfl⟩:=qf h4;unfold Jv at h3;split at h3<;>first|(cases h3;done)|(rename_i hh;cases hh;done)|skip
   .cases h3;have e1:=(az.c hx).bool;have e2:=(az.c hy).bool;rw[e1,e2,eA];exact run_equalIn_bool' w d ty _ _ hu
  .rename_i hu;cases hf;simp only[AU,hu]at hx hy;obtain⟨vx,rfl,hx⟩:=hx;obtain⟨vy,rfl,hy⟩:=hy;obtain⟨x0,r,y0,s,b,e',h1,h2,h3,h4,rfl⟩:=jS he;cases h1;cases h2;obtain⟨_,_,rfl⟩:=qf h4;unfold Jv at h3;split at h3<;>first|(cases h3;done)|(rename_i hh;cases hh;done)|skip
   .cases h3;obtain⟨s1,e1,e2,_⟩:=(az.c hx).str;obtain⟨s2,e3,e4,_⟩:=(az.c hy).str;rw[e1,e3,eA];rw[run_equalIn_string w d ty _ _ hu,ByteArray.toList_eq,ByteArray.toList_eq,e2,e4]
  .rename_i fs hu;split at hf
   grind
   .rename_i hst;simp only[aK,aE]at hf;obtain⟨b,hb,hif⟩:=hf;split at hif
    .cases hif;simp only[AU,hu]at hx hy;obtain⟨ax,rfl,hxs,hxr⟩:=hx;obtain⟨ay,rfl,hys,hyr⟩:=hy;have hfo:P.fieldsOf ty=fs:=by simp[Program.fieldsOf,hu]
     rw[run_equalIn_struct w d ty ax ay (by grind) (by grind),hfo];have key:∀(fl:List Field)(off:Nat)(b:List Nat)(e:Bool),xo (flat P m) off fl=some b->sA b (cx.drop off) (cy.drop off)=some e->off+b.length=cx.length->off+b.length=cy.length ->
       (Op.eqFields d ax ay fl).run P w=.ok e w:=by
      intro fl
      induction fl with
      |nil=>
       intro off b e hb he h1 h2;cases hb;have:cx.drop off=[]:=gR (by grind);have h':cy.drop off=[]:=gR (by grind);rw[this,h']at he;simp[sA]at he;subst he;rfl
      |cons f fl ihf=>
       intro off b e hb he h1 h2;simp only[xo]at hb;split at hb
       grind
       .rename_i hn;simp only[cT,χ,bne_iff_ne,ne_eq,not_or,kS]at hn;obtain⟨hn1,hn2⟩:=hn;simp only[aK,aE]at hb;obtain⟨b1,hb1,b2,hb2,hbb⟩:=hb;cases hbb;simp only[aM]at h1 h2;obtain⟨e1,e2,g1,g2,rfl⟩:=CB _ _ _ _ _ he;obtain⟨v1,p1,s1⟩:=Cu (off:=off) hxs hxr hb1 (by omega);obtain⟨v2,p2,s2⟩:=Cu (off:=off) hys hyr hb1 (by omega);have hr:=ih _ _ _ _ _ _ _ d hb1 s1 s2 g1 (by omega);rw[List.drop_drop,List.drop_drop]at g2;have hrest:=ihf (off+b1.length) b2 e2 hb2 g2 (by omega) (by omega);subst hn2;simp only[Op.eqFields,hn1,ne_eq,not_false_eq_true,if_true,Sem.run_bind,p1,p2,hr,Result.andThen_ok,Sem.run_ite];cases e1;simp
        grind
     refine key fs.toList 0 ks e hb (by grind) ?_ ?_
     .have:=(Dd _ _ _ _ he).1;omega
     .have:=(Dd _ _ _ _ he).2;omega
    grind
  grind
theorem qd{m:Nat}{ty:TypeId}{ks:List Nat}{v:Value}{x:V}{b:Bool}(hf:flat P m ty=some ks)(ha:ke P ty=some b)(hg:x.pI=b)(hv:az G w ρ v x)(hs:x.cs.all fP=true):AU P G w ρ ty v x.cs:=by
 obtain⟨h1,h2⟩:=jV hv hs;simp only[ke,aJ]at ha;obtain⟨d,hd,hb⟩:=ha;have scalar:b=false->(∀fs,d≠.struct fs)->AU P G w ρ ty v x.cs:=by
  rintro rfl hn
  have hcs:x.cs=[x]:=by cases x<;>first|rfl|cases hg
  have hc:dO G w ρ v x:=by
   cases hv with
   |o h=>cases h with
    |c h=>exact h
    |ag=>cases hg
   |tu=>contradiction
  rw[hcs];unfold AU
  grind
 cases m with
 |zero=>cases hf
 |succ m=>
  simp only[flat,hd]at hf;cases d<;>simp only at hf hb<;>first|(cases hf;done)|(subst hb;exact scalar rfl (by simp))|skip
  subst hb;cases x<;>first|(cases hg;done)|skip
  obtain⟨cs,rfl,g1,g2⟩:=hv.Pu;unfold AU;rw[hd];exact⟨cs,rfl,g1,g2⟩
theorem Ju:∀(ks:List Nat)(x y:List V)(e:Bool),sA ks x y=some e->x.all fP=true/\y.all fP=true:=by
 intro ks
 induction ks with
 |nil=>intro x y e h;obtain⟨rfl,rfl,_⟩:=qf h;simp
 |cons k ks ih=>
  intro x y e h;obtain⟨x0,r,y0,s,b,e',rfl,rfl,h1,h2,_⟩:=jS h;have:=ih _ _ _ h2;unfold Jv at h1;split at h1<;>first|(cases h1;done)|simp[this,fP]
variable(S:Nat->List V->H->(Out->H->Prop)->Prop)(ow:Nat->Bool)
theorem P0(hC:an E n G ρ t h a w)(hn:gq E n a o K bS){ne st:Bool}{ks:List Nat}{ty t1 t2 t3:TypeId}{x y:Operand}{ox oy:O}(ho:o.op=.binOp (if ne then .neq else .eql) ty x y t3)(hx:cO P t1 x=some ox)(hy:cO P t2 y=some oy)
  (hni:∀k,P.underlying ty≠some (.int k)) (hg:P.eqGuardType P.depth ty=false) (hf:flat P 100 ty=some ks) (ha:ke P ty=some st) (hk:dV S ow (.eq ne st ks ox oy) t h K KP):o.wp P a w bS Q:=by
 have hvx:=bG hC hx;have hvy:=bG hC hy;simp only[dV,qv,qv]at hk;obtain⟨⟨g1,g2⟩,hk⟩:=hk;obtain⟨e,he,hk⟩:=VC hk;obtain⟨s1,s2⟩:=Ju _ _ _ _ he;have hsx:=qd hf ha g1 hvx s1;have hsy:=qd hf ha g2 hvy s2;have hr:=uc 100 ty ks _ _ _ _ e 10000 hf hsx hsy he (by decide);refine au hC hn (v':=.bool (bif ne then !e else e)) ?_ (.d (.bool _)) hk;simp only[execOp,ho];refine cL ?_;generalize a.eval x=vx at *;generalize a.eval y=vy at *;cases hu:P.underlying ty with
 |none=>simp[ke,hu]at ha
 |some d=>
  replace hf:flat P (99+1) ty=some ks:=hf
  rw[flat]at hf;simp only[hu]at hf;cases d<;>simp only at hf<;>first|(cases hf;done)|skip
  .cases hf;simp only[AU,hu]at hsx hsy;obtain⟨cx,ex,hsx⟩:=hsx;obtain⟨cy,ey,hsy⟩:=hsy;rw[ex,ey]at he;obtain⟨x0,r,y0,s,b,e',h1,h2,h3,h4,rfl⟩:=jS he;cases h1;cases h2;unfold Jv at h3;split at h3<;>first|(cases h3;done)|(rename_i hh;cases hh;done)|skip
   have e1:=(az.c hsx).bool;have e2:=(az.c hsy).bool;subst e1 e2;cases ne<;>simp[eqGuard,binOp,Op.equal,Op.maxDepth,hr]
  grind
  .cases hf;simp only[AU,hu]at hsx hsy;obtain⟨cx,ex,hsx⟩:=hsx;obtain⟨cy,ey,hsy⟩:=hsy;rw[ex,ey]at he;obtain⟨x0,r,y0,s,b,e',h1,h2,h3,h4,rfl⟩:=jS he;cases h1;cases h2;unfold Jv at h3;split at h3<;>first|(cases h3;done)|(rename_i hh;cases hh;done)|skip
   obtain⟨s1,e1,_,_⟩:=(az.c hsx).str;obtain⟨s2,e2,_,_⟩:=(az.c hsy).str;subst e1 e2;rw[run_equalIn_string w _ ty _ _ hu]at hr;simp only[Result.ok.injEq,ω]at hr;cases ne<;>simp[eqGuard,binOp,Op.stringOp,hr]
  .simp only[AU,hu]at hsx hsy;obtain⟨ax,rfl,_⟩:=hsx;obtain⟨ay,rfl,_⟩:=hsy;cases ne
   .simp only[cg,ψ,ε,Sem.run_bind,run_eqGuard_agg w _ ty x y ax ay hg,Result.andThen_ok,run_eql_struct,hr]
   .simp only[if_true,δ,Sem.run_bind,run_eqGuard_agg w _ ty x y ax ay hg,Result.andThen_ok,run_neq_struct,hr]
end
section
variable{P:Program}{E:gG}{n:Nat}{G:Nat->Prop}{ρ:List Value}{t:T}{h:H}{a:Act}{w:World}{o:Oper}{bS:Act->World->Prop}{Q:Exit->Act->World->Prop}{K KP:V->T->H->Prop}
theorem EY{ty uy ty' e:TypeId}{i:TypeInfo}(ht:P.underlying ty=some (.slice e))(hu:∃e',P.underlying uy=some (.slice e'))(hi:P.info? e=some i){b sLen sCap m:Nat}{cur:Array Value}{ty0:TypeId}(hg:w.heap[b]?=some (.cells cur ty0 (0,0)))
  {y:Value} {news:List Value} (hl:(Builtin.lenOf y).run P w=.ok m w) (hf:(Builtin.firstCells i.size m y).run P w=.ok news.toArray w) (h1:∀u∈news,u.oneCell'=true)
  (hroom:sLen+m<=sCap) (hfit:sLen*i.size+news.length<=cur.size) :
  (Builtin.append_ #[ty,uy] ty' #[.slice (some ⟨b,0,none⟩) sLen sCap,y]).run P w =
   .ok (.slice (some ⟨b,0,none⟩) (sLen+m) sCap) (w.setRow b (cur.toList.take (sLen*i.size)++news++cur.toList.drop (sLen*i.size+news.length)).toArray):=by
 obtain⟨e',hu⟩:=hu;have hst:=run_storeCells_at (P:=P) b (sLen*i.size) ty0 news 0 cur w hg (by grind) h1;simp only[eB]at hst;simp[Builtin.append_,run_underlying ht,run_underlying hu,sizeOf,typeInfo,hi,hl,hf,hroom,Addr.add_lit,hst]
theorem tW{ty uy ty' e:TypeId}{i:TypeInfo}(ht:P.underlying ty=some (.slice e))(hu:∃e',P.underlying uy=some (.slice e'))(hi:P.info? e=some i)
  {y:Value} (hl:(Builtin.lenOf y).run P w=.ok 0 w) (hf:(Builtin.firstCells i.size 0 y).run P w=.ok #[] w) :
  (Builtin.append_ #[ty,uy] ty' #[.slice none 0 0,y]).run P w=.ok (.slice none 0 0) w:=by
 obtain⟨e',hu⟩:=hu;simp[Builtin.append_,run_underlying ht,run_underlying hu,sizeOf,typeInfo,hi,hl,hf]
theorem pZ{ty uy ty' e:TypeId}{i:TypeInfo}{z:Value}(ht:P.underlying ty=some (.slice e))(hu:∃e',P.underlying uy=some (.slice e'))(hi:P.info? e=some i)(hz:i.zero=some z){base:Option Addr}{sLen sCap m:Nat}
  {x y:Value} {olds news:List Value} (hx:x=.slice base sLen sCap) (hfo:(Builtin.firstCells i.size sLen x).run P w.drew=.ok olds.toArray w.drew) (hl:(Builtin.lenOf y).run P w=.ok m w) (hf:(Builtin.firstCells i.size m y).run P w.drew=.ok news.toArray w.drew)
  (hg:sCap<sLen+m) (h63:sLen+m<=9223372036854775807) (hb:(sLen+m)*i.bytes<=140737488355328) :
  (Builtin.append_ #[ty,uy] ty' #[x,y]).run P w =
   .ok (.slice (some ⟨w.heap.size,0,none⟩) (sLen+m) (grownCap w (sLen+m) sCap e))
    (w.drew.alloc (.cells (olds++news++(Builtin.zeroCells z.cells (grownCap w (sLen+m) sCap e-(sLen+m))).toList).toArray e)):=by
 obtain⟨e',hu⟩:=hu;subst hx;have hn:¬(sLen+m<=sCap):=by omega
 have h63':¬(9223372036854775807<((sLen:Int)+(m:Int))):=by omega
 have h48':¬(281474976710656<Builtin.nextslicecap (sLen+m) sCap*i.bytes):=by have:=growslice_fits hg hb;omega
 simp[Builtin.append_,run_underlying ht,run_underlying hu,sizeOf,typeInfo,zeroValue,hi,hz,hl,hn,h63',h48',Question.forced,hf,hfo,newRow,grownCap];congr 2
 grind
theorem Gm{y:Value}{z:Nat}{ys:List (List D)}(hD:bp G w y (.sl z ys)):(Builtin.lenOf y).run P w=.ok ys.length w/\∃news:List Value,(∀w',w'.heap=w.heap->(Builtin.firstCells z ys.length y).run P w'=.ok news.toArray w')/\news.length=ys.length*z /\
  (∀u∈news,u.oneCell'=true)/\∀(i:Nat)(row:List D),ys[i]?=some row->row.length=z/\∀(j:Nat)(x:D),row[j]?=some x->bp G w (news.getD (i*z+j) undef) x:=by
 rcases hD.Q0 with⟨⟨a0,rfl⟩,rfl⟩|⟨b,oo,c,U,rfl,g1,g2,g3,g4,g5,g6⟩
 .refine⟨by rfl,[],λw' _=>by cases a0<;>simp[Builtin.firstCells,loadCells,loadCellsFrom],by simp,by simp,by simp⟩
 .by_cases hz:z=0
  .subst hz;refine⟨by rfl,[],λw' _=>by rfl,by simp,by simp,λi row hr=>⟨g4 i row hr,λj x hx=>?_⟩⟩
   grind
  .have hzp:0<z:=Nat.pos_of_ne_zero hz
   let f:Nat->Value:=λk=>U (k / z) (k % z)
   have hcell:∀k,k<ys.length*z->w.cell? ⟨b,oo+k,none⟩=some (f k)/\(f k).oneCell'=true:=by
    intro k hk;have hkz:k / z<ys.length:=(Nat.div_lt_iff_lt_mul hzp).2 hk;have hr:=aA hkz;have hml:k % z<(ys[k / z]).length:=by rw[g4 _ _ hr];exact Nat.mod_lt _ hzp
    have hx:=aA hml;have h5:=g5 _ _ _ _ hr hx;have h6:=g6 _ _ _ _ hr hx;have he:k / z*z+k % z=k:=by rw[Nat.mul_comm];exact Nat.div_add_mod k z
    rw[he]at h5;exact⟨h5,h6.one⟩
   refine⟨by rfl,(List.range (ys.length*z)).map f,λw' hw'=>?_,by simp,λu hu=>?_,λi row hr=>⟨g4 i row hr,λj x hx=>?_⟩⟩
   .refine run_firstCells_some (P:=P) w' z ys.length ⟨b,oo,none⟩ _ c _ (by simp) (λj v hv=>?_);rw[dk];simp only[aB,aJ]at hv;obtain⟨j',hj',rfl⟩:=hv;have hjl:j<ys.length*z:=by
     grind
    rw[cp hjl]at hj';cases hj';rw[World.cell?_of_block (w:=w) (w':=w') (by grind)]
    grind
   grind
   .have hil:i<ys.length:=(aC.1 hr).1;have hjl:j<z:=by grind
    have hlt:i*z+j<ys.length*z:=by
     have:(i+1)*z<=ys.length*z:=bD _ hil
     grind
    grind
theorem sX{rs ys:List (List D)}{z:Nat}{olds news rest:List Value}(ho:olds.length=rs.length*z)(hn:news.length=ys.length*z)
  (h1:∀(i:Nat)(row:List D),rs[i]?=some row->row.length=z/\∀(j:Nat)(x:D),row[j]?=some x->bp G w (olds.getD (i*z+j) undef) x)
  (h2:∀(i:Nat)(row:List D),ys[i]?=some row->row.length=z/\∀(j:Nat)(x:D),row[j]?=some x->bp G w (news.getD (i*z+j) undef) x) :
  ∀(i:Nat)(row:List D),(rs++ys)[i]?=some row->row.length=z/\∀(j:Nat)(x:D),row[j]?=some x->bp G w ((olds++news++rest).toArray.getD (i*z+j) undef) x:=by
 intro i row hr
 by_cases hi:i<rs.length
 .rw[aR hi]at hr;obtain⟨hz,hx⟩:=h1 i row hr;refine⟨hz,λj x hj=>?_⟩;have hjl:j<z:=by grind
  have hlt:i*z+j<olds.length:=by
   have:(i+1)*z<=rs.length*z:=bD _ hi
   grind
  have:=hx j x hj;rw[aq]at this;rw[aH,fO,bI,aR hlt]
  grind
 .rw[ae (by omega)]at hr;obtain⟨hz,hx⟩:=h2 _ row hr;refine⟨hz,λj x hj=>?_⟩;have hjl:j<z:=by grind
  have hil:i-rs.length<ys.length:=(aC.1 hr).1;have hi2:i*z=rs.length*z+(i-rs.length)*z:=by rw[<-fY];grind
  have hlt:(i-rs.length)*z+j<news.length:=by
   have:(i-rs.length+1)*z<=ys.length*z:=bD _ hil
   grind
  have:=hx j x hj;rw[aq]at this;rw[aH,fO,bI,ae (by omega),aR (by omega)]
  grind
theorem E9{hd:Value}{z:Nat}{rs:List (List D)}(hr:cQ G w ρ hd (.rows z rs)):∃base cap,hd=.slice base rs.length cap/\rs.length<=cap/\∃olds:List Value,(∀w',w'.heap=w.heap->(Builtin.firstCells z rs.length hd).run P w'=.ok olds.toArray w')/\olds.length=rs.length*z /\
  ∀(i:Nat)(row:List D),rs[i]?=some row->row.length=z/\∀(j:Nat)(x:D),row[j]?=some x->bp G w (olds.getD (i*z+j) undef) x:=by
 rcases hr with⟨rfl,rfl⟩|⟨b,cap,arr,ty,rfl,h1,h2,h3,h4,h5⟩
 .exact⟨none,0,rfl,by simp,[],λw' _=>by rfl,by simp,by simp⟩
 .have hle:rs.length*z<=arr.size:=by rw[h4];exact bD _ h2
  refine⟨some ⟨b,0,none⟩,cap,rfl,h2,arr.toList.take (rs.length*z),λw' hw'=>?_,by grind,λi row hr=>⟨(h5 i row hr).1,λj x hx=>?_⟩⟩
  .refine run_firstCells_some (P:=P) w' z rs.length ⟨b,0,none⟩ _ cap _ (by grind) (λj v hv=>?_);rw[dk,cE,World.cell?_of_block (w:=w) (w':=w') (by grind),cz h1]
   grind
  .have hil:i<rs.length:=(aC.1 hr).1;have hjl:j<z:=by grind
   have hlt:i*z+j<rs.length*z:=by
    have:(i+1)*z<=rs.length*z:=bD _ hil
    grind
   have:=(h5 i row hr).2 j x hx;rw[aH,<-cJ]at this
   grind
variable(S:Nat->List V->H->(Out->H->Prop)->Prop)(ow:Nat->Bool)
theorem Hz{v:Value}{z:Nat}(h:az G w ρ v (.nl z)):v=.slice none 0 0:=by
 cases h with|o h=>cases h with|c h=>cases h with|k h=>cases h;rfl
theorem UU (hC:an E n G ρ t h a w) (hn:gq E n a o K bS) {ty uy e e' t1 t2:TypeId} {i:TypeInfo} {zs:List V} {x y:Operand} {ox oy:O} (ho:o.op = .call { callee:=.builtin .append,args:= #[x,y],argTypes:= #[ty,uy] })
    (ht:P.underlying ty=some (.slice e)) (hu:P.underlying uy=some (.slice e')) (hi:P.info? e=some i) (hz:vP P e=some zs) (hzl:zs.length=i.size) (hx:cO P t1 x=some ox) (hy:cO P t2 y=some oy)
    (hk:dV S ow (.ap ox oy i.size i.bytes) t h K KP):o.wp P a w bS Q:=by
  have hvx:=Hy hC hx
  have hvy:=Dg (bG hC hy)
  obtain⟨i',z,hi',hz0,hzs,_,_⟩:=kv (G:=G) (w:=w) (ρ := ρ) hz
  rw[hi]at hi'
  cases hi'
  have hue:∃e',P.underlying uy=some (.slice e'):=⟨e',hu⟩
  have hexec:∀{v' w'},(Builtin.append_ #[ty,uy] o.type #[a.eval x,a.eval y]).run P w=.ok v' w'->(execOp a.eval o).run P w=.ok (.value v') w':=by
    intro v' w' hr
    simp[execOp,ho,resolve,invoke,builtin,hr]
  have hgrow:∀c:Obj,ga w (w.drew.alloc c):=λc=>(ga.drew w).trans (ga.alloc w.drew c)
  have hzc:∀k,(Builtin.zeroCells z.cells k).size=k*i.size:=by intro k;rw[size_zeroCells,hzs,hzl]
  have body:∀(xv:V),az G w ρ (a.eval x) xv→∀(ys:List (List D)),bp G w (a.eval y) (.sl i.size ys) →
      (match xv with
        |.os id=>(match get? h id with
          |some (.rows z'' rs)=>(Nat.beq i.size z''=true/\rs.length+ys.length<=9223372036854775807/\(rs.length+ys.length)*i.bytes<=140737488355328) /\
              K (.os id) (mK id t) ((h.map (jP id)).set id (.rows i.size (rs++ys)))
          |_=>False)
        |.nl _=>(ys.length<=9223372036854775807/\ys.length*i.bytes<=140737488355328)/\K (.os h.length) t (h++[.rows i.size ys])
        |.cl z'' rs=>(Nat.beq i.size z''=true/\rs.length+ys.length<=9223372036854775807/\(rs.length+ys.length)*i.bytes<=140737488355328)/\K (.d (.sl i.size (rs++ys))) t h
        |_=>False)->o.wp P a w bS Q:=by
    intro xv hvx ys hDy hk
    obtain⟨hly,news,hfy,hnl,hn1,hnr⟩:=Gm (P:=P) hDy
    split at hk
    · rename_i id
      rw[get?_eq]at hk
      split at hk
      · rename_i z'' rs hrs
        obtain⟨⟨hzz,hb1,hb2⟩,hk⟩:=hk
        obtain rfl:=kA hzz
        obtain⟨ad,nn,c,hv,hρ⟩:=hvx.PT
        have hrep:=hC.ok.hr.rep id _ _ hρ hrs
        obtain⟨base,cap,hhd,hcap,olds,hfo,hol,hor⟩:=E9 (P:=P) hrep
        cases hhd
        have hidl:id<ρ.length:=(aC.1 hρ).1
        by_cases hroom:rs.length+ys.length<=c
        · skip
          rcases hrep with⟨he,rfl⟩|⟨b,cap',arr,ty0,he,h1,h2,h3,h4,h5⟩
          · cases he
            have hys:ys=[]:=bR (by grind)
            subst hys
            have hnn:news=[]:=bR (by grind)
            subst hnn
            have hr:=tW (ty':=o.type) ht hue hi (by simpa using hly) (by grind)
            have hv':a.eval x=.slice none 0 0:=hv
            rw[<-hv']at hr
            have hC':=hC.QI (w':=w) (v1:=.slice none 0 0) (x1:=.rows i.size []) hρ hrs (by simp) rfl (aL _) (λ_ _ _=>rfl) rfl rfl rfl (.inl ⟨rfl,rfl⟩) (λb hb=>.inl hb)
            refine dc (hexec hr) (hn _ _ _ _ _ _ _ hC' (.k (by rw[hv'];exact .os id none 0 0 (bZ hidl))) (by grind))
          · cases he
            have hr:=EY (ty':=o.type) (w:=w) (sLen:=rs.length) (sCap:=c) ht hue hi h1 hly (hfy w rfl) hn1 hroom (by
              rw[h4,hnl,<-fY];exact bD _ hroom)
            rw[<-hv]at hr
            have holds:olds=arr.toList.take (rs.length*i.size):=by
              have h6:=hfo w rfl
              have h7:=run_firstCells_some (P:=P) w i.size rs.length ⟨b,0,none⟩ rs.length c (arr.toList.take (rs.length*i.size)) (by
                simp_all) (λj v hv=>by
                  rw[dk,cE,cz h1]
                  grind)
              grind
            have hsame:∀k,k≠b->(w.setRow b (arr.toList.take (rs.length*i.size)++news++arr.toList.drop (rs.length*i.size+news.length)).toArray).heap[k]?=w.heap[k]?:=λk hk=>setRow_other w b k _ hk
            have hGs:∀k,G k->(w.setRow b (arr.toList.take (rs.length*i.size)++news++arr.toList.drop (rs.length*i.size+news.length)).toArray).heap[k]?=w.heap[k]?:=λk hk=>hsame k (λe=>by
              subst e;exact hC.ok.hr.gd k hk ⟨id,_,_,hρ,hrs,by simp,bT.2 (.inl rfl)⟩)
            have hC':=hC.QI (w':=w.setRow b (arr.toList.take (rs.length*i.size)++news++arr.toList.drop (rs.length*i.size+news.length)).toArray) (v1:=.slice (some ⟨b,0,none⟩) (rs.length+ys.length) c) (x1:=.rows i.size (rs++ys))
              hρ hrs (by simp) rfl (by simp) (λk _ hk=>hsame k (by simp only[gB,ne_eq,aD]at hk;omega)) rfl rfl rfl
              (.inr ⟨b,c,_,ty0,by simp,setRow_heap w b arr _ ty0 _ h1,by grind,h3,by
                have h9:(rs.length+ys.length)*i.size<=c*i.size:=bD _ hroom
                grind,by
                have:=sX (rest:=arr.toList.drop (rs.length*i.size+news.length)) hol hnl hor hnr
                rw[<-holds]
                intro k row hr
                obtain⟨e1,e2⟩:=this k row hr
                exact⟨e1,λj x hx=>(e2 j x hx).mono (λ_ h=>h) (by grind)⟩⟩) (λk hk=>.inl hk)
            refine dc (hexec hr) (hn _ _ _ _ _ _ _ hC' (.k (.os id _ _ _ (bZ hidl))) hk)
        · skip
          have hr:=pZ (ty':=o.type) (w:=w) ht hue hi hz0 rfl (hfo w.drew rfl) hly (hfy w.drew rfl) (by omega) hb1 hb2
          rw[<-hv]at hr
          have hge:=grownCap_ge w (rs.length+ys.length) c e
          have hC':=hC.QI (w':=w.drew.alloc (.cells (olds++news++(Builtin.zeroCells z.cells (grownCap w (rs.length+ys.length) c e-(rs.length+ys.length))).toList).toArray e)) (v1:=.slice (some ⟨w.heap.size,0,none⟩) (rs.length+ys.length) (grownCap w (rs.length+ys.length) c e)) (x1:=.rows i.size (rs++ys))
            hρ hrs (by simp) rfl (hgrow _).size (λk hk _=>(hgrow _).iZ k hk) rfl rfl rfl
            (.inr ⟨w.heap.size,grownCap w (rs.length+ys.length) c e,(olds++news++(Builtin.zeroCells z.cells (grownCap w (rs.length+ys.length) c e-(rs.length+ys.length))).toList).toArray,e,by simp,heap_alloc_new w.drew _,by grind,grownCap_le_maxLen w _ _ e hb1,by
              simp only[eC,aM,cq,hzc,hol,hnl,<-fY]
              grind,by
              have:=sX (rest:=(Builtin.zeroCells z.cells (grownCap w (rs.length+ys.length) c e-(rs.length+ys.length))).toList) hol hnl hor hnr
              intro k row hr
              obtain⟨e1,e2⟩:=this k row hr
              exact⟨e1,λj x hx=>(e2 j x hx).mono (λ_ h=>h) (λb hb=>(hgrow _).iZ b (hC.ok.hr.gl b hb))⟩⟩) (λk hk=>by simp only[gB,aD]at hk;grind)
          refine dc (hexec hr) (hn _ _ _ _ _ _ _ hC' (.k (.os id _ _ _ (bZ hidl))) hk)
      grind
    · rename_i z0
      obtain⟨⟨hb1,hb2⟩,hk⟩:=hk
      have hv:a.eval x=.slice none 0 0:=Hz hvx
      by_cases hys:ys.length=0
      · have hys':ys=[]:=bR hys
        subst hys'
        have hnn:news=[]:=bR (by grind)
        subst hnn
        have hr:=tW (ty':=o.type) ht hue hi (by simpa using hly) (by grind)
        have hC':=hC.push (ga.refl w) (.slice none 0 0) (.rows i.size []) (by simp[gB]) (.inl ⟨rfl,rfl⟩)
        rw[<-hv]at hr hC'
        refine dc (hexec hr) (hn _ _ _ _ _ _ _ hC' (.k ?_) hk)
        rw[hv]
        exact .os h.length none 0 0 (by rw[<-hC.ok.hr.len];simp)
      · have hr:=pZ (ty':=o.type) (w:=w) (sLen:=0) (sCap:=0) (olds:=[]) ht hue hi hz0 rfl (run_firstCells_none w.drew _ _ _ _) hly (hfy w.drew rfl) (by omega) (by omega) (by grind)
        rw[<-hv]at hr
        simp only[cE,List.nil_append]at hr
        have hge:=grownCap_ge w ys.length 0 e
        have hC':=hC.push (hgrow (.cells (news++(Builtin.zeroCells z.cells (grownCap w ys.length 0 e-ys.length)).toList).toArray e)) (.slice (some ⟨w.heap.size,0,none⟩) ys.length (grownCap w ys.length 0 e)) (.rows i.size ys)
          (λb hb=>by simp only[gB,aD]at hb;omega)
          (.inr ⟨w.heap.size,grownCap w ys.length 0 e,(news++(Builtin.zeroCells z.cells (grownCap w ys.length 0 e-ys.length)).toList).toArray,e,rfl,heap_alloc_new w.drew _,hge,grownCap_le_maxLen w _ _ e hb1,by
            simp only[eC,aM,cq,hzc,hnl,<-fY]
            grind,by
            have:=sX (G:=G) (w:=w) (rs:=[]) (olds:=[]) (rest:=(Builtin.zeroCells z.cells (grownCap w ys.length 0 e-ys.length)).toList) (by simp) hnl (by simp) hnr
            intro k row hr
            obtain⟨e1,e2⟩:=this k row (by grind)
            exact⟨e1,λj x hx=>(e2 j x hx).mono (λ_ h=>h) (λb hb=>(hgrow _).iZ b (hC.ok.hr.gl b hb))⟩⟩)
        refine dc (hexec hr) (hn _ _ _ _ _ _ _ hC' (.k (.os h.length _ _ _ ?_)) hk)
        rw[<-hC.ok.hr.len];simp
    · rename_i z'' rs
      obtain⟨⟨hzz,hb1,hb2⟩,hk⟩:=hk
      obtain rfl:=kA hzz
      obtain⟨ad,nn,hv,hD⟩:=hvx.N6
      have hlen:=hD.len
      obtain⟨ad',c',he,_⟩:=hlen
      cases he
      obtain⟨hlx,olds,hfx,hol,_,hor⟩:=Gm (P:=P) hD
      by_cases hys:ys.length=0
      · skip
        have hys':ys=[]:=bR hys
        subst hys'
        have hnn:news=[]:=bR (by grind)
        subst hnn
        have hr:(Builtin.append_ #[ty,uy] o.type #[.slice ad rs.length rs.length,a.eval y]).run P w=.ok (.slice ad rs.length rs.length) w:=by
          have hfy0:=hfy w rfl
          simp only[ak]at hfy0 hly
          cases ad<;>simp[Builtin.append_,run_underlying ht,run_underlying hu,sizeOf,typeInfo,hi,hly,hfy0,storeCells]
        rw[<-hv]at hr
        refine au hC hn (hexec hr) (.d ?_) hk
        grind
      · have hr:=pZ (ty':=o.type) (w:=w) ht hue hi hz0 rfl (hfx w.drew rfl) hly (hfy w.drew rfl) (by omega) hb1 hb2
        rw[<-hv]at hr
        have hge:=grownCap_ge w (rs.length+ys.length) rs.length e
        have hC':=hC.grow (w':=w.drew.alloc (.cells (olds++news++(Builtin.zeroCells z.cells (grownCap w (rs.length+ys.length) rs.length e-(rs.length+ys.length))).toList).toArray e)) (G':=λb=>G b\/b=w.heap.size) (hgrow _) (λb hb=>.inl hb) (λb hb=>by
          rcases hb with hb|rfl
          grind
          · exact .inr ⟨aL _,by simp,_,_,_,heap_alloc_new w.drew _⟩)
        refine dc (hexec hr) (hn _ _ _ _ _ _ _ hC' (.d ?_) hk)
        have hb:cQ G (w.drew.alloc (.cells (olds++news++(Builtin.zeroCells z.cells (grownCap w (rs.length+ys.length) rs.length e-(rs.length+ys.length))).toList).toArray e)) ρ (.slice (some ⟨w.heap.size,0,none⟩) (rs.length+ys.length) (grownCap w (rs.length+ys.length) rs.length e)) (.rows i.size (rs++ys)):=
          .inr ⟨w.heap.size,grownCap w (rs.length+ys.length) rs.length e,_,e,by simp,heap_alloc_new w.drew _,by grind,grownCap_le_maxLen w _ _ e hb1,by
            simp only[eC,aM,cq,hzc,hol,hnl,<-fY]
            grind,by
            have:=sX (rest:=(Builtin.zeroCells z.cells (grownCap w (rs.length+ys.length) rs.length e-(rs.length+ys.length))).toList) hol hnl hor hnr
            intro k row hr
            obtain⟨e1,e2⟩:=this k row hr
            exact⟨e1,λj x hx=>(e2 j x hx).mono (λ_ h=>h) (λb hb=>(hgrow _).iZ b (hC.ok.hr.gl b hb))⟩⟩
        exact hb.data.mono (λb hb=>by
          rcases hb with hb|hb
          grind
          · simp only[gB,aD]at hb;grind) (λ_ _=>rfl)
    grind
  have fin:∀(z':Nat)(ys:List (List D)),bp G w (a.eval y) (.sl z' ys) ->
      (match Sm t ox with
        |.os id=>(match get? h id with
          |some (.rows z'' rs)=>(Nat.beq i.size z''=true/\Nat.beq i.size z'=true/\rs.length+ys.length<=9223372036854775807/\(rs.length+ys.length)*i.bytes<=140737488355328) /\
              pB (mK id t) λt=>flb ((h.map (jP id)).set id (.rows i.size (rs++ys))) λh=>K (.os id) t h
          |_=>False)
        |.nl _=>(Nat.beq i.size z'=true/\ys.length<=9223372036854775807/\ys.length*i.bytes<=140737488355328)/\Pq (fl (h++[.rows i.size ys]) λh'=>iO h.length λn=>K (.os n) t h') (K (.d (.sl i.size ys)) t h)
        |.cl z'' rs=>(Nat.beq i.size z''=true/\Nat.beq i.size z'=true/\rs.length+ys.length<=9223372036854775807/\(rs.length+ys.length)*i.bytes<=140737488355328)/\K (.d (.sl i.size (rs++ys))) t h
        |_=>False)->o.wp P a w bS Q:=by
    intro z' ys hD hk
    split at hk
    · rename_i id hg
      split at hk
      · rename_i h4
        simp only[j6,fH]at hk
        obtain rfl:=kA hk.1.2.1
        grind
      grind
    · rename_i z0 hg
      simp only[bn,cP]at hk
      obtain rfl:=kA hk.1.1
      have hk2:=hk.2
      unfold Pq at hk2
      rcases hk2 with hk2|hk2
      grind
      · have hv:a.eval x=.slice none 0 0:=Hz (hg ▸ hvx)
        exact body (.cl i.size []) (by rw[hv];exact .o (.c (.k (.cl none 0 _ [] (.yv _))))) ys hD ⟨⟨kQ _,by grind,by grind⟩,by grind⟩
    · rename_i z'' rs hg
      obtain rfl:=kA hk.1.2.1
      grind
    grind
  simp only[dV]at hk
  split at hk
  · rename_i z' ys hg
    rw[hg]at hvy
    exact fin z' ys hvy.rj hk
  · rename_i z' ys hg
    rw[hg]at hvy
    obtain⟨ad,nn,hv,hD⟩:=hvy.N6
    grind
  grind
end
end Go.Vx
