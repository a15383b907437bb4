/- Lemmas. Conditions: none. -/
import Derived.Test.YtmigecldjbgneaaGreatDoorQKAI
import Derived.Laws.IdiomStrings
namespace Go.Vx
section
variable{P:Program}{E:gG}{n:Nat}{G:Nat->Prop}{ρ:List Value}{t:T}{h:H}{a:Act}{w:World}{o:Oper}{bS:Act->World->Prop}{Q:Exit->Act->World->Prop}{K KP:V->T->H->Prop}
variable(S:Nat->List V->H->(Out->H->Prop)->Prop)(ow:Nat->Bool)
theorem tp(hC:an E n G ρ t h a w)(hn:gq E n a o K bS){f:PU}{ox:O}{x:Operand}{t1:TypeId}(hx:cO P t1 x=some ox)
  (hrun:∀v,pu f (gv t ox)=some v->∃v',(execOp a.eval o).run P w=.ok (.value v') w/\az G w ρ v' v) (hk:dV S ow (.pu f ox) t h K KP):o.wp P a w bS Q:=by
 have _:=hx;simp only[dV,qv,qv]at hk;split at hk
 .rename_i v hv;obtain⟨v',h1,h2⟩:=hrun v hv;exact au hC hn h1 h2 hk
 grind
theorem T5(hC:an E n G ρ t h a w){ty t1:TypeId}{ag:Bool}{x:Operand}{ox:O}(ho:o.op=.makeInterface ty x)(hni:∀ms,P.underlying ty≠some (.interface ms)){u:TypeDesc}(hu:P.underlying ty=some u)(hty:LT.lt (α :=Nat) ty 1000000)(hx:cO P t1 x=some ox) :
  ∀v,pu (if ag then .XC (ty+2000000)else .mi (ty+3000000)) (gv t ox)=some v->∃v',(execOp a.eval o).run P w=.ok (.value v') w/\az G w ρ v' v:=by
 intro v hv;have hvx:=bG hC hx;have hrun:(execOp a.eval o).run P w=.ok (.value (.iface ty (a.eval x))) w:=by
  simp only[execOp,ho];refine cL ?_;simp only[Instr.makeInterface,Sem.run_bind,run_underlying hu,Result.andThen_ok];simp_all
 refine⟨_,hrun,?_⟩;cases ag
 .simp only[cg,ψ]at hv;simp only[pu]at hv;cases hb:(fP (gv t ox)&&sP (gv t ox)) with
  |false=>grind
  |true=>
   rw[hb]at hv;simp only[δ,aD]at hv;subst hv;simp only[aO]at hb;obtain⟨h1,h2⟩:=rD hvx hb.1 hb.2;refine .c (.fc _ _ #[a.eval x] _ (.inr ⟨by simp,.inr (.inr (.inl ⟨ty,a.eval x,rfl,hty,rfl,h2,rfl⟩))⟩) rfl (λi y hy=>?_))
   match i,hy with
   |0,hy=>simp_all
 .simp only[if_true]at hv;cases hg:gv t ox with
  |ag cs=>
   rw[hg]at hv hvx;simp only[pu]at hv;cases hb:(!cs.isEmpty&&(cs.all fP&&cs.all sP)) with
   |false=>grind
   |true=>
    rw[hb]at hv;simp only[δ,aD]at hv;subst hv;simp only[aO,dA,aP]at hb;obtain⟨cs',h1,h2,h3⟩:=hvx.Pu;rw[h1];have hpos:0<cs'.size:=by
     grind
    refine .c (.fc _ _ cs' _ (.inr ⟨hpos,.inr (.inl ⟨ty,rfl,hty,rfl⟩)⟩) h2 (λi y hy=>?_));have hm:=aG hy;have h4:=h3 i y hy;exact(rD (.c h4) (hb.2.1 y hm) (hb.2.2 y hm)).1
  |_=>rw[hg]at hv;cases hv
theorem ub{F:Nat}{v:Value}{cs:Array Value}(h:FX F v cs)(hF:2000000<=F):(F<3000000/\v=.iface (F-2000000) (.agg cs)/\0<cs.size)\/(3000000<=F/\∃x,v=.iface (F-3000000) x/\cs=#[x]):=by
 rcases h with⟨h,_⟩|⟨h,⟨f,rfl,hf,_⟩|⟨f,rfl,hf,rfl⟩|⟨f,x,rfl,hf,rfl,_,rfl⟩|⟨f,rfl,hf,_⟩⟩
 grind
 grind
 grind
 grind
 grind
theorem T4(hC:an E n G ρ t h a w){xt ty t1:TypeId}{ag ok:Bool}{zv:V}{x:Operand}{ox:O}(ho:o.op=.typeAssert x xt ty ok)(hni:∀ms,P.underlying ty≠some (.interface ms)){u:TypeDesc}(hu:P.underlying ty=some u)(hty:LT.lt (α :=Nat) ty 1000000)(hz:A8 P ty=some zv)
  (hx:cO P t1 x=some ox):∀v,pu (.ta ty ag zv ok) (gv t ox)=some v->∃v',(execOp a.eval o).run P w=.ok (.value v') w/\az G w ρ v' v:=by
 intro v hv;have hvx:=bG hC hx;obtain⟨z,hz1,hz2,_⟩:=w7 (P:=P) (G:=G) (w:=w) (ρ := ρ) hz;have tup:∀(v:Value)(y:V)(b:Bool),dP G w ρ v y->az G w ρ (.tuple #[v,.bool b]) (.tu [y,.d (.bool b)]):=by
  intro v y b hv;refine .tu #[v,.bool b] _ rfl (λi x hx=>?_)
  match i,hx with
  |0,hx=>simp_all
  |1,hx=>cases hx;exact .c (.k (.d (.bool b)))
 have hold:∀(c:Value),a.eval x=.iface ty c->(execOp a.eval o).run P w=.ok (.value (if ok then .tuple #[c,.bool true]else c)) w:=by
  intro c hc;simp only[execOp,ho];refine cL ?_;cases u with
  |interface ms=>grind
  |_=>simp[Instr.typeAssert,Sem.run_bind,run_underlying hu,hc]
 have fail:ok=true->(a.eval x=.nilIface\/∃t' c,a.eval x=.iface t' c/\t'≠ty)->(execOp a.eval o).run P w=.ok (.value (.tuple #[z,.bool false])) w:=by
  intro hok hc;subst hok;simp only[execOp,ho];refine cL ?_;have hzv:(zeroValue ty).run P w=.ok z w:=hz1;cases u with
  |interface ms=>grind
  |_=>
   rcases hc with hc|⟨t',c,hc,hne⟩
   .simp[Instr.typeAssert,Sem.run_bind,run_underlying hu,hc,hzv]
   .simp[Instr.typeAssert,Sem.run_bind,run_underlying hu,hc,hzv,hne]
 cases hg:gv t ox with
 |fc F caps=>
  rw[hg]at hv hvx;obtain⟨cs,hfc,hsz,hr⟩:=hvx.Pk;simp only[pu]at hv;cases hF:Nat.beq F (bif ag then ty+2000000 else ty+3000000) with
  |true=>
   rw[hF]at hv;have hFe:=kA hF;simp only[δ]at hv;cases ag with
   |true=>
    simp only[δ]at hFe;simp only[aD]at hv;subst hv;rcases ub hfc (by omega)with⟨_,hv,_⟩|⟨h1,_⟩
    .rw[show F-2000000=ty by omega]at hv;refine⟨_,hold _ hv,?_⟩;have hrep:dP G w ρ (.agg cs) (.ag caps):=.ag cs caps hsz λi y hy=>.k (hr i y hy);cases ok
     .exact .o hrep
     grind
    grind
   |false=>
    simp only[ε]at hFe;cases caps with
    |nil=>grind
    |cons y ys=>
     simp only[aD]at hv;subst hv;rcases ub hfc (by omega)with⟨h1,_⟩|⟨_,c,hv,rfl⟩
     grind
     .rw[show F-3000000=ty by omega]at hv;refine⟨_,hold _ hv,?_⟩;have hrep:dP G w ρ c y:=.c (.k (hr 0 y rfl));cases ok
      .exact .o hrep
      grind
  |false=>
   rw[hF]at hv;simp only[ε]at hv;cases hb:(ok&&(Nat.ble 2000000 F&&(!(Nat.beq F (ty+2000000))&&!(Nat.beq F (ty+3000000))))) with
   |false=>grind
   |true=>
    rw[hb]at hv;simp only[δ,aD]at hv;subst hv;simp only[aO,dA]at hb;obtain⟨h1,h2,h3,h4⟩:=hb;have h2:=bN h2;have h3:F≠ty+2000000:=λe=>by simp_all
    have h4:F≠ty+3000000:=λe=>by simp_all
    refine⟨_,fail h1 (.inr ?_),tup _ _ false hz2⟩;rcases ub hfc h2 with⟨h5,hv,_⟩|⟨h5,c,hv,_⟩
    grind
    grind
 |d y=>
  rw[hg]at hv hvx;cases y with
  |ni=>
   have hi:a.eval x=.nilIface:=by
    have:=hvx.rj;cases hav:a.eval x<;>rw[hav]at this<;>first|rfl|(cases this;done)|skip
    all_goals (cases this)
   simp only[pu]at hv
   grind
  |_=>cases hv
 |_=>rw[hg]at hv;cases hv
theorem PR(hC:an E n G ρ t h a w){ne:Bool}{ty t1 t2:TypeId}{ms}{x:Operand}{ox:O}(ho:o.op=.binOp (bif ne then .neq else .eql) ty x (.const .nilIface) t2)(hu:P.underlying ty=some (.interface ms))(hx:cO P t1 x=some ox) :
  ∀v,pu (.iq ne) (gv t ox)=some v->∃v',(execOp a.eval o).run P w=.ok (.value v') w/\az G w ρ v' v:=by
 intro v hv;have hvx:=bG hC hx;have e0:a.eval (.const .nilIface)=.nilIface:=rfl;have key:∀(av:Value)(r:Bool),a.eval x=av->(av=.nilIface\/∃t c,av=.iface t c)->(∀k,(Op.equalIn (k+1) ty av .nilIface).run P w=.ok r w)->(execOp a.eval o).run P w=.ok (.value (.bool (bif ne then !r else r))) w:=by
  intro av r he hav heq;have heq:(Op.equal ty av .nilIface).run P w=.ok r w:=heq 9999;cases ne<;>simp only[δ,ε]at ho⊢<;>simp only[execOp,ho,he,e0]
  .refine cL ?_;rcases hav with rfl|⟨t,c,rfl⟩<;>simp[eqGuard,binOp,heq]
  .refine cL ?_;rcases hav with rfl|⟨t,c,rfl⟩<;>simp[eqGuard,binOp,heq]
 cases hg:gv t ox with
 |fc F caps=>
  rw[hg]at hv hvx;obtain⟨cs,hfc,hsz,hr⟩:=hvx.Pk;simp only[pu]at hv;cases hb:Nat.ble 2000000 F with
  |false=>grind
  |true=>
   rw[hb]at hv;simp only[δ,aD]at hv;subst hv;have:∃t' c,a.eval x=.iface t' c:=by
    rcases ub hfc (bN hb)with⟨_,hv,_⟩|⟨_,c,hv,_⟩
    grind
    grind
   obtain⟨t',c,hc⟩:=this;refine⟨_,key _ false hc (.inr ⟨_,_,rfl⟩) (λk=>by simp[Op.equalIn,run_underlying hu]),?_⟩;cases ne<;>exact .d (.bool _)
 |d y=>
  rw[hg]at hv hvx;cases y with
  |ni=>
   have hi:a.eval x=.nilIface:=by
    have:=hvx.rj;cases hav:a.eval x<;>rw[hav]at this<;>first|rfl|(cases this;done)|skip
    all_goals (cases this)
   simp only[pu,aD]at hv;subst hv;refine⟨_,key _ true hi (.inl rfl) (λk=>by simp[Op.equalIn,run_underlying hu]),?_⟩;cases ne<;>exact .d (.bool _)
  |_=>cases hv
 |_=>rw[hg]at hv;cases hv
theorem PO(hC:an E n G ρ t h a w){ne:Bool}{ty t1 t2 e:TypeId}{x:Operand}{ox:O}(ho:o.op=.binOp (bif ne then .neq else .eql) ty x (.const (.pointer none)) t2)(hu:P.underlying ty=some (.pointer e))(hx:cO P t1 x=some ox) :
  ∀v,pu (.pq ne) (gv t ox)=some v->∃v',(execOp a.eval o).run P w=.ok (.value v') w/\az G w ρ v' v:=by
 intro v hv;have hvx:=bG hC hx;have e0:a.eval (.const (.pointer none))=.pointer none:=rfl;have key:∀(q:Option Addr),a.eval x=.pointer q->(execOp a.eval o).run P w=.ok (.value (.bool (bif ne then !q.isNone else q.isNone))) w:=by
  intro q he;have hek:∀k,(Op.equalIn (k+1) ty (.pointer q) (.pointer none)).run P w=.ok q.isNone w:=λk=>by
   cases q<;>simp[Op.equalIn,run_underlying hu]
  have heq:(Op.equal ty (.pointer q) (.pointer none)).run P w=.ok q.isNone w:=hek 9999;cases ne<;>simp only[δ,ε]at ho⊢<;>simp only[execOp,ho,he,e0]
  .refine cL ?_;simp[eqGuard,binOp,heq]
  .refine cL ?_;simp[eqGuard,binOp,heq]
 have fin:∀(q:Option Addr),a.eval x=.pointer q->v=.d (.bool (bif ne then !q.isNone else q.isNone))->∃v',(execOp a.eval o).run P w=.ok (.value v') w/\az G w ρ v' v:=λq h1 h2=>⟨_,key q h1,by rw[h2];exact .d (.bool _)⟩
 generalize a.eval x=av at hvx fin;cases hg:gv t ox with
 |p i o=>
  rw[hg]at hv hvx;cases hvx with|o h=>cases h with|c h=>cases h with|k h=>cases h with|p _ _ b h=>exact fin _ rfl (by cases ne<;>exact(af hv).symm)
 |e r o=>
  rw[hg]at hv hvx;cases hvx with|o h=>cases h with|c h=>cases h with|k h=>cases h with|e b=>exact fin _ rfl (by cases ne<;>exact(af hv).symm)
 |q i z j o=>
  rw[hg]at hv hvx;cases hvx with|o h=>cases h with|c h=>cases h with|k h=>cases h with|q=>exact fin _ rfl (by cases ne<;>exact(af hv).symm)
 |d y=>
  rw[hg]at hv hvx;cases y with
  |np=>
   have:=hvx.rj;cases this;exact fin _ rfl (by cases ne<;>exact(af hv).symm)
  |_=>cases hv
 |_=>rw[hg]at hv;cases hv
theorem T6(hC:an E n G ρ t h a w){ty t1:TypeId}{fs:Array Field}{f:Nat}{fd:Field}{m:Option Nat}{x:Operand}{ox:O}(ho:o.op=.field ty x f)(hu:P.underlying ty=some (.struct fs))(hf:fs[f]?=some fd)(hl:vW P fd.type=some m)(hx:cO P t1 x=some ox) :
  ∀v,pu (.fd fd.offset m) (gv t ox)=some v->∃v',(execOp a.eval o).run P w=.ok (.value v') w/\az G w ρ v' v:=by
 intro v hv;have hvx:=bG hC hx;cases hg:gv t ox with
 |ag cs=>
  rw[hg]at hv hvx;obtain⟨cs',hc,hsz,hr⟩:=hvx.Pu;have hl0:=hl;simp only[vW,aK,aE]at hl;obtain⟨i,hi,b,hb,hm⟩:=hl;cases b with
  |false=>
   simp only[cg,ψ,aD]at hm;subst hm;simp only[pu]at hv;have hlt:fd.offset<cs'.size:=by grind
   refine⟨cs'.getD fd.offset undef,?_,.c (hr _ _ hv)⟩;simp only[execOp,ho,hc];refine cL ?_;simp[Instr.field,run_underlying hu,hf,asAgg,part,iw hb,hlt]
  |true=>
   simp only[if_true,aD]at hm;subst hm;simp only[pu]at hv;cases hbq:Nat.beq ((cs.drop fd.offset).take i.size).length i.size with
   |false=>grind
   |true=>
    rw[hbq]at hv;simp only[δ,aD]at hv;subst hv;have hlen:=kA hbq;rw[a_,dt]at hlen;refine⟨.agg (cs'.extract fd.offset (fd.offset+i.size)),?_,.o (.ag _ _ ?_ (λj y hy=>?_))⟩
    .simp only[execOp,ho,hc];refine cL ?_;simp[Instr.field,run_underlying hu,hf,asAgg,part,iw hb,sizeOf,typeInfo,hi]
    grind
    .have hj:j<i.size:=by
      grind
     rw[bO,ζ hj,bY]at hy;have:=hr _ y hy;have hlt:fd.offset+j<cs'.size:=by grind
     rw[aH,aS hlt]at this;rw[aH,Array.getElem?_extract]
     grind
 |_=>rw[hg]at hv;cases m<;>cases hv
theorem Tp(hC:an E n G ρ t h a w)(hp:Se E n a KP Q){x:Operand}{ox:O}{t1:TypeId}(ho:o.op=.panic x)(hx:cO P t1 x=some ox)(hk:dV S ow (.pn ox) t h K KP):o.wp P a w bS Q:=by
 have hvx:=bG hC hx;simp only[dV]at hk;split at hk
 .rename_i F cs hg;rw[hg]at hvx;obtain⟨cs',hfc,_,_⟩:=hvx.Pk;cases hb:Nat.ble 2000000 F with
  |false=>grind
  |true=>
   rw[hb]at hk;have:∃t' c,a.eval x=.iface t' c:=by
    rcases ub hfc (bN hb)with⟨_,hv,_⟩|⟨_,c,hv,_⟩
    grind
    grind
   obtain⟨t',c,hc⟩:=this;have hq:=hp _ _ _ _ _ _ _ hC hvx hk;unfold Oper.wp;have hrun:(execOp a.eval o).run P w=.halt (.panic (.iface t' c)) w:=by
    simp only[execOp,ho,hc];rfl
   rw[hrun];rw[hc]at hq;exact hq
 grind
theorem T_(hC:an E n G ρ t h a w)(hn:gq E n a o K bS){ty e t1 t2:TypeId}{zs:List V}{ds:List D}{i:TypeInfo}{l c:Operand}{ol oc:O}(ho:o.op=.makeSlice ty l c)(hu:P.underlying ty=some (.slice e))(hz:vP P e=some zs)(hd:zs.mapM Sv=some ds)(hi:P.info? e=some i)
  (hzl:zs.length=P.cellsOf e) (hl:cO P t1 l=some ol) (hc:cO P t2 c=some oc) (hk:dV S ow (.mk ds (P.cellsOf e) i.bytes ol oc) t h K KP):o.wp P a w bS Q:=by
 have hvl:=bG hC hl;have hvc:=bG hC hc;obtain⟨i',z,hi',hz1,hzs,_,hzr⟩:=kv (G:=G) (w:=w) (ρ := ρ) hz;rw[hi]at hi';cases hi';simp only[dV,bn,cP]at hk;split at hk
 .rename_i kl m kc q hgl hgc;rw[hgl]at hvl;rw[hgc]at hvc;have el:=hvl.int;have ec:=hvc.int;obtain⟨⟨h0,h1,h2,h3⟩,hk⟩:=hk;have hsz:P.cellsOf e=i.size:=by simp[Program.cellsOf,hi]
  obtain⟨d1,d2⟩:=wC hd;have hrun:=run_make (P:=P) w ty e i z hu hi hz1 kl kc m q h0 h1 (by grind) h3;have hC2:=hC.push (ga.alloc w (.cells (madeCells z.cells (q.toNat*i.size)) e)) (.slice (some ⟨w.heap.size,0,none⟩) m.toNat q.toNat) (.rows (P.cellsOf e) (List.replicate m.toNat ds)) (by intro b hb;simp only[gB,aD]at hb;omega)
   (.inr ⟨w.heap.size,q.toNat,madeCells z.cells (q.toNat*i.size),e,by simp,heap_alloc_new w _,by grind,by simp only [maxLen];omega,by rw [size_madeCells,hsz],λj row hr=>by
    rw[List.getElem?_replicate]at hr;split at hr
    .rename_i hj;cases hr;refine⟨by grind,λk x hx=>?_⟩;have hkl:k<zs.length:=by grind
     have hks:k<i.size:=by grind
     have hzc:z.cells.size=i.size:=by grind
     have hlt:j*i.size+k<q.toNat*i.size:=by
      have:(j+1)*i.size<=q.toNat*i.size:=bD _ (by omega)
      grind
     have hget:(madeCells z.cells (q.toNat*i.size)).getD (j*P.cellsOf e+k) undef=z.cells.getD k undef:=by
      rw[hsz,aH,madeCells,oV,Array.getElem?_range];rw[ζ hlt,bJ,cR,hzc,Nat.mul_comm,Nat.mul_add_mod,cm hks];simp_all
     rw[hget];have hv:=(hzr k zs[k] (aA hkl)).1;have hdo:=d2 k zs[k] x (aA hkl) hx;have:=KC hv hdo;exact this.mono (λ_ h=>h) (λb hb=>(ga.alloc w _).iZ b (hC.ok.hr.gl b hb))
    grind⟩)
  refine dc ?_ (hn _ _ _ _ _ _ _ hC2 (.k (.os h.length (some ⟨w.heap.size,0,none⟩) m.toNat q.toNat (by rw[<-hC.ok.hr.len];simp))) hk);simp only[execOp,ho,el,ec];simp_all
 grind
theorem Ro{d:D}{x:V}(h:Vz d x=true):x=.d d:=by
 unfold Vz at h;split at h
 grind
 .simp only[aO,ξ]at h;rw[xe h.1,h.2]
 grind
theorem UY(hC:an E n G ρ t h a w)(hn:gq E n a o K bS){ty:TypeId}{zs:List V}{d:D}{m:Nat}(ho:o.op=.alloc ty)(hz:vP P ty=some zs)(hl:zs.length=m)(hm:m<=1000000)(hd:zs.all (Vz d)=true)
  (hk:K (.q h.length 1 0 0) t (h++[.rows 1 (List.replicate m [d])])):o.wp P a w bS Q:=by
 obtain⟨i,z,hi,hz1,hzs,_,hzr⟩:=kv (G:=G) (w:=w) (ρ := ρ) hz;have hC2:=hC.push (ga.alloc w (.cells z.cells ty)) (.slice (some ⟨w.heap.size,0,none⟩) m m) (.rows 1 (List.replicate m [d])) (by intro b hb;simp only[gB,aD]at hb;omega)
  (.inr ⟨w.heap.size,m,z.cells,ty,by simp,heap_alloc_new w _,by simp,by simp only [maxLen];omega,by grind,λj row hr=>by
   rw[List.getElem?_replicate]at hr;split at hr
   .rename_i hj;cases hr;refine⟨rfl,λk x hx=>?_⟩;have hk0:k=0:=by
     grind
    subst hk0;simp at hx;subst hx;have hjl:j<zs.length:=by omega
    have hv:=(hzr j zs[j] (aA hjl)).1;rw[Ro (aP.1 hd _ (dR hjl))]at hv;have hv2:bp G w (z.cells.getD j undef) d:=by
     generalize z.cells.getD j undef=u at hv⊢;cases hv;grind
    rw[Nat.mul_one,eB];exact hv2.mono (λ_ h=>h) (λb hb=>(ga.alloc w _).iZ b (hC.ok.hr.gl b hb))
   grind⟩)
 refine dc (v':=.pointer (some ⟨w.heap.size,0,none⟩)) ?_ (hn _ _ _ _ _ _ _ hC2 (.k (.q h.length 1 0 0 w.heap.size m m (by rw[<-hC.ok.hr.len];simp))) hk);simp[execOp,ho,Instr.alloc,zeroValue,typeInfo,hi,hz1,newVar,newRow]
theorem UF(hC:an E n G ρ t h a w)(hn:gq E n a o K bS){ty t1:TypeId}{x:Operand}{ox:O}{m:Nat}(ho:o.op=.load ty x)(hx:cO P t1 x=some ox)(hl:vW P ty=some (some m))(hk:dV S ow (.la ox m) t h K KP):o.wp P a w bS Q:=by
 have hv:=bG hC hx;simp only[dV]at hk;split at hk
 .rename_i id z i off hg;rw[hg]at hv;obtain⟨b,nn,c,hp,hρ⟩:=hv.ql;rw[get?_eq]at hk;split at hk
  .rename_i z' rs hrs;obtain⟨hq,ds,⟨rfl,hds⟩,hk⟩:=hk;simp only[aO]at hq;obtain⟨⟨⟨q1,q2⟩,q3⟩,q4⟩:=hq;obtain rfl:=kA q1;obtain rfl:=kA q2;obtain rfl:=kA q3;obtain rfl:=kA q4;rw[Nat.zero_mul,eB]at hp;have hrow:∀(j:Nat)(d:D),ds[j]?=some d->∃v,w.cell? ⟨b,0+j,none⟩=some v/\bp G w v d:=λj d hj=>by
    obtain⟨b',cap,arr,ty',hb,h1,h2,hle,h3⟩:=iy (hC.ok.hr.rep id _ _ hρ hrs) (i:=j) (row:=[d]) (by grind);simp only[Value.slice.injEq,aD,Addr.mk.injEq,ω]at hb;obtain⟨rfl,_,_⟩:=hb;have:=h3 0 d rfl
    grind
   refine xc hC hn ho hp hl (U:=λj=>(w.cell? ⟨b,0+j,none⟩).getD undef) (vs:=ds.map .d) (by grind) (λj y hy=>?_) hk;rw[aB]at hy;cases hd:ds[j]? with
   |none=>grind
   |some d=>
    rw[hd]at hy;cases hy;obtain⟨v,h1,h2⟩:=hrow j d hd;rw[h1];exact⟨rfl,.k (.d h2)⟩
  grind
 grind
theorem UG(hC:an E n G ρ t h a w)(hn:gq E n a o K bS){ty e t1 t2:TypeId}{m:Nat}{x i:Operand}{ox oi:O}(ho:o.op=.indexAddr ty x i)(hu:P.underlying ty=some (.array m e))(hc1:P.cellsOf e=1)(hx:cO P t1 x=some ox)(hi:cO P t2 i=some oi)
  (hk:dV S ow (.jq ox oi m) t h K KP):o.wp P a w bS Q:=by
 have hvx:=bG hC hx;have hvi:=bG hC hi;have hrun:∀(b off:Nat)(k:IntKind)(j:Int),a.eval x=.pointer (some ⟨b,off,none⟩)->a.eval i=.int k j->0<=j->j<m ->
   (execOp a.eval o).run P w=.ok (.value (.pointer (some ⟨b,off+j.toNat*P.cellsOf e,none⟩))) w:=by
  intro b off k j h1 h2 h3 h4;unfold Program.cellsOf at hc1⊢;cases hie:P.info? e with
  |none=>grind
  |some ie=>
   simp[execOp,ho,h1,h2,Instr.indexAt,asIntOf,run_underlying hu,h3,h4,sizeOf,typeInfo,hie,dk,Instr.sureAddr]
 simp only[dV]at hk;split at hk
 .rename_i id z j off k q hgx hgi;rw[hgx]at hvx;rw[hgi]at hvi;obtain⟨b,nn,c,hp,hρ⟩:=hvx.ql;obtain⟨hq,⟨h0,h1⟩,hk⟩:=hk;simp only[aO]at hq;obtain⟨⟨q1,q2⟩,q3⟩:=hq;obtain rfl:=kA q1;obtain rfl:=kA q2;obtain rfl:=kA q3;refine au hC hn (hrun b _ k q hp hvi.int h0 h1) ?_ hk;rw[hc1];have:=dN.q (G:=G) (w:=w) id 1 q.toNat 0 b nn c hρ;simp only[Nat.zero_mul,cE,eB]at this⊢;exact .k this
 grind
theorem UX(hC:an E n G ρ t h a w)(hn:gq E n a o K bS){ty e t1 t2:TypeId}{m:Nat}{x i:Operand}{ox oi:O}(ho:o.op=.index ty x i)(hu:P.underlying ty=some (.array m e))(hag:ke P e=some false)(hc1:P.cellsOf e=1)(hx:cO P t1 x=some ox)(hi:cO P t2 i=some oi)
  (hk:dV S ow (.ai ox oi m) t h K KP):o.wp P a w bS Q:=by
 have hvx:=bG hC hx;have hvi:=bG hC hi;simp only[dV]at hk;split at hk
 .rename_i cs k q hgx hgi;rw[hgx]at hvx;rw[hgi]at hvi;obtain⟨cv,e1,hcl,hcr⟩:=hvx.Pu;have e2:=hvi.int;obtain⟨v,⟨h0,h1,h2⟩,hk⟩:=hk;have hlt:q.toNat<cv.size:=by grind
  have hr:=hcr _ _ h2;have hv:bp G w (cv.getD q.toNat undef) v:=by
   generalize cv.getD q.toNat undef=u at hr;cases hr with
   |k h=>cases h;grind
  refine au hC hn (v':=cv.getD q.toNat undef) ?_ (.d hv) hk;have hag':(isAgg e).run P w=.ok false w:=by
   unfold ke at hag;cases hue:P.underlying e with
   |none=>grind
   |some u=>
    rw[hue]at hag;simp only[isAgg,Sem.run_bind,run_underlying hue,Result.andThen];cases u<;>simp_all
  unfold Program.cellsOf at hc1;cases hie:P.info? e with
  |none=>grind
  |some ie=>
   rw[hie]at hc1;simp at hc1;simp[execOp,ho,e1,e2,Instr.index,asIntOf,run_underlying hu,h0,h1,sizeOf,typeInfo,hie,hc1,part,hag',hlt]
 grind
theorem Tm(hC:an E n G ρ t h a w)(hn:gq E n a o K bS){s d e t1:TypeId}{x:Operand}{ox:O}(ho:o.op=.convert s d x)(hs:P.underlying s=some (.slice e))(he:P.underlying e=some (.int .u8))(hd:P.underlying d=some .string)(hx:cO P t1 x=some ox)
  (hk:dV S ow (.sb ox) t h K KP):o.wp P a w bS Q:=by
 have hvx:=Dg (bG hC hx);have nil:∀(c:Nat),a.eval x=.slice none 0 c->K (.d (.str [])) t h->o.wp P a w bS Q:=by
  intro c hv hk;have hr:=bp.str (G:=G) (w:=w) ByteArray.empty (by simp_all);refine au hC hn (v':=.string ByteArray.empty) ?_ (.d hr) hk;simp only[execOp,ho,hv];exact cL (by rw[run_convert_bytes_string w s d e none 0 c hs he hd];rfl)
 have fin:∀(l:List UInt8)(ad:Addr)(c:Nat),a.eval x=.slice (some ad) l.length c->l.length<=maxLen->(∀j(hj:j<l.length),w.cell? (ad.add j)=some (.int .u8 (l[j].toNat:Int)))->K (.d (.str l)) t h->o.wp P a w bS Q:=by
  intro l ad c hv hm hc hk;have hr:=bp.str (G:=G) (w:=w) ⟨l.toArray⟩ (by assumption);simp only at hr;refine au hC hn (v':=.string ⟨l.toArray⟩) ?_ (.d hr) hk;simp only[execOp,ho,hv];exact cL (run_convert_bytes_back w s d e ad c l hs he hd hc)
 have dat:∀(z:Nat)(l:List UInt8)(v:Value),a.eval x=v->bp G w v (.sl z (l.map λb=>[D.int .u8 b.toNat]))->K (.d (.str l)) t h->o.wp P a w bS Q:=by
  intro z l v hv hD hk;generalize hr:(l.map λb=>[D.int .u8 b.toNat])=r at hD;have hnil:r=[]->l=[]:=λe=>by simp_all
  cases hD with
  |yv=>grind
  |sle ad=>rw[hnil rfl]at hk hr;exact fin [] ad 0 hv (by grind) (λj hj=>absurd hj (by simp)) (by grind)
  |sl b oo cap _ _ U h1 h2 h3 h4 h5 h6=>
   subst hr;rw[aI]at hv h1;refine fin l ⟨b,oo,none⟩ cap hv (aX h1 h2) (λj hj=>?_) hk;have hg:(l.map λb=>[D.int .u8 b.toNat])[j]?=some [D.int .u8 l[j].toNat]:=by grind
   have hz:=h4 j _ hg;simp only[aZ,ak]at hz;have hc:=h5 j _ 0 _ hg rfl;have hu:=h6 j _ 0 _ hg rfl;rw[<-hz]at hc;rw[dk,show oo+j=oo+(j*(0+1)+0)by omega,hc];generalize U j 0=u at hu;cases hu;rfl
 simp only[dV]at hk;split at hk
 .rename_i z r hg;rw[hg]at hvx;obtain⟨l,rfl,hk⟩:=hk;exact dat z l _ rfl hvx.rj hk
 .rename_i z r hg;rw[hg]at hvx;obtain⟨ad,m,hv,hD⟩:=hvx.N6
  grind
 .rename_i id hg;rw[hg]at hvx;obtain⟨ad,m,c,hv,hρ⟩:=hvx.PT;rw[get?_eq]at hk;split at hk
  .rename_i z r hr;obtain⟨l,rfl,hk⟩:=hk;rcases hC.ok.hr.rep id _ _ hρ hr with⟨he,hl⟩|⟨b,cap,arr,ty',he,h1,hlc,hcm,hsz,hrow⟩
   simp_all
   .rw[aI]at he hlc;cases he;refine fin l ⟨b,0,none⟩ c hv (aX hlc hcm) (λj hj=>?_) hk;have hg:(l.map λb=>[D.int .u8 b.toNat])[j]?=some [D.int .u8 l[j].toNat]:=by grind
    obtain⟨hz,hD⟩:=hrow j _ hg;simp only[aZ,ak]at hz;have hu:=hD 0 _ rfl;rw[<-hz]at hu hsz;have hjl:j<arr.size:=by omega
    rw[dk,cz h1];have e1:arr.getD (j*(0+1)+0) undef=arr[j]:=by
     rw[show j*(0+1)+0=j by omega,aH,aS hjl];rfl
    rw[e1]at hu;rw[cE,aS hjl];generalize arr[j]=u at hu;cases hu;rfl
  grind
 grind
end
section
variable{P:Program}{E:gG}{n:Nat}{G:Nat->Prop}{ρ:List Value}{t:T}{h:H}{a:Act}{w:World}{o:Oper}{bS:Act->World->Prop}{Q:Exit->Act->World->Prop}{K KP:V->T->H->Prop}
variable(ow:Nat->Bool)
theorem zI{P:Program}{lo:Option Operand}{olo:Option O}(h:(match lo with|none=>some none|some x=>(cO P 0 x).map some)=some olo):(lo=none/\olo=none)\/∃y oy ty',lo=some y/\olo=some oy/\cO P ty' y=some oy:=by
 cases lo with
 |none=>grind
 |some y=>
  simp only[aJ]at h
  grind
theorem ny{α β:Type}{f:α->Option β}:∀{l:List α}{r:List β},l.mapM f=some r->r.length=l.length/\∀(k:Nat)(x:α)(y:β),l[k]?=some x->r[k]?=some y->f x=some y:=by
 intro l
 induction l with
 |nil=>grind
 |cons x l ih=>
  intro r h;simp only[iR,aK,aE,jZ,aD]at h
  grind
theorem Cg(s:ByteArray)(l u:Nat):(s.extract l u).data.toList=(s.data.toList.take u).drop l:=by
 rw[ByteArray.data_extract,Array.toList_extract];rw[List.extract_eq_take_drop];rw[List.drop_take]
theorem Tl(hC:an E n G ρ t h a w)(hn:gq E n a o K bS){ty t1:TypeId}{x:Operand}{lo hi:Option Operand}{ox:O}{olo ohi:Option O}(ho:o.op=.slice ty x lo hi none)(hu:P.underlying ty=some .string)
  (hx:cO P t1 x=some ox) (hlo:(lo=none/\olo=none)\/∃y oy ty',lo=some y/\olo=some oy/\cO P ty' y=some oy) (hhi:(hi=none/\ohi=none)\/∃y oy ty',hi=some y/\ohi=some oy/\cO P ty' y=some oy)
  (hk:dV (Sat P) ow (.ss ox olo ohi) t h K KP):o.wp P a w bS Q:=by
 have hvx:=bG hC hx;have hL:∀l:Int,(∃k,(match olo with|some lo=>gv t lo|none=>.d (.int .i64 0))=.d (.int k l))->(lo=none/\l=0)\/∃y k,lo=some y/\a.eval y=.int k l:=by
  rintro l ⟨k,hl⟩
  rcases hlo with⟨h1,h2⟩|⟨y,oy,ty',h1,h2,h3⟩
  grind
  .subst h2;have:=bG hC h3;simp only at hl;rw[hl]at this;exact .inr ⟨y,k,h1,this.int⟩
 have fin:∀(r:List UInt8)(l u:Int),gv t ox=.d (.str r)->0<=l->l<=u->u<=r.length->K (.d (.str ((r.take u.toNat).drop l.toNat))) t h ->
   (∀s:ByteArray,a.eval x=.string s->s.size=r.length->(execOp a.eval o).run P w=.ok (.value (.string (s.extract l.toNat u.toNat))) w)->o.wp P a w bS Q:=by
  intro r l u hg h0 h1 h2 hk hrun;rw[hg]at hvx;obtain⟨s,hv,rfl,hm⟩:=hvx.str;refine au hC hn (hrun s hv (lS s)) (.d ?_) hk;rw[<-Cg];refine .str _ (aX ?_ hm);rw[lS,Cg,lS]
  grind
 simp only[dV,qv,qv]at hk;split at hk
 .rename_i kl l hl;have hL:=hL l ⟨kl,hl⟩;rcases hhi with⟨rfl,_⟩|⟨_,_,_,_,h2,_⟩
  rotate_left
  grind
  split at hk
  .rename_i r hg;obtain⟨⟨g1,g2⟩,hk⟩:=hk;refine fin r l r.length hg g1 g2 (eT _) (by simp_all) (λs hv hs=>?_);rw[pW,<-hs];rcases hL with⟨rfl,rfl⟩|⟨y,k,rfl,hy⟩
   .simp[execOp,ho,hv,run_sliceAt_string w ty _ _ _ _ hu,Instr.slice,run_underlying hu,Instr.sliceBounds]
   .have hl1:=run_sliceBound (P:=P) w k l s.size .sliceB g1 (by grind);simp[execOp,ho,hv,hy,run_sliceAt_string w ty _ _ _ _ hu,Instr.slice,run_underlying hu,Instr.sliceBounds,hl1]
  grind
 .rename_i kl l ohi hl;have hL:=hL l ⟨kl,hl⟩;rcases hhi with⟨_,h2⟩|⟨yh,oyh,tyh,rfl,h2,hyh⟩
  grind
  cases h2;split at hk
  .rename_i ku u hgu;have hvu:=bG hC hyh;rw[hgu]at hvu;have hvu:=hvu.int;split at hk
   .rename_i r hg;obtain⟨⟨g1,g2,g3⟩,hk⟩:=hk;refine fin r l u hg g1 g2 g3 hk (λs hv hs=>?_);have hu1:=run_sliceBound (P:=P) w ku u s.size .sliceAlen (by omega) (by grind);have hun:(u.toNat:Int)=u:=Int.toNat_of_nonneg (by omega);rcases hL with⟨rfl,rfl⟩|⟨y,k,rfl,hy⟩
    .simp[execOp,ho,hv,hvu,run_sliceAt_string w ty _ _ _ _ hu,Instr.slice,run_underlying hu,Instr.sliceBounds,hu1]
    .have hl1:=run_sliceBound (P:=P) w k l u.toNat .sliceB g1 (by omega);simp[execOp,ho,hv,hvu,hy,run_sliceAt_string w ty _ _ _ _ hu,Instr.slice,run_underlying hu,Instr.sliceBounds,hu1,hl1]
   grind
  grind
 grind
theorem lK{α:Type}{a:Array α}{l:List α}(h:a.toList=l):a=l.toArray:=by grind
theorem xP(hC:an E n G ρ t h a w)(hn:gq E n a o K bS)(hp:Se E n a KP Q){x:X}(hx:kJ P o.type o.op=some x\/x=.bad)(hk:dV (Sat P) ow x t h K KP):o.wp P a w bS Q:=by
 rcases hx with hx|rfl
 case inr=>exact hk.elim
 cases ho:o.op<;>rw[ho]at hx<;>simp only[kJ]at hx<;>try (cases hx;done)
 case move y=>
  split at hx
  .cases hx;simp only[dV,bn,cP]at hk;exact Hi hC hn (.inl ho) hk
  .simp only[aJ]at hx;obtain⟨oy,hy,rfl⟩:=hx;exact PX hC hn (.inl ho) hy hk
 case assign y=>
  split at hx
  .cases hx;simp only[dV,bn,cP]at hk;exact Hi hC hn (.inr ho) hk
  .simp only[aJ]at hx;obtain⟨oy,hy,rfl⟩:=hx;exact PX hC hn (.inr ho) hy hk
 case pick c y z=>
  simp only[aK,aE,aD]at hx;obtain⟨oc,hc,oy,hy,oz,hz,rfl⟩:=hx;simp only[dV,qv,qv]at hk;split at hk
  .exact Tq hC hn ho hc hy hz ‹_› hk
  grind
 case alloc ty=>
  have al:(vP P ty).map X.al=some x->o.wp P a w bS Q:=λhx=>by
   simp only[aJ]at hx;obtain⟨zs,hz,rfl⟩:=hx;simp only[dV,bn,cP]at hk;exact UW hC hn ho hz hk
  split at hx
  .split at hx
   .rename_i m e hu hm;simp only[aK,aE]at hx;obtain⟨zs,hz,hx⟩:=hx;split at hx
    .split at hx
     .rename_i d r hc;simp only[aO,χ]at hc hm;cases hx;simp only[dV,bn,cP]at hk;exact UY hC hn ho hz hc.1 hm.2 hc.2 hk
     grind
    grind
   grind
  grind
 case box ty y=>
  simp only[aJ]at hx;obtain⟨oy,hy,rfl⟩:=hx;simp only[dV,bn,cP]at hk;exact UR hC hn ho hy hk
 case build ty ps=>
  split at hx
  .rename_i fs hu;simp only[aK,aE,aD]at hx;obtain⟨pl,hpl,qs,hqs,zs,hz,rfl⟩:=hx;obtain⟨g1,g2⟩:=ny hqs;refine UT (Sat P) ow hC hn ho hu hpl hz ⟨by grind,λk p q hp hq=>?_⟩ hk;have:=g2 k p q (by grind) hq;simp only[aE,aD]at this
   grind
  grind
 case buildSlice ty m ps=>
  split at hx
  .rename_i e hu;simp only[aK,aE]at hx;obtain⟨qs,hqs,zs,hz,hx⟩:=hx;split at hx
   .rename_i hc;cases hx;simp only[aO,χ,lM]at hc;obtain⟨⟨⟨rfl,hq0⟩,_⟩,_⟩:=hc;subst hq0;obtain⟨g1,_⟩:=ny hqs;have hps:ps=#[]:=gA (by grind);subst hps;exact Tt (Sat P) ow hC hn ho hu hz hk
   .split at hx
    grind
    .rename_i hc;cases hx;simp only[cT,χ,bne_iff_ne,ne_eq,not_or,kS]at hc;obtain⟨⟨⟨c1,c2⟩,c3⟩,c4⟩:=hc;obtain⟨g1,g2⟩:=ny hqs;refine US (Sat P) ow hC hn ho hu hz c4 c1 (by omega) c3 ⟨by grind,λk p q hp hq=>?_⟩ hk;have:=g2 k p q (by grind) hq;simp only[aE,aD]at this
     grind
  grind
 case load ty y=>
  have ld:(do some (X.ld (<-cO P ty y) (<-vW P ty)))=some x->o.wp P a w bS Q:=λhx=>by
   simp only[aK,aE,aD]at hx;obtain⟨oy,hy,m,hm,rfl⟩:=hx;exact UE (Sat P) ow hC hn ho hy hm hk
  split at hx
  .split at hx
   .split at hx
    .simp only[aK,aE]at hx;obtain⟨k,hl,oy,hy,hx⟩:=hx;split at hx
     .rename_i hkm;subst hkm;cases hx;exact UF (Sat P) ow hC hn ho hy hl hk
     grind
    grind
   grind
  grind
 case store ty y z=>
  simp only[aK,aE,aD]at hx;obtain⟨oy,hy,oz,hz,m,hm,rfl⟩:=hx;exact Tk (Sat P) ow hC hn ho hy hz hm hk
 case fieldAddr ty y f=>
  split at hx
  .rename_i fs hu;simp only[aK,aE]at hx;obtain⟨fd,hf,hx⟩:=hx;split at hx
   grind
   .rename_i hz;simp only[aE,aD]at hx;obtain⟨oy,hy,rfl⟩:=hx;exact UL (Sat P) ow hC hn ho hu hf hz hy hk
  grind
 case indexAddr ty y z=>
  split at hx
  .rename_i e hu;split at hx
   grind
   .rename_i hc;simp only[aK,aE,aD]at hx;obtain⟨oy,hy,oz,hz,rfl⟩:=hx;exact UK (Sat P) ow hC hn ho hu hc hy hz hk
  .rename_i m e hu;split at hx
   grind
   .rename_i hc;split at hx
    .split at hx
     .rename_i hc1;simp only[aK,aE,aD]at hx;obtain⟨oy,hy,oz,hz,rfl⟩:=hx;exact UG (Sat P) ow hC hn ho hu hc1 hy hz hk
     grind
    .simp only[aK,aE,aD]at hx;obtain⟨oy,hy,oz,hz,rfl⟩:=hx;exact UH (Sat P) ow hC hn ho hu hc hy hz hk
  grind
 case makeMap ty r=>
  cases r with
  |some r=>grind
  |none=>
   simp only at hx
   repeat' split at hx
   all_goals first
    |(cases hx;done)
    |(cases hx;exact Tx (Sat P) ow hC hn ho hk)
 case range ty y=>
  split at hx
  .rename_i kt e hu;simp only[aJ]at hx;obtain⟨oy,hy,rfl⟩:=hx;exact To (Sat P) ow hC hn ho hu hy hk
  grind
 case next y b=>
  cases b with
  |true=>grind
  |false=>
   simp only[aJ]at hx;obtain⟨oy,hy,rfl⟩:=hx;exact Ts (Sat P) ow hC hn ho hy hk
 case entry y=>
  simp only[aJ]at hx;obtain⟨oy,hy,rfl⟩:=hx;exact UN (Sat P) ow hC hn ho hy hk
 case lookup ty y k ok=>
  split at hx
  .rename_i kt e hu;simp only[aK,aE,aD]at hx;obtain⟨oy,hy,oz,hz,ks,hks,zv,hzv,rfl⟩:=hx;exact Tz (Sat P) ow hC hn ho hu hy hz hks hzv hk
  grind
 case mapUpdate ty y k v=>
  split at hx
  .rename_i kt e hu;simp only[aK,aE,aD]at hx;obtain⟨oy,hy,oz,hz,ov,hv,ks,hks,rfl⟩:=hx;exact PY (Sat P) ow hC hn (.inl ho) hu hy hz hv hks hk
  grind
 case insert ty y k v=>
  split at hx
  .rename_i kt e hu;simp only[aK,aE,aD]at hx;obtain⟨oy,hy,oz,hz,ov,hv,ks,hks,rfl⟩:=hx;exact PY (Sat P) ow hC hn (.inr ho) hu hy hz hv hks hk
  grind
 case binOp b ty y z u=>
  split at hx
  .simp only[aK,aE,aD]at hx;obtain⟨oy,hy,oz,hz,rfl⟩:=hx;exact Ho (Sat P) ow hC hn ho hy hz hk
  .rename_i e hu;split at hx
   .rename_i y;simp only[aJ]at hx;obtain⟨oy,hy,rfl⟩:=hx;exact PW (Sat P) ow hC hn (ne:=false) ho hu hy hk
   .rename_i y;simp only[aJ]at hx;obtain⟨oy,hy,rfl⟩:=hx;exact PW (Sat P) ow hC hn (ne:=true) ho hu hy hk
   grind
  .rename_i ms hu;split at hx
   .simp only[aJ]at hx;obtain⟨oy,hy,rfl⟩:=hx;exact tp (Sat P) ow hC hn hy (PR hC (ne:=false) ho hu hy) hk
   .simp only[aJ]at hx;obtain⟨oy,hy,rfl⟩:=hx;exact tp (Sat P) ow hC hn hy (PR hC (ne:=true) ho hu hy) hk
   grind
  .rename_i e hu;split at hx
   .simp only[aJ]at hx;obtain⟨oy,hy,rfl⟩:=hx;exact tp (Sat P) ow hC hn hy (PO hC (ne:=false) ho hu hy) hk
   .simp only[aJ]at hx;obtain⟨oy,hy,rfl⟩:=hx;exact tp (Sat P) ow hC hn hy (PO hC (ne:=true) ho hu hy) hk
   grind
  .rename_i hni _ _ _;split at hx
   .split at hx
    .simp only[aK,aE,aD]at hx;obtain⟨oy,hy,oz,hz,rfl⟩:=hx;exact Ho (Sat P) ow hC hn ho hy hz hk
    grind
   .split at hx
    grind
    .rename_i hg;simp only[aK,aE,aD]at hx;obtain⟨ks,hf,st,ha,oy,hy,oz,hz,rfl⟩:=hx;exact P0 (Sat P) ow hC hn (ne:=false) ho hy hz (λk e=>hni k e) (by grind) hf ha hk
   .split at hx
    grind
    .rename_i hg;simp only[aK,aE,aD]at hx;obtain⟨ks,hf,st,ha,oy,hy,oz,hz,rfl⟩:=hx;exact P0 (Sat P) ow hC hn (ne:=true) ho hy hz (λk e=>hni k e) (by grind) hf ha hk
   grind
 case unOp u ty y=>
  simp only[aK,aE,aD]at hx;obtain⟨oy,hy,rfl⟩:=hx;exact Tj (Sat P) ow hC hn ho hy hk
 case convert s d y=>
  split at hx
  .rename_i hs hd;simp only[aJ]at hx;obtain⟨oy,hy,rfl⟩:=hx;exact UO (Sat P) ow hC hn ho hs hd hy hk
  .rename_i e hs hd;split at hx
   .rename_i he;simp only[aJ]at hx;obtain⟨oy,hy,rfl⟩:=hx;exact Tm (Sat P) ow hC hn ho hs he hd hy hk
   grind
  grind
 case slice ty y lo hi m=>
  simp only[aK]at hx;split at hx
  .rename_i e hu;split at hx
   grind
   .rename_i hc;simp only[aE,aD]at hx;obtain⟨oy,hy,olo,hlo,ohi,hhi,om,hm,rfl⟩:=hx;exact Tn (Sat P) ow hC hn ho hu hc hy (zI hlo) (zI hhi) (zI hm) hk
  .rename_i hu;split at hx
   .simp only[aE,aD]at hx;obtain⟨oy,hy,olo,hlo,ohi,hhi,rfl⟩:=hx;exact Tl ow hC hn ho hu hy (zI hlo) (zI hhi) hk
   grind
  grind
 case nilCheck y=>
  simp only[aJ]at hx;obtain⟨oy,hy,rfl⟩:=hx;exact Tu (Sat P) ow hC hn ho hy hk
 case index ty y i=>
  split at hx
  .rename_i hu;simp only[aK,aE,aD]at hx;obtain⟨oy,hy,oz,hz,rfl⟩:=hx;exact UI (Sat P) ow hC hn ho hu hy hz hk
  .rename_i m e hu;split at hx
   .rename_i hc;simp only[aO,χ]at hc;simp only[aK,aE,aD]at hx;obtain⟨oy,hy,oz,hz,rfl⟩:=hx;exact UX (Sat P) ow hC hn ho hu hc.1 hc.2 hy hz hk
   grind
  grind
 case extract y i=>
  simp only[aK,aE,aD]at hx;obtain⟨oy,hy,rfl⟩:=hx;exact UM (Sat P) ow hC hn ho hy hk
 case makeInterface ty y=>
  split at hx
  grind
  .rename_i u hni hu;simp only[aK,aE]at hx;obtain⟨ag,_,hx⟩:=hx;split at hx
   .rename_i hty;simp only[aE,aD]at hx;obtain⟨oy,hy,rfl⟩:=hx;exact tp (Sat P) ow hC hn hy (T5 hC ho (λms h=>by grind) hu hty hy) hk
   grind
  grind
 case typeAssert y xt ty ok=>
  split at hx
  grind
  .rename_i u hni hu;simp only[aK,aE]at hx;obtain⟨ag,_,hx⟩:=hx;split at hx
   .rename_i hty;simp only[aE,aD]at hx;obtain⟨zv,hz,oy,hy,rfl⟩:=hx;exact tp (Sat P) ow hC hn hy (T4 hC ho (λms h=>by grind) hu hty hz hy) hk
   grind
  grind
 case field ty y f=>
  split at hx
  .rename_i fs hu;simp only[aK,aE,aD]at hx;obtain⟨fd,hf,m,hl,oy,hy,rfl⟩:=hx;exact tp (Sat P) ow hC hn hy (T6 hC ho hu hf hl hy) hk
  grind
 case panic y=>
  simp only[aJ]at hx;obtain⟨oy,hy,rfl⟩:=hx;exact Tp (Sat P) ow hC hp ho hy hk
 case makeSlice ty l c=>
  split at hx
  .rename_i e hu;simp only[aK,aE]at hx;obtain⟨zs,hz,ds,hd,i,hi,hx⟩:=hx;split at hx
   grind
   .rename_i hc;simp only[aE,aD]at hx;obtain⟨ol,hl,oc,hoc,rfl⟩:=hx;simp only[ne_eq,cT,χ,not_or,kS]at hc;exact T_ (Sat P) ow hC hn ho hu hz hd hi hc.1 hl hoc hk
  grind
 case makeFunc fn first caps=>
  cases fn<;>simp only at hx<;>try (cases hx;done)
  rename_i f;have key:∀(xs:List Operand)(oc:List O),args P xs []=some oc->oc.length=xs.length/\∀(i:Nat)(x:O),oc[i]?=some x->∃y ty,xs[i]?=some y/\cO P ty y=some x:=by
   intro xs
   induction xs with
   |nil=>intro oc h;simp only[args]at h;grind
   |cons x xs ih=>
    intro oc h;simp only[args,aK,aE]at h
    grind
  split at hx
  .rename_i hf;split at hx
   .rename_i hfirst;rw[aJ]at hx;obtain⟨oc,hoc,rfl⟩:=hx;simp only[dV,qv,bn]at hk;obtain⟨g1,g2⟩:=key _ _ hoc;exact PZ hC hn ho hf (.inl ⟨rfl,gA hfirst,rfl⟩) ⟨by grind,λi x hi=>by grind⟩ hk
   .split at hx
    .rename_i hcap;rw[aJ]at hx;obtain⟨oc,hoc,rfl⟩:=hx;simp only[dV,qv,bn]at hk;obtain⟨g1,g2⟩:=key _ _ hoc;exact PZ hC hn ho hf (.inr ⟨rfl,gA hcap,rfl⟩) ⟨by grind,λi x hi=>by grind⟩ hk
    grind
  grind
 case call c=>
  obtain⟨callee,as,ts⟩:=c;cases callee with
  |value f=>
   cases f<;>simp only at hx
   case func f=>
    split at hx
    .rename_i hlt;simp only[aJ]at hx;obtain⟨oa,ha,rfl⟩:=hx;exact UP ow hC hn hp hlt ho rfl ha hk
    grind
   all_goals
    simp only[aK,aE,aD]at hx;obtain⟨oy,hy,oa,ha,rfl⟩:=hx;exact UQ ow hC hn hp ho rfl hy ha hk
  |invoke r m=>grind
  |builtin b=>
   cases b<;>simp only at hx<;>try (cases hx;done)
   case len=>
    split at hx
    .rename_i y u h1 h2;have e1:=lK h1;have e2:=lK h2;subst e1 e2;split at hx
     .simp only[aJ]at hx;obtain⟨oy,hy,rfl⟩:=hx;exact UC (Sat P) ow hC hn ho ‹_› hy hk
     .simp only[aJ]at hx;obtain⟨oy,hy,rfl⟩:=hx;exact UD (Sat P) ow hC hn ho ‹_› hy hk
     .simp only[aJ]at hx;obtain⟨oy,hy,rfl⟩:=hx;exact UB (Sat P) ow hC hn ho ‹_› hy hk
     grind
    grind
   case delete=>
    split at hx
    .rename_i y z u v h1 h2;have e1:=lK h1;have e2:=lK h2;subst e1 e2;split at hx
     .rename_i kt e hu;simp only[aK,aE,aD]at hx;obtain⟨oy,hy,oz,hz,ks,hks,rfl⟩:=hx;exact UA (Sat P) ow hC hn ho hu hy hz hks hk
     grind
    grind
   case clear=>
    split at hx
    .rename_i y u h1 h2;have e1:=lK h1;have e2:=lK h2;subst e1 e2;split at hx
     .rename_i e hu;simp only[aK,aE]at hx;obtain⟨zs,hz,ds,hd,hx⟩:=hx;split at hx
      grind
      .rename_i hc;simp only[aE,aD]at hx;obtain⟨oy,hy,rfl⟩:=hx;simp only[ne_eq,cT,χ,not_or,kS]at hc;exact RE (Sat P) ow hC hn ho hu hz hd hc.1 hc.2 hy hk
     grind
    grind
   case min=>
    split at hx
    .rename_i y z h1;have e1:=lK h1;subst e1;simp only[aK,aE,aD]at hx;obtain⟨oy,hy,oz,hz,rfl⟩:=hx;exact Tw (Sat P) ow hC hn ho hy hz hk
    grind
   case max=>
    split at hx
    .rename_i y z h1;have e1:=lK h1;subst e1;simp only[aK,aE,aD]at hx;obtain⟨oy,hy,oz,hz,rfl⟩:=hx;exact Tv (Sat P) ow hC hn ho hy hz hk
    grind
   case append=>
    split at hx
    .rename_i y z u v h1 h2;have e1:=lK h1;have e2:=lK h2;subst e1 e2;split at hx
     .rename_i e _ hu hv;simp only[aK,aE]at hx;obtain⟨zs,hz,hx⟩:=hx;split at hx
      grind
      .rename_i hc;simp only[aE,aD,aJ]at hx;obtain⟨oy,hy,oz,hoz,by_,⟨i,hi,rfl⟩,rfl⟩:=hx;have hci:P.cellsOf e=i.size:=by simp[Program.cellsOf,hi]
       simp only[ne_eq,cT,χ,not_or,kS]at hc;rw[hci]at hk;exact UU (Sat P) ow hC hn ho hu hv hi hz (by grind) hy hoz hk
     grind
    grind
end
section
variable{P:Program}{E:gG}{n:Nat}{G:Nat->Prop}{ρ:List Value}{t t':T}{h:H}{a:Act}{w:World}{o:Oper}{bS:Act->World->Prop}{Q:Exit->Act->World->Prop}{K:Ex->T->H->Prop}
variable(ow:Nat->Bool)
theorem an.congr(hC:an E n G ρ t h a w)(ht:∀i,gs t' i=gs t i):an E n G ρ t' h a w:=
 ⟨hC.ok,hC.df,hC.sz,λi=>by rw[ht i];exact hC.tm i⟩
def fV(d:Option Nat)(v:V)(t:T):T:=
 match d with
 |some i=>(i,v)::t
 |none=>t
theorem eK(d:Option Nat)(v:V)(t:T)(K:T->Prop):pU d v t K=K (fV d v t):=by
 rw[Sd];rfl
theorem an.fV(hC:an E n G ρ t h a w)(d:Option Nat){v:Value}{x:V}(hd:∀i,d=some i->i<n)(hr:az G w ρ v x):an E n G ρ (Vx.fV d x t) h (a.put d v) w:=by
 have:=hC.put d hd hr;cases d<;>exact this
theorem mP{j:Nat}{v:V}(hj:gs t j=v)(i:Nat):gs ((j,v)::t) i=gs t i:=by
 simp only[gD]
 by_cases e:j=i
 grind
 .rw[fw e];rfl
theorem kL{ops:Array Oper}{i:I}(hi:mq P n ops o=some i):(kJ P o.type o.op=some i.o\/i.o=.bad)/\i.d=o.dst/\(∀k,o.dst=some k->k<n) /\
  (match o.guard with|none=>i.g=none|some (j,x)=>∃d,(ops[j]?).bind (·.dst)=some d/\i.g=some (d,x)):=by
 simp only[mq,aK]at hi;have hx:∀y,(kJ P o.type o.op).getD .bad=y->kJ P o.type o.op=some y\/y=.bad:=λy hy=>by
  cases hc:kJ P o.type o.op with
  |none=>grind
  |some z=>grind
 split at hi
 grind
 .rename_i hd;have hd':∀k,o.dst=some k->k<n:=λk hk=>by
   simp_all
  split at hi
  grind
  .rename_i hg;simp only[aE]at hi
   grind
theorem kf(hC:an E n G ρ t h a w){ops:Array Oper}{j d:Nat}{x b:Bool}(hg:o.guard=some (j,x))(hd:(ops[j]?).bind (·.dst)=some d)(ht:gs t d=.d (.bool b)) :
  Region.wanted o (yielded ops a.tmps)=(b==x):=by
 have h1:=(ht ▸ hC.tm d).bool;have h2:a.tmps[d]?=some (.bool b):=by
  rw[aH]at h1;cases hx:a.tmps[d]? with
  |none=>rw[hx]at h1;cases h1
  |some v=>grind
 simp only[Region.wanted,hg,yielded,hd,Option.bind_some,h2]
 grind
theorem oX(hC:an E n G ρ t h a w){ops:Array Oper}{j d:Nat}{x:Bool}(hg:o.guard=some (j,x))(hd:(ops[j]?).bind (·.dst)=some d)(ht:gs t d=.ud) :
  Region.wanted o (yielded ops a.tmps)=false:=by
 have h1:a.tmps.getD d undef=undef:=by
  have:=ht ▸ hC.tm d;generalize a.tmps.getD d undef=u at this;cases this with|o k=>cases k with|c k=>cases k with|k k=>cases k with
   |ud=>rfl
 simp only[Region.wanted,hg,yielded,hd,Option.bind_some];rw[aH]at h1;cases hx:a.tmps[d]? with
 |none=>rfl
 |some v=>rw[hx]at h1;simp only[cR]at h1;subst h1;rfl
def PQ(E:gG)(n:Nat)(K:Ex->T->H->Prop)(Q:Exit->Act->World->Prop):Prop:=
 ∀(a:Act)(w:World)(G:Nat->Prop)(ρ:List Value)(t:T)(h:H)(v:V)(v':Value),an E n G ρ t h a w->az G w ρ v' v->K (.eU v) t h->Q (.panic [{v:=v',recovered:=false}]) a w
theorem xG:az G w ρ undef .ud:=.k .ud
theorem wm(hC:an E n G ρ t h a w){ops:Array Oper}{i:I}(hi:mq P n ops o=some i){r:List I}(hk:rx (Sat P) ow (i::r) t h K)
  (hnx:∀(a':Act)(w':World)(G':Nat->Prop)(ρ':List Value)(t':T)(h':H),an E n G' ρ' t' h' a' w'->rx (Sat P) ow r t' h' K->bS a' w') (hp:PQ E n K Q) :
  if Region.wanted o (yielded ops a.tmps)then o.wp P a w bS Q else bS (a.put o.dst undef) w:=by
 obtain⟨hx,hd,hlt,hg⟩:=kL hi;have run:∀{t:T},an E n G ρ t h a w->dV (Sat P) ow i.o t h (λv t h=>pU i.d v t λt=>rx (Sat P) ow r t h K) (λv t h=>K (.eU v) t h)->o.wp P a w bS Q:=by
  intro t hC hk;refine xP ow hC (λv' w' G' ρ' t' h' v hC' hv hk'=>?_) (λv' w' G' ρ' t' h' v hC' hv hk'=>hp a w' G' ρ' t' h' v v' hC' hv hk') hx hk;rw[eK,hd]at hk';exact hnx _ _ _ _ _ _ (hC'.fV o.dst hlt hv) hk'
 have pass:∀{t:T},an E n G ρ t h a w->(pU i.d .ud t λt=>rx (Sat P) ow r t h K)->bS (a.put o.dst undef) w:=by
  intro t hC hk;rw[eK,hd]at hk;exact hnx _ _ _ _ _ _ (hC.fV o.dst hlt xG) hk
 cases hgo:o.guard with
 |none=>
  rw[hgo]at hg;simp only at hg;simp only[Cl,A6,hg]at hk;rw[ζ (by simp[Region.wanted,hgo])]
  grind
 |some p=>
  obtain⟨j,x⟩:=p;rw[hgo]at hg;obtain⟨d,hd1,hg⟩:=hg;simp only[Cl,A6,hg]at hk;split at hk
  .rename_i b hb;rw[kf hC hgo hd1 hb];have hC1:=hC.congr (mP hb);cases b<;>cases x<;>simp only[sp,δ,ε]at hk<;>simp only[BEq.rfl,if_true,cg,ψ,ξ,reduceCtorEq]
   grind
   grind
   grind
   grind
  .rename_i hb;rw[oX hC hgo hd1 hb]
   grind
  grind
def QK(E:gG)(n:Nat)(K:Ex->T->H->Prop)(e:Exit)(a:Act)(w:World):Prop:=
  ∃(G:Nat→Prop) (ρ:List Value) (t:T) (h:H),an E n G ρ t h a w∧match e with
    |.normal=>K .qD t h
    |.exit id=>K (.ext id) t h
    |.ret=>K .ret t h
    |.panic ch=>∃v v',ch=[{v:=v',recovered:=false}]/\az G w ρ v' v/\K (.eU v) t h
    |_=>False
theorem PQ.qk:PQ E n K (QK E n K):=λ_ _ G ρ t h v v' hC hv hk=>⟨G,ρ,t,h,hC,v,v',rfl,hv,hk⟩
theorem Qj{ops:Array Oper}:∀(os:List Oper)(is:List I),os.mapM (mq P n ops)=some is->∀(G:Nat->Prop)(ρ:List Value)(t:T)(h:H)(a:Act)(w:World),an E n G ρ t h a w ->
  rx (Sat P) ow is t h K->wpList P ops (QK E n K) os a w:=by
 intro os
 induction os with
 |nil=>
  intro is hm G ρ t h a w hC hk;simp at hm;subst hm;exact wpList_nil ⟨G,ρ,t,h,hC,hk⟩
 |cons o os ih=>
  intro is hm G ρ t h a w hC hk;simp only[iR,aK,aE,jZ,aD]at hm;obtain⟨i,hi,r,hr,rfl⟩:=hm;exact wpList_step λK' hK'=>wm ow hC hi hk (λa' w' G' ρ' t' h' hC' hk'=>hK' _ _ (ih r hr G' ρ' t' h' a' w' hC' hk')) PQ.qk
end
section
variable{P:Program}{t t':T}{h:H}{K:V->Prop}(ow:Nat->Bool)
theorem Mw{x:O}(ht:∀s∈Gv x,gs t' s=gs t s):gv t' x=gv t x:=by
 cases x with
 |s i=>exact ht i (by simp[Gv])
 |g i=>rfl
 |k v=>cases v<;>rfl
theorem D7{α β:Type}{f g:β->α->β}:∀(l:List α)(b:β),(∀x∈l,∀b,f b x=g b x)->l.foldl f b=l.foldl g b:=by
 intro l
 induction l with
 |nil=>grind
 |cons x l ih=>grind
theorem Pt{α:Type}{f g:α->Bool}:∀(l:List α),(∀x∈l,f x=g x)->l.all f=l.all g:=by
 grind
theorem yC{k:IntKind}{n:Int}{K:Int->Prop}(h:Nl k n K):∃m,K m/\Nl k n λu=>u=m:=
 h.elim (λh=>⟨_,h.2,.inl ⟨h.1,rfl⟩⟩) λh=>⟨_,h,.inr rfl⟩
theorem H5{x:X}{e:O->V}(hq:qv x e h K):∃v,K v/\∀e',(∀o∈ops x,e' o=e o)->qv x e' h (λu=>u=v):=by
 cases x<;>simp only[qv,bn,cP]at hq<;>try (exact hq.elim)
 case bd zero ps=>
  refine⟨_,hq.2,λe' he=>?_⟩;have hg:∀p∈ps,e' p.2.2=e p.2.2:=λp hp=>he _ (bQ.2 ⟨p,hp,rfl⟩);simp only[qv,bn];rw[D7 (f:=λcs(p:Nat×Nat×O)=>lay cs p.1 (e' p.2.2).cs) (g:=λcs p=>lay cs p.1 (e p.2.2).cs) ps zero (λp hp b=>by grind),
   Pt (g:=λp=>Nat.beq (e p.2.2).cs.length p.2.1&&Nat.ble (p.1+p.2.1) zero.length&&(e p.2.2).cs.all fP) ps (λp hp=>by grind)]
  grind
 case mf f caps=>
  cases hb:Sx f (caps.map e)<;>rw[hb]at hq
  .refine⟨_,hq.2,λe' he=>?_⟩;have he:∀o∈caps,e' o=e o:=he;have h2:caps.map e'=caps.map e:=cA he;simp only[qv,bn,h2,hb];simp_all
  .refine⟨_,hq,λe' he=>?_⟩;have he:∀o∈caps,e' o=e o:=he;have h2:caps.map e'=caps.map e:=cA he;simp only[qv,bn,h2,hb]
 case ss x lo hi=>cases lo<;>revert hq<;>(repeat' split)<;>intro hq<;>first|exact hq.elim|exact⟨_,hq.2,λe' he=>by simp_all[qv,ops]⟩
 case bin op x y=>
  revert hq
  split<;>intro hq<;>try exact hq.elim
  .cases op<;>first|exact hq.elim|exact⟨_,hq.2,λe' he=>by simp_all[qv,ops]⟩
  .rename_i k a k' b _ _;cases hs:TT op<;>cases hb:Nat.beq (kn k) (kn k')<;>cases op<;>simp only[hs,hb,δ,ε]at hq<;>first
    |exact hq.elim
    |exact⟨_,hq.2,λe' he=>by simp_all[qv,ops]⟩
    |exact⟨_,hq,λe' he=>by simp_all[qv,ops]⟩
    |(obtain⟨m,h1,h2⟩:=yC hq;exact⟨_,h1,λe' he=>by simp_all[qv,ops]⟩)
    |(obtain⟨m,h1,h2⟩:=yC hq.2;exact⟨_,h1,λe' he=>by simp_all[qv,ops]⟩)
 all_goals (try simp only[Su,sp]at hq);revert hq;(repeat' split)<;>intro hq<;>(try exact hq.elim)
 all_goals first
  |exact⟨_,hq,λe' he=>by simp_all[qv,ops,cP,sp]⟩
  |exact⟨_,hq.2,λe' he=>by simp_all[qv,ops,bn,cP,Su]⟩
  |(obtain⟨r,h1,hq⟩:=hq;exact⟨_,hq,λe' he=>by simp_all[qv,ops]⟩)
  |(obtain⟨m,h1,h2⟩:=yC hq;exact⟨_,h1,λe' he=>by simp_all[qv,ops]⟩)
  |(rename_i f c _;cases hb:Nat.blt f 2000000<;>rw[hb]at hq<;>first|exact hq.elim|exact⟨_,hq,λe' he=>by simp_all[qv,ops]⟩)
  |(obtain⟨h1,row,h2,hq⟩:=hq;revert hq;(repeat' split)<;>intro hq<;>first|exact hq.elim|exact⟨_,hq,λe' he=>by simp_all[qv,ops]⟩|exact⟨_,hq.2,λe' he=>by simp_all[qv,ops,bn]⟩)
  |(obtain⟨h1,hq⟩:=hq;revert hq;(repeat' split)<;>intro hq<;>first|exact hq.elim|exact⟨_,hq,λe' he=>by simp_all[qv,ops]⟩)
theorem Pe:∀(cs:List V)(K:List D->T->H->Prop),FP cs [] [] K->∃ds,K ds [] []/\∀(t:T)(h:H)(K':List D->T->H->Prop),K' ds t h->FP cs t h K':=by
 intro cs
 induction cs with
 |nil=>intro K hk;exact⟨[],hk,λt h K' hk=>hk⟩
 |cons x r ih=>
  intro K hk;cases x<;>(try simp only[iJ,uZ]at hk)<;>try (exact hk.elim)
  case d x=>
   obtain⟨ds,h1,h2⟩:=ih _ hk;exact⟨x::ds,h1,λt h K' hk'=>by simp only[iJ,uZ];grind⟩
  case cl z rs=>
   obtain⟨ds,h1,h2⟩:=ih _ hk;exact⟨.sl z rs::ds,h1,λt h K' hk'=>by simp only[iJ,uZ];grind⟩
  case fc f c=>
   cases c with
   |cons c0 c=>
    replace hk:(match wX (c0::c) with
     |some ds=>FP r [] [] λxs t h=>K (.fc f ds::xs) t h
     |none=>False):=hk
    cases hD:wX (c0::c) with
    |none=>grind
    |some cd=>
     rw[hD]at hk;obtain⟨ds,h1,h2⟩:=ih _ hk;exact⟨.fc f cd::ds,h1,λt h K' hk'=>by simp only[iJ,uZ,hD];grind⟩
   |nil=>
   replace hk:FP r [] [] (λxs t h=>K (.fn f::xs) t h):=hk
   obtain⟨ds,h1,h2⟩:=ih _ hk;exact⟨.fn f::ds,h1,λt h K' hk'=>by simp only[iJ,uZ];grind⟩
def Qt(P:Program)(x:X)(t:T)(h:H)(v:V):Prop:=
 ∀t':T,(∀s∈(ops x).flatMap Gv,gs t' s=gs t s)->dV (Sat P) ow x t' h (λv' t'' h'=>v'=v/\t''=t'/\h'=h) (λ_ _ _=>False)
theorem BK{x:X}(hq:qx (Sat P) ow x t h K):∃v,K v/\Qt ow P x t h v:=by
 have ag:∀t':T,(∀s∈(ops x).flatMap Gv,gs t' s=gs t s)->∀o∈ops x,gv t' o=gv t o:=λt' ht o ho=>Mw λs hs=>ht s (aj.2 ⟨o,ho,hs⟩);have gen:qv x (gv t) h K->(∀t' K',qv x (gv t') h (λu=>K' u t' h)->dV (Sat P) ow x t' h K' λ_ _ _=>False)->∃v,K v/\Qt ow P x t h v:=λhq hx=>by
  obtain⟨v,h1,h2⟩:=H5 hq;exact⟨v,h1,λt' ht=>hx t' _ (by grind)⟩
 cases x
 case cf f args=>
  simp only[qx,bn]at hq;have hg:∀t':T,(∀s∈(ops (.cf f args)).flatMap Gv,gs t' s=gs t s)->(args.map λa=>fi (gv t' a))=args.map λa=>fi (gv t a):=λt' ht=>cA λp hp=>by rw[ag t' ht p hp]
  split at hq
  .rename_i h4;obtain⟨r,h2,h3⟩:=hq;refine⟨r,h3,λt' ht=>?_⟩;simp only[dV,bn];rw[hg t' ht];have h6:pR (Sat P) f (args.map λa=>fi (gv t a)) t' h (λv' t'' h'=>v'=r/\t''=t'/\h'=h) (λ_ _ _=>False):=by
    simp only[pR,h4];exact h2.mono λo h' ⟨g1,g2⟩=>by grind
   cases ow f
   .simp only[qc,h4,ε]
    grind
   .cases ow (f+7000000)
    .exact h6
    .simp only[Du,h4,δ];exact h6
  .rename_i i is h4;simp only[mQ,aO,dA]at hq;obtain⟨⟨⟨⟨c1,c2⟩,c3⟩,c4⟩,c5,r,h2,h3⟩:=hq;refine⟨_,h3,λt' ht=>?_⟩;simp only[dV,bn];rw[hg t' ht,c4,ε];simp only[qc,h4];refine .inr (DO ?_);rw[bn,lM.1 c3,Jh];simp only[pR,h4,mQ];refine⟨c1,h2.mono λo h' ⟨g1,g2⟩=>?_⟩;subst g1 g2;rw[bn,lM.1 c2,JN,fH];exact⟨rfl,rfl,c5⟩
 case bs z zero n ps=>
  simp only[qx,bn]at hq;obtain⟨h1,h2⟩:=hq;obtain⟨ds,h3,h4⟩:=Pe _ _ h2;refine⟨_,h3,λt' ht=>?_⟩;have hg:∀p∈ps,gv t' p.2=gv t p.2:=λp hp=>ag t' ht _ (bQ.2 ⟨p,hp,rfl⟩);simp only[dV,bn];rw[D7 (f:=λcs(p:Nat×O)=>lay cs (p.1*z) (gv t' p.2).cs) (g:=λcs p=>lay cs (p.1*z) (gv t p.2).cs) ps _ (λp hp b=>by grind),
   Pt (g:=λp=>Nat.beq (gv t p.2).cs.length z&&Nat.ble (p.1*z+z) (n*z)&&(gv t p.2).cs.all fP) ps (λp hp=>by grind)]
  exact⟨h1,h4 _ _ _ (AP (by grind))⟩
 case ml x k ks zero ok=>
  have e1:∀t',(∀s∈_,gs t' s=gs t s)->gv t' x=gv t x:=λt' ht=>ag t' ht x (.head _);have e2:∀t',(∀s∈(ops (.ml x k ks zero ok)).flatMap Gv,gs t' s=gs t s)->gv t' k=gv t k:=λt' ht=>ag t' ht k (.tail _ (.head _));simp only[qx]at hq;split at hq;rotate_left;exact hq.elim;rename_i id hg;split at hq
  rotate_right
  exact hq.elim
  all_goals
   rename_i es hb;obtain⟨h1,r,h2,h3⟩:=hq;cases r with
   |none=>exact⟨_,h3,λt' ht=>by simp only[dV,e1 t' ht,e2 t' ht,hg,hb];exact⟨h1,none,h2,by simp⟩⟩
   |some p=>exact⟨_,h3.2,λt' ht=>by simp only[dV,e1 t' ht,e2 t' ht,hg,hb];exact⟨h1,some p,h2,h3.1,by simp⟩⟩
 case s3 x lo hi m z=>
  have e1:∀t',(∀s∈_,gs t' s=gs t s)->gv t' x=gv t x:=λt' ht=>ag t' ht x (.head _);have e2:∀t',(∀s∈(ops (.s3 x lo hi m z)).flatMap Gv,gs t' s=gs t s)->∀y,lo=some y->gv t' y=gv t y:=λt' ht y hy=>ag t' ht y (by simp[ops,hy]);have e3:∀t',(∀s∈(ops (.s3 x lo hi m z)).flatMap Gv,gs t' s=gs t s)->∀y,hi=some y->gv t' y=gv t y:=λt' ht y hy=>ag t' ht y (by simp[ops,hy]);clear gen ag;have go:∀t' K',qx (Sat P) ow (.s3 x lo hi m z) t' h (λv=>K' v t' h)->dV (Sat P) ow (.s3 x lo hi m z) t' h K' λ_ _ _=>False:=λt' K' hq=>by
   simp only[qx]at hq;simp only[dV]
   (repeat' split at hq)<;>first|exact hq.elim|(revert hq;simp only[*,imp_self])
  have one:∃v,K v/\qx (Sat P) ow (.s3 x lo hi m z) t h λu=>u=v:=by
   clear go e1 e2 e3;simp only[qx]at hq⊢
   revert hq
   (repeat' split)<;>intro hq<;>first
    |exact hq.elim
    |exact⟨_,hq.2,hq.1,rfl⟩
  obtain⟨v,h1,h2⟩:=one;refine⟨v,h1,λt' ht=>go t' _ ?_⟩;have h3:qx (Sat P) ow (.s3 x lo hi m z) t' h λu=>u=v:=by
   have e1:=e1 t' ht;have e2:=e2 t' ht;have e3:=e3 t' ht;clear go;simp only[qx]at h2⊢;cases lo<;>cases hi<;>simp only[aD,forall_eq',reduceCtorEq,false_implies,implies_true]at e2 e3<;>(repeat' split at h2)<;>first|exact h2.elim|(revert h2;simp only[*,imp_self];done)|(clear e1 ht hq;simp_all)
  clear h2 go e1 e2 e3;simp only[qx]at h3⊢
  revert h3
  (repeat' split)<;>intro h3<;>first
   |exact h3.elim
   |exact⟨h3.1,h3.2,rfl,rfl⟩
   |exact⟨h3.1,h3.2,trivial⟩
   |simp_all
 case ln x|ls x=>
  have e1:∀t',(∀s∈_,gs t' s=gs t s)->gv t' x=gv t x:=λt' ht=>ag t' ht x (List.mem_singleton_self x);simp only[qx]at hq
  revert hq
  (repeat' split)<;>intro hq<;>first
   |exact hq.elim
   |exact⟨_,hq,λt' ht=>by simp[dV,e1 t' ht, *]⟩
 all_goals first|exact gen hq λ_ _ h=>h|exact(show False from hq).elim
end
end Go.Vx
