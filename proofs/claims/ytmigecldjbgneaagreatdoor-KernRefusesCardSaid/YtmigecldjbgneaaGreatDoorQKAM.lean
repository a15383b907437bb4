/- Lemmas. Conditions: none. -/
import Derived.Test.YtmigecldjbgneaaGreatDoorQKAK
import Derived.OrdersHeld
namespace Go.Vx
def fh{α:Type}:Sem α->Prop
 |.pure _=>True
 |.load _ _ k=>∀v,fh (k v)
 |.new _ k=>∀r,fh (k r)
 |.shape _ k=>∀s,fh (k s)
 |.frozen _ k=>∀b,fh (k b)
 |.program k=>∀p,fh (k p)
 |.mark _ k=>fh k
 |.choose _ k=>∀n,fh (k n)
 |.halt _=>True
 |_=>False
theorem Ay{α β:Type}{f:α->Sem β}(hf:∀a,fh (f a))(s:Sem α):fh s->fh (s.bind f):=by
 induction s with
 |pure a=>intro _;exact hf a
 |load _ _ _ ih=>intro h v;exact ih v (h v)
 |new _ _ ih=>intro h v;exact ih v (h v)
 |shape _ _ ih=>intro h v;exact ih v (h v)
 |frozen _ _ ih=>intro h v;exact ih v (h v)
 |program _ ih=>intro h v;exact ih v (h v)
 |mark _ _ ih=>assumption
 |choose _ _ ih=>intro h v;exact ih v (h v)
 |halt _=>intro _;trivial
 |_=>intro h;exact h.elim
theorem bE{α β:Type}{f:α->Sem β}{s:Sem α}(hf:∀a,fh (f a))(h:fh s):fh (s.bind f):=Ay hf s h
def Ext(w w':World):Prop:=w.heap.size<=w'.heap.size/\∀b,b<w.heap.size->w'.heap[b]?=w.heap[b]?
theorem Ext.refl(w:World):Ext w w:=⟨aL _,λ_ _=>rfl⟩
theorem Ext.trans{a b c:World}(h:Ext a b)(g:Ext b c):Ext a c:=
 ⟨aX h.1 g.1,λx hx=>by rw[g.2 x (bj hx h.1),h.2 x hx]⟩
theorem jk{α:Type}{P:Program}:∀{s:Sem α},fh s->∀{w w':World}{x:α},s.run P w=.ok x w'->Ext w w'
 |.pure _,_,w,w',x,hr=>by
  simp only[Sem.run,Result.ok.injEq]at hr;rw[<-hr.2];exact Ext.refl w
 |.load m a k,h,w,w',x,hr=>by
  simp only[Sem.run]at hr;split at hr
  .exact jk (h _) hr
  .split at hr
   .exact jk (h _) hr
   grind
 |.new o k,h,w,w',x,hr=>by
  simp only[Sem.run]at hr;refine Ext.trans ?_ (jk (h _) hr);exact⟨by simp,λb hb=>by grind⟩
 |.shape _ k,h,w,w',x,hr=>by
  simp only[Sem.run]at hr;exact jk (h _) hr
 |.frozen _ k,h,w,w',x,hr=>by
  simp only[Sem.run]at hr;exact jk (h _) hr
 |.program k,h,w,w',x,hr=>by
  simp only[Sem.run]at hr;exact jk (h _) hr
 |.mark _ k,h,w,w',x,hr=>by
  simp only[Sem.run]at hr;exact jk (s:=k) h hr
 |.choose _ k,h,w,w',x,hr=>by
  simp only[Sem.run]at hr;split at hr
  all_goals
   have h1:=jk (h _) hr;exact⟨h1.1,h1.2⟩
 |.halt _,_,w,w',x,hr=>by
  simp_all
def wq(o:Oper):Prop:=match o.op with
 |.move _|.assign _|.extract _ _|.load _ _|.alloc _|.build _ _|.buildSlice _ _ _|.slice _ _ _ _ _=>True
 |_=>False
theorem lA(t:TypeId):fh (typeInfo t):=by
 unfold typeInfo;refine bE (s:=program) (λp=>?_) (λ_=>trivial);split<;>trivial
theorem eZ(t:TypeId):fh (underlying t):=by
 unfold underlying;refine bE (s:=program) (λp=>?_) (λ_=>trivial);split<;>trivial
theorem Av(t:TypeId):fh (isAgg t):=by
 unfold isAgg;refine bE (λp=>?_) (eZ t);split<;>trivial
theorem fp(t:TypeId):fh (sizeOf t):=by
 unfold sizeOf;exact bE (λ_=>trivial) (lA t)
theorem tT(a:Addr):∀(n i:Nat)(acc:Array Value),fh (loadCellsFrom a i n acc)
 |0,_,_=>trivial
 |n+1,i,acc=>by
  unfold loadCellsFrom;exact bE (s:=load (a.add i)) (λv=>tT a n (i+1) _) (λ_=>trivial)
theorem yq(t:TypeId)(v:Value):fh (Instr.loadAt t v):=by
 unfold Instr.loadAt;refine bE (λa=>?_) ?_
 .unfold loadVar;refine bE (λb=>?_) (Av t);split
  .refine bE (s:=sizeOf t) (λn=>?_) (fp t);exact bE (s:=loadCells a n) (λcs=>trivial) (tT a n 0 #[])
  .exact λ_=>trivial
 .unfold Instr.sureAddr;split<;>trivial
theorem Az(t:TypeId):fh (Instr.alloc t true (.tuple #[])):=by
 unfold Instr.alloc;refine bE (λz=>?_) ?_
 .refine bE (λa=>trivial) ?_;exact λ_=>trivial
 .unfold zeroValue;refine bE (λi=>?_) (lA t);split<;>trivial
theorem vl(t:TypeId):fh (zeroValue t):=by
 unfold zeroValue;refine bE (λi=>?_) (lA t);split<;>trivial
theorem vm{α β:Type}{f:α->Sem β}(hf:∀a,fh (f a)):∀l:List α,fh (l.mapM f)
 |[]=>by rw[List.mapM_nil];trivial
 |a::l=>by
  rw[iR];exact bE (λx=>bE (λ_=>trivial) (vm hf l)) (hf a)
theorem yp{α β:Type}{f:α->β}{s:Sem α}(h:fh s):fh (f <$> s):=bE (f:=λa=>Sem.pure (f a)) (λ_=>trivial) h
theorem Aw(t:TypeId)(ps:Array (Nat×Value)):fh (Instr.build t ps):=by
 unfold Instr.build;refine bE (λz=>?_) (vl t);refine bE (λd=>?_) (eZ t);split
 .rw[Array.mapM_eq_mapM_toList];refine bE (λpl=>?_) (yp (vm (λf=>by refine bE (λ_=>?_) (fp f.type);trivial) _));split<;>trivial
 .refine bE (λn=>?_) (fp _);split<;>trivial
 .trivial
theorem sH(t:TypeId)(n:Nat)(ps:Array (Nat×Value)):fh (Instr.buildSlice t n ps):=by
 unfold Instr.buildSlice;refine bE (λd=>?_) (eZ t);split
 .refine bE (λk=>?_) (fp _);dsimp only;have hz:∀{z:Array Value}{e:TypeId},fh (match Instr.fill (λi=>some (i*k,k)) ((Array.range (n*k)).map (λx=>z[x % z.size]!)) ps.toList with
    |some cells=>do pure (.slice (some (<-newRow e cells)) n n)
    |_=>stuck "buildSlice: a part of the wrong size" : Sem Value):=by
   intro z e;split
   .exact bE (λ_=>trivial) (bE (s:=newObj _) (λ_=>trivial) (λ_=>trivial))
   .trivial
  split
  .trivial
  .split
   .exact hz
   .exact bE (λ_=>hz) (vl _)
 .trivial
theorem Au{α:Type}(k:IntKind)(x y:Int)(c:BoundsCode):fh (boundsPanic k x y c:Sem α):=by
 unfold boundsPanic;dsimp only;have hr:∀b,fh (runtimePanic (.bounds (IntKind.i64.wrap x) y b c):Sem α):=λb=>by
  unfold runtimePanic;exact bE (s:=program) (λp=>trivial) (λ_=>trivial)
 split
 .exact bE (λb=>hr b) (yp (s:=choose _) (λ_=>trivial))
 grind
theorem Ax(x:Value)(y:Nat)(c:BoundsCode):fh (Instr.sliceBound x y c):=by
 unfold Instr.sliceBound;refine bE (λp=>?_) ?_
 .obtain⟨k,i⟩:=p;dsimp only;split
  .trivial
  .exact Au _ _ _ _
 .unfold asIntOf;split<;>trivial
theorem kg(b:Bool)(n c:Nat)(lo hi mx:Option Value):fh (Instr.sliceBounds b n c lo hi mx):=by
 unfold Instr.sliceBounds;cases mx<;>cases hi<;>cases lo<;>repeat' (first|exact True.intro|refine bE (λ_=>?_) (Ax _ _ _)|refine bE (s:=Sem.pure _) (λ_=>?_) True.intro)
theorem yr(x:Value):fh (asAddr x):=by
 unfold asAddr;split
 .trivial
 .unfold runtimePanic;exact bE (s:=program) (λp=>trivial) (λ_=>trivial)
 .trivial
theorem As(t:TypeId)(x:Value)(lo hi mx:Option Value):fh (Instr.slice t x lo hi mx):=by
 unfold Instr.slice;refine bE (λd=>?_) (eZ t);split
 .split
  .trivial
  .exact bE (λ_=>trivial) (kg _ _ _ _ _ _)
 .exact bE (λ_=>bE (λ_=>trivial) (fp _)) (kg _ _ _ _ _ _)
 .refine bE (λa=>bE (λd=>?_) (eZ _)) (yr _);split
  .exact bE (λ_=>bE (λ_=>trivial) (fp _)) (kg _ _ _ _ _ _)
  .trivial
 .trivial
theorem wo(t:TypeId)(x:Value)(lo hi mx:Option Value):fh (Instr.sliceAt t x lo hi mx):=by
 unfold Instr.sliceAt;refine bE (λd=>?_) (eZ t);split
 .refine bE (λa=>bE (λ_=>bE (λ_=>trivial) (fp _)) (kg _ _ _ _ _ _)) ?_;unfold Instr.sureAddr;split<;>trivial
 .exact As _ _ _ _ _
theorem EV{o:Oper}(h:wq o)(ρ:Operand->Value):fh (execOp ρ o):=by
 unfold wq at h;unfold execOp;cases ho:o.op<;>rw[ho]at h<;>try exact h.elim
 case move x=>trivial
 case assign x=>trivial
 case extract x i=>
  refine bE (λ_=>trivial) ?_;unfold Instr.extract;split
  .split<;>trivial
  .trivial
 case load t x=>exact bE (λ_=>trivial) (yq t _)
 case alloc t=>exact bE (λ_=>trivial) (Az t)
 case build t ps=>exact bE (λ_=>trivial) (Aw t _)
 case buildSlice t n ps=>exact bE (λ_=>trivial) (sH t n _)
 case slice t x lo hi mx=>exact bE (λ_=>trivial) (wo t _ _ _ _)
theorem Gt{o:Oper}(h:wq o){P:Program}{ρ:Operand->Value}{w w':World}{x:Next}(hr:(execOp ρ o).run P w=.ok x w'):Ext w w'/\∃v,x=.value v:=by
  refine⟨jk (EV h ρ) hr,?_⟩
  unfold wq at h
  have key:∀{s:Sem Value},((do pure (Next.value (←s))):Sem Next).run P w = .ok x w'→∃v,x = .value v:=by
    intro s hs
    have:∀(s:Sem Value)(w:World),(s.bind λv=>Sem.pure (Next.value v)).run P w=.ok x w'->∃v,x=.value v:=by
      intro s
      induction s with
      |pure a=>intro w h;simp only[Sem.bind,Sem.run,Result.ok.injEq]at h;grind
      |load m a k ih=>
        intro w h
        simp only[Sem.bind,Sem.run]at h
        grind
      |store m a v k ih=>
        intro w h
        cases v<;>simp only[Sem.bind,Sem.run]at h<;>first
          |cases h;done
          | (split at h
             · split at h
               · cases h
               · exact ih _ h
             · split at h
               · exact ih _ h
               · cases h)
      |new _ _ ih=>intro w h;simp only[Sem.bind,Sem.run]at h;grind
      |shape _ _ ih=>intro w h;simp only[Sem.bind,Sem.run]at h;grind
      |freeze _ _ _ ih=>intro w h;simp only[Sem.bind,Sem.run]at h;grind
      |frozen _ _ ih=>intro w h;simp only[Sem.bind,Sem.run]at h;grind
      |getObj _ _ ih=>intro w h;simp only[Sem.bind,Sem.run]at h;grind
      |setObj _ _ _ ih=>intro w h;simp only[Sem.bind,Sem.run]at h;grind
      |choose _ _ ih=>intro w h;simp only[Sem.bind,Sem.run]at h;grind
      |sys _ _ ih=>intro w h;simp only[Sem.bind,Sem.run]at h;grind
      |program _ ih=>intro w h;simp only[Sem.bind,Sem.run]at h;grind
      |mark _ _ ih=>assumption
      |halt _=>exact nofun
    exact this s w hs
  unfold execOp at hr
  cases ho:o.op<;>rw[ho]at h hr<;>try exact h.elim
  case move y=>simp only[pure,Sem.run,Result.ok.injEq]at hr;grind
  case assign y=>simp only[pure,Sem.run,Result.ok.injEq]at hr;grind
  all_goals grind
section
variable{P:Program}{E:gG}{n:Nat}{G:Nat->Prop}{ρ:List Value}{t:T}{h:H}{a:Act}{w:World}{o:Oper}{K KP:V->T->H->Prop}
def YP(P:Program)(G:Nat->Prop)(w:World)(ρ:List Value)(a:Act)(o:Oper)(K:V->T->H->Prop)(t:T)(h:H):Prop:=
 ∃v' v,(∀w2,(execOp a.eval o).run P w2=.ok (.value v') w2)/\az G w ρ v' v/\K v t h
def YL(P:Program)(G:Nat->Prop)(w:World)(ρ:List Value)(a:Act)(o:Oper)(K:V->T->H->Prop)(t:T)(h:H):Prop:=
 ∃v' v,(∀w2,Ext w w2->(execOp a.eval o).run P w2=.ok (.value v') w2)/\az G w ρ v' v/\K v t h
theorem e7{v':Value}{v:V}(hr:∀w2,(execOp a.eval o).run P w2=.ok (.value v') w2)(hv:az G w ρ v' v)(hk:K v t h):YP P G w ρ a o K t h:=⟨v',v,hr,hv,hk⟩
theorem Ext.cell{w w2:World}(he:Ext w w2){ad:Addr}{v:Value}(hc:w.cell? ad=some v):w2.cell? ad=some v:=by
 unfold World.cell? at *;have hlt:ad.block<w.heap.size:=by
  grind
 rw[he.2 _ hlt]
 grind
theorem w8{ty:TypeId}{x:Operand}{ad:Addr}{v':Value}{v:V}(ho:o.op=.load ty x)(hp:a.eval x=.pointer (some ad))(hl:vW P ty=some none)
  (hc:w.cell? ad=some v') (hv:dO G w ρ v' v) (hk:K v t h):YL P G w ρ a o K t h:=by
 refine⟨v',v,λw2 he=>?_,.c hv,hk⟩;simp[execOp,ho,hp,Instr.loadAt,Instr.sureAddr,uL hl,he.cell hc]
theorem A9{ty:TypeId}{x:Operand}{b off k:Nat}{U:Nat->Value}{vs:List V}(ho:o.op=.load ty x)(hp:a.eval x=.pointer (some ⟨b,off,none⟩))(hl:vW P ty=some (some k))
  (hlen:vs.length=k) (hU:∀(j:Nat)(y:V),vs[j]?=some y->w.cell? ⟨b,off+j,none⟩=some (U j)/\dO G w ρ (U j) y) (hk:K (.ag vs) t h):YL P G w ρ a o K t h:=by
 refine⟨.agg ((List.range vs.length).map U).toArray,.ag vs,λw2 he=>?_,(.o (.ag _ vs (by simp) (λi y hi=>?_))),hk⟩
 .have hrun:(loadVar ty ⟨b,off,none⟩).run P w2=.ok (.agg ((List.range vs.length).map U).toArray) w2:=by
   refine uK hl _ _ (by grind) (λj v hv=>?_);rw[dk];simp only[aB,aJ]at hv;obtain⟨j',hj',rfl⟩:=hv;have hjl:j<vs.length:=by
    grind
   rw[cp hjl]at hj';cases hj';exact he.cell (hU j _ (aA hjl)).1
  simp[execOp,ho,hp,Instr.loadAt,Instr.sureAddr,hrun]
 .have hil:i<vs.length:=(aC.1 hi).1;simp_all
theorem TB(hC:an E n G ρ t h a w){x:Operand}{ox:O}{ty:TypeId}(ho:o.op=.move x\/o.op=.assign x)(hx:cO P ty x=some ox)(hk:K (gv t ox) t h):YP P G w ρ a o K t h:=by
 refine e7 (v':=a.eval x) (λw=>?_) (bG hC hx) hk;rcases ho with ho|ho<;>simp[execOp,ho]
section
variable(S:Nat->List V->H->(Out->H->Prop)->Prop)(ow:Nat->Bool)
theorem WS(hC:an E n G ρ t h a w){ty t1:TypeId}{x:Operand}{ox:O}{m:Option Nat}(ho:o.op=.load ty x)(hx:cO P t1 x=some ox)(hl:vW P ty=some m)
  (hk:dV S ow (.ld ox m) t h K KP):YL P G w ρ a o K t h:=by
 have hv:=bG hC hx;simp only[dV,qv,qv]at hk;split at hk
 .skip
  rename_i id off hg;rw[hg]at hv;obtain⟨b,hp,hρ⟩:=hv.pt;rw[get?_eq]at hk;split at hk
  .rename_i cs hcs;obtain⟨b',arr,ty',hb,h1,h2,h3⟩:=hC.ok.hr.rep id _ _ hρ hcs;simp only[Value.pointer.injEq,aD,Addr.mk.injEq,ω]at hb;obtain⟨rfl,_⟩:=hb;cases m with
   |none=>
    simp only[get?_eq]at hk;split at hk
    .rename_i v hvv;have hol:off<arr.size:=by grind
     refine w8 ho hp hl (v':=arr[off]) (by rw[cz h1];grind) ?_ hk;have:=h3 off v hvv;simpa[aH,hol]using this
    grind
   |some k=>
    simp only[bn]at hk;have hlen:=kA hk.1;refine A9 ho hp hl (U:=λj=>arr.getD (off+j) undef) hlen (λj y hy=>?_) hk.2;have hj:j<k:=by grind
    rw[bO,ζ hj,bY]at hy;have hol:off+j<arr.size:=by grind
    refine⟨?_,h3 (off+j) y hy⟩;rw[cz h1,aH,aS hol];rfl
  grind
 .skip
  rename_i row off hg;rw[hg]at hv;obtain⟨b,oo,U,hp,hGb,hU,hD⟩:=hv.el;cases m with
  |none=>
   simp only[get?_eq]at hk;split at hk
   .rename_i v hvv;exact w8 ho hp hl (hU off v hvv) (.k (.d (hD off v hvv))) hk
   grind
  |some k=>
   simp only[bn]at hk;have hlen:=kA hk.1;refine A9 ho hp hl (U:=λj=>U (off+j)) hlen (λj y hy=>?_) hk.2;have hj:j<k:=by grind
   rw[aB,bO,ζ hj,bY]at hy;cases hr:row[off+j]? with
   |none=>grind
   |some y0=>
    rw[hr]at hy;cases hy;exact⟨by grind,.k (.d (hD _ _ hr))⟩
 .skip
  rename_i id z i off hg;rw[hg]at hv;obtain⟨b,nn,c,hp,hρ⟩:=hv.ql;have one:∀(z':Nat)(rs:List (List D)),cQ G w ρ (.slice (some ⟨b,0,none⟩) nn c) (.rows z' rs)->(Nat.beq z z'=true/\∃row,rs[i]?=some row/\(match m with
    |none=>(match get? row off with|some v=>K (.d v) t h|none=>False)
    |some n=>fl (((row.drop off).take n).map .d) λcs=>Nat.beq cs.length n=true/\K (.ag cs) t h))->YL P G w ρ a o K t h:=by
   rintro z' rs hrep ⟨hz,row,hrow,hk⟩
   obtain rfl:=kA hz;obtain⟨b',cap,arr,ty',hb,h1,h2,hle,h3⟩:=iy hrep hrow;simp only[Value.slice.injEq,aD,Addr.mk.injEq,ω]at hb;obtain⟨rfl,_,_⟩:=hb;cases m with
   |none=>
    simp only[get?_eq]at hk;split at hk
    .rename_i v hvv;exact w8 ho hp hl (h3 off v hvv).1 (.k (.d (h3 off v hvv).2)) hk
    grind
   |some k=>
    simp only[bn]at hk;have hlen:=kA hk.1;refine A9 ho hp hl (U:=λj=>arr.getD (i*z+(off+j)) undef) hlen (λj y hy=>?_) hk.2;have hj:j<k:=by grind
    rw[aB,bO,ζ hj,bY]at hy;cases hr:row[off+j]? with
    |none=>grind
    |some y0=>
     rw[hr]at hy;cases hy;exact⟨by grind,.k (.d (h3 _ _ hr).2)⟩
  rw[get?_eq]at hk;split at hk
  .rename_i z' rs hrs;exact one z' rs (hC.ok.hr.rep id _ _ hρ hrs) (by cases m<;>exact hk)
  .rename_i z' rs hrs;have hq:=hC.ok.hr.rep id _ _ hρ hrs;exact one z' rs hq (by cases m<;>exact hk)
  .rename_i z' rs i' row hrs;obtain⟨⟨hz,rfl⟩,hk⟩:=hk;obtain rfl:=kA hz;obtain⟨b',cap,arr,ty',hb,h1,h2,h3,h4,⟨h0,hrz⟩,h5,h6⟩:=hC.ok.hr.rep id _ _ hρ hrs;simp only[Value.slice.injEq,aD,Addr.mk.injEq,ω]at hb;obtain⟨rfl,_,_⟩:=hb;cases m with
   |none=>
    simp only[get?_eq]at hk;split at hk
    .rename_i v hvv;have hol:off<row.length:=(aC.1 hvv).1;have hle:i*z+z<=arr.size:=by
      rw[h4];have:(i+1)*z<=cap*z:=bD _ (by omega)
      grind
     refine w8 ho hp hl (v':=arr.getD (i*z+off) undef) ?_ (h6 off v hvv) hk;rw[cz h1,aH,aS (by omega)];rfl
    grind
   |some k=>grind
  grind
 grind
theorem WU(hC:an E n G ρ t h a w){ty t1:TypeId}{x:Operand}{f:Nat}{fs:Array Field}{fd:Field}{ox:O}(ho:o.op=.fieldAddr ty x f)(hu:P.underlying ty=some (.struct fs))(hf:fs[f]?=some fd)
  (hz:P.cellsOf fd.type≠0) (hx:cO P t1 x=some ox) (hk:dV S ow (.fa ox fd.offset) t h K KP):YP P G w ρ a o K t h:=by
 have hv:=bG hC hx;have hrun:∀ad:Addr,a.eval x=.pointer (some ad)->∀w:World,(execOp a.eval o).run P w=.ok (.value (.pointer (some (ad.add fd.offset)))) w:=by
  intro ad had w;unfold Program.cellsOf at hz;cases hi:P.info? fd.type with
  |none=>grind
  |some i=>
   rw[hi]at hz;simp at hz;simp[execOp,ho,had,Instr.fieldAt,run_underlying hu,hf,Instr.sureAddr,fieldPlace,sizeOf,typeInfo,hi,hz]
 simp only[dV,qv,qv]at hk;split at hk
 .rename_i id off hg;rw[hg]at hv;obtain⟨b,hp,hρ⟩:=hv.pt;rw[cP]at hk;refine e7 (hrun _ hp) ?_ hk;rw[dk];exact .k (.p id _ b hρ)
 .rename_i row off hg;rw[hg]at hv;obtain⟨b,oo,U,hp,hGb,hU,hD⟩:=hv.el;rw[cP]at hk;refine e7 (hrun _ hp) ?_ hk;rw[dk,Nat.add_assoc];exact .k (.e b oo _ row U hGb hU hD)
 .rename_i id z i off hg;rw[hg]at hv;obtain⟨b,nn,c,hp,hρ⟩:=hv.ql;rw[cP]at hk;refine e7 (hrun _ hp) ?_ hk;rw[dk,Nat.add_assoc];exact .k (.q id z i _ b nn c hρ)
 grind
theorem WT(hC:an E n G ρ t h a w){ty e t1 t2:TypeId}{x i:Operand}{ox oi:O}(ho:o.op=.indexAddr ty x i)(hu:P.underlying ty=some (.slice e))(hc0:P.cellsOf e≠0)(hx:cO P t1 x=some ox)(hi:cO P t2 i=some oi)
  (hk:dV S ow (.ia ox oi (P.cellsOf e)) t h K KP):YP P G w ρ a o K t h:=by
 have hvx:=bG hC hx;have hvi:=bG hC hi;have hrun:∀(b off len cap:Nat)(k:IntKind)(m:Int),a.eval x=.slice (some ⟨b,off,none⟩) len cap->a.eval i=.int k m->0<=m->m<len ->
   ∀w:World,(execOp a.eval o).run P w=.ok (.value (.pointer (some ⟨b,off+m.toNat*P.cellsOf e,none⟩))) w:=by
  intro b off len cap k m h1 h2 h3 h4 w;unfold Program.cellsOf at hc0⊢;cases hie:P.info? e with
  |none=>grind
  |some ie=>
   simp[execOp,ho,h1,h2,Instr.indexAt,asIntOf,run_underlying hu,h3,h4,sizeOf,typeInfo,hie,dk]
 simp only[dV,qv,qv]at hk;split at hk
 .rename_i k m hgi;rw[hgi]at hvi;have hei:=hvi.int;have data:∀(z':Nat)(rows:List (List D)),bp G w (a.eval x) (.sl z' rows)->(∃row,(0<=m/\rows[m.toNat]?=some row/\Nat.beq z' (P.cellsOf e)=true)/\K (.e row 0) t h)->YP P G w ρ a o K t h:=by
   rintro z' rows hD ⟨row,⟨h0,hr,hz⟩,hk⟩
   obtain rfl:=kA hz;have hlt:m.toNat<rows.length:=(aC.1 hr).1;rcases hD.Q0 with⟨_,rfl⟩|⟨b,oo,cap,U,hv,g1,g2,g3,g4,g5,g6⟩
   grind
   .exact e7 (hrun b oo rows.length cap k m hv hei h0 (by omega)) (.k (.e b (oo+m.toNat*P.cellsOf e) 0 row (λj=>U m.toNat j) g3 (λj x hj=>by grind) (λj x hj=>g6 _ _ _ _ hr hj))) hk
  split at hk
  .rename_i z' rows hgx;rw[hgx]at hvx;exact data z' rows hvx.rj hk
  .rename_i z' rows hgx;rw[hgx]at hvx;obtain⟨ad,nn,hv,hD⟩:=hvx.N6
   grind
  .rename_i id hgx;rw[hgx]at hvx;obtain⟨ad,nn,c,hv,hρ⟩:=hvx.PT;have one:∀(z':Nat)(rs:List (List D)),cQ G w ρ (.slice ad nn c) (.rows z' rs)->((0<=m/\m<rs.length/\Nat.beq z' (P.cellsOf e)=true)/\K (.q id (P.cellsOf e) m.toNat 0) t h)->YP P G w ρ a o K t h:=by
    rintro z' rs hrep ⟨⟨h0,hlt,hz⟩,hk⟩
    obtain rfl:=kA hz;have hlt':m.toNat<rs.length:=by omega
    obtain⟨b',cap,arr,ty',hb,h1,h2,hle,h3⟩:=iy hrep (aA hlt');simp only[Value.slice.injEq]at hb;obtain⟨rfl,rfl,rfl⟩:=hb;refine e7 (hrun b' 0 rs.length c k m hv hei h0 hlt) ?_ hk;rw[cE];exact .k (.q id _ _ 0 b' _ _ hρ)
   rw[get?_eq]at hk;split at hk
   .rename_i z' rs hrs;exact one z' rs (hC.ok.hr.rep id _ _ hρ hrs) hk
   .rename_i z' rs hrs;have hq:=hC.ok.hr.rep id _ _ hρ hrs;exact one z' rs hq hk
   grind
  grind
 grind
theorem WV(hC:an E n G ρ t h a w){t1:TypeId}{x:Operand}{i:Nat}{ox:O}(ho:o.op=.extract x i)(hx:cO P t1 x=some ox)(hk:dV S ow (.ex ox i) t h K KP):YP P G w ρ a o K t h:=by
 have hvx:=bG hC hx;simp only[dV,qv,qv]at hk;split at hk
 .rename_i vs hg;rw[hg]at hvx;obtain⟨cs,hv,hs,hr⟩:=hvx.Vk;rw[get?_eq]at hk;split at hk
  .rename_i v hi;have hil:i<cs.size:=by grind
   refine e7 (v':=cs.getD i undef) (λw=>?_) (.o (hr i v hi)) hk;simp[execOp,ho,Instr.extract,hv,hil]
  grind
 grind
theorem WW(hC:an E n G ρ t h a w){ty:TypeId}{fs:Array Field}{ps:Array (Nat×Operand)}{pl:List (Nat×Nat)}{oq:List (Nat×Nat×O)}{zs:List V}(ho:o.op=.build ty ps)(hu:P.underlying ty=some (.struct fs))
  (hpl:fs.toList.mapM (λf=>(P.info? f.type).map λi=>(f.offset,i.size))=some pl) (hz:vP P ty=some zs)
  (hq:oq.length=ps.size/\∀(k:Nat)(p:Nat×Operand)(q:Nat×Nat×O),ps[k]?=some p->oq[k]?=some q->pl[p.1]?=some (q.1,q.2.1)/\∃ty',cO P ty' p.2=some q.2.2)
  (hk:dV S ow (.bd zs oq) t h K KP):YP P G w ρ a o K t h:=by
 simp only[dV,qv,bn]at hk;obtain⟨hall,hk⟩:=hk;obtain⟨i,z,hi,hz0,hzs,_,hzr⟩:=kv (G:=G) (w:=w) (ρ := ρ) hz;have hall':∀q∈oq,(gv t q.2.2).cs.length=q.2.1/\q.1+q.2.1<=zs.length/\(gv t q.2.2).cs.all fP=true:=by
  intro q hq;have:=aP.1 hall q hq;simp_all
 obtain⟨out,o1,o2,o3⟩:=xq (G:=G) (w:=w) (ρ := ρ) (pl.toArray[·]?) (ps.map λ(i,x)=>(i,a.eval x)).toList (oq.map λq=>(q.1,(gv t q.2.2).cs)) z.cells zs (by grind)
  (λk p q hp hq'=>by
   simp only[qw,aB,aJ]at hp hq';obtain⟨p0,hp0,rfl⟩:=hp;obtain⟨q0,hq0,rfl⟩:=hq';obtain⟨g1,ty',g2⟩:=hq.2 k p0 q0 (by grind) hq0;obtain⟨e1,e2,e3⟩:=hall' q0 (aG hq0);obtain⟨c1,c2⟩:=jV (bG hC g2) e3
   grind)
  hzs (λj x hx=>.k (hzr j x hx).1)
 rw[foldl_map']at o3;have hb:P.built ty (ps.map λ(i,x)=>(i,a.eval x)).toList=some out:=by
  simp only[Program.built,hi,hu,hz0,hpl]
  grind
 refine e7 (v':=.agg out) (λw2=>?_) (.o (.ag out _ ?_ o3)) hk
 .simp only[execOp,ho];exact cL (run_build w2 ty _ out hb)
 .have:∀(l:List (Nat×Nat×O))(c:List V),(l.foldl (λcs p=>lay cs p.1 (gv t p.2.2).cs) c).length=c.length:=by
   intro l
   induction l with
   |nil=>grind
   |cons q l ih=>intro c;simp only[gb];rw[ih,jo]
  grind
theorem WR(hC:an E n G ρ t h a w){t1:TypeId}{x:Operand}{ox:O}(ho:o.op=.nilCheck x)(hx:cO P t1 x=some ox)(hk:dV S ow (.nc ox) t h K KP):YP P G w ρ a o K t h:=by
 have hvx:=bG hC hx;simp only[dV,qv,qv]at hk;split at hk
 .rename_i i oo hg;rw[hg]at hvx;obtain⟨b,hv,_⟩:=hvx.pt;exact e7 (v':=a.eval x) (λw=>by simp[execOp,ho,hv]) hvx hk
 .rename_i r oo hg;rw[hg]at hvx;obtain⟨b,_,_,hv,_⟩:=hvx.el;exact e7 (v':=a.eval x) (λw=>by simp[execOp,ho,hv]) hvx hk
 .rename_i i z j oo hg;rw[hg]at hvx;obtain⟨b,_,_,hv,_⟩:=hvx.ql;exact e7 (v':=a.eval x) (λw=>by simp[execOp,ho,hv]) hvx hk
 .rename_i f c hg;rw[hg]at hvx;obtain⟨cs,hv,_⟩:=hvx.Pk;cases hb:Nat.blt f 2000000<;>rw[hb]at hk
  grind
  have hlt:f<2000000:=by simp_all
  obtain⟨g,y1,y2,hv'⟩:=Dc hv hlt;exact e7 (v':=a.eval x) (λw=>by simp[execOp,ho,hv']) hvx hk
 .rename_i f hg;rw[hg]at hvx;have hv:a.eval x=.func (.func f) #[] #[]:=B_ hvx.rj;exact e7 (v':=a.eval x) (λw=>by simp[execOp,ho,hv]) hvx hk
 .rename_i row off hg;rw[hg]at hvx;have hv:=hvx.rj;generalize hav:a.eval x=av at hv;cases hv with
  |pt b o _ _ U h1 h2 h3=>exact e7 (v':=a.eval x) (λw=>by simp[execOp,ho,hav]) (by rw[hav];exact .k (.e b o off row U h1 h2 h3)) hk
 grind
end
theorem wU{P:Program}{ty:TypeId}{op:Op}{x:X}(hx:kJ P ty op=some x)(hs:Gr x=true\/qL x=true\/LA x=true):(∃y,op=.move y)\/(∃y,op=.assign y)\/(∃y i,op=.extract y i)\/(∃t y,op=.load t y)\/(∃t,op=.alloc t)\/(∃y,op=.nilCheck y)\/(∃t y f,op=.fieldAddr t y f)\/(∃t ps,op=.build t ps)\/(∃t n ps,op=.buildSlice t n ps)\/(∃t y lo hi mx,op=.slice t y lo hi mx)\/∃t y z,op=.indexAddr t y z:=by
 cases op
 grind
 grind
 case extract y i=>grind
 case load t y=>grind
 case alloc t=>grind
 case nilCheck y=>grind
 case fieldAddr t y f=>grind
 case build t ps=>grind
 case buildSlice t n ps=>grind
 case slice t y lo hi mx=>grind
 case indexAddr t y z=>grind
 all_goals
  exfalso;simp only[kJ,aK]at hx
  repeat' (first
   |contradiction
   |(cases hx;done)
   |(obtain⟨_,hx⟩:=hx)
   |(split at hx)
   |(simp only[aJ,aE,aD,reduceCtorEq]at hx)
   |(rcases hs with hs|hs|hs<;>cases hs;done))
end
section
variable{P:Program}{ops:Array Oper}{Q:Exit->Act->World->Prop}{S:World->Prop}{md:Region.Mode}
theorem EK{j:Nat}{oi oj:Oper}{v:Value}(hj:ops[j]?=some oj)(hap:oi.apart ops oj=true)
  (hsi:∀cs b,oi.op≠.select cs b) (hsj:∀cs b,oj.op≠.select cs b) (hQ:∀c a w,¬Q (.panic c) a w)
  (hS:(∀w,S w)\/(wq oj/\∀w w',S w->Ext w w'->S w')) {K:Act->World->Prop} {a:Act} {w:World}
  (hw:S w) (hy:YieldsIf P ops S oi v a) (h:wpOp P ops Q j K (a.put oi.dst v) w) :
  wpOp P ops Q j (λa' w'=>S w'/\YieldsIf P ops S oi v a'/\K (a'.put oi.dst v) w') a w:=by
 rcases hS with hS|⟨hso,hS⟩
 .exact wpOp_mono (λa' w' h=>⟨hS w',h⟩) (wpOp_putIf hj hap hsi hsj (λc a w h=>(hQ c _ w h).elim) hy h)
 .have h':=wpOp_putIf hj hap hsi hsj (λc a w h=>(hQ c _ w h).elim) hy h;unfold wpOp at h'⊢;simp only[hj]at h'⊢;split
  .rename_i hwn;rw[ζ hwn]at h';rcases h' with h'|h'
   .refine .inl ?_;unfold Oper.wp at h'⊢;cases hr:(execOp a.eval oj).run P w with
    |ok x w'=>
     rw[hr]at h';obtain⟨he,v',rfl⟩:=Gt hso hr;exact⟨hS w w' hw he,h'⟩
    |halt x w'=>
     rw[hr]at h';cases x<;>exact h'
   grind
  grind
theorem tR{n m:Nat}{is:List I}{bs:List (List Nat)}(D:Pz P n ops is bs m){i:Nat}{oi:Oper}{v:Value}(hi:ops[i]?=some oi)(hsel:∀(j:Nat)(o:Oper) cs b,ops[j]?=some o->o.op≠.select cs b)
    (hQ:∀c a w,¬Q (.panic c) a w) :
    ∀(fuel:Nat) (listed:Array Bool) (a:Act) (w:World),listed.size=ops.size →
      (∀(j:Nat)(b:List Nat),listed.getD j false=true->bs[j]?=some b->∀k∈b,listed.getD k false=true) ->
      (∀j oj,ops[j]?=some oj->j≠i->listed.getD j true=false->(∀b,bs[j]?=some b->i∉b)->oi.apart ops oj=true/\((∀w,S w)\/(wq oj/\∀w w',S w->Ext w w'->S w'))) ->
      i∈Region.ready .any ops listed->YieldsIf P ops S oi v a->S w ->
      wpAny P .any ops Q fuel (listed.setIfInBounds i true) (a.put oi.dst v) w->wpAny P .any ops Q (fuel+1) listed a w:=by
  intro fuel
  induction fuel with
  |zero=>
    intro listed a w _ _ _ hr hy hS H
    refine⟨λh=>(by grind),λj hj=>?_⟩
    by_cases hji:j=i
    · subst hji;exact hy.wpOp hi hS H
    · have:=ready_mono hj hji
      rw[H.1]at this
      grind
  |succ fuel ih=>
    intro listed a w hsz hcl hfree hr hy hS H
    refine⟨λh=>(by grind),λj hj=>?_⟩
    by_cases hji:j=i
    · subst hji;exact hy.wpOp hi hS H
    · have h1:=H.2 j (ready_mono hj hji)
      obtain⟨hjun,oj,hoj,hall⟩:=mem_ready.1 hj
      have hnl:¬listed.getD i false=true:=by
        have h0:=(mem_ready.1 hr).1
        grind
      obtain⟨b,hb,hb1,hb2⟩:=D.cl j oj hoj
      have hready:∀k∈b,listed.getD k false=true:=λk hk=>by
        rcases hb2 k hk with h1|⟨k',h1,b',h2,h3⟩
        · obtain⟨e,e1,e2,rfl⟩:=jU.1 h1
          grind
        · obtain⟨e,e1,e2,rfl⟩:=jU.1 h1
          grind
      have hib:∀b',bs[j]?=some b'->i∉b':=λb' hb' hm=>by
        grind
      obtain⟨f1,f2⟩:=hfree j oj hoj hji hjun hib
      have hst:=EK hoj f1 (λcs b=>hsel i oi cs b hi) (λcs b=>hsel j oj cs b hoj) hQ f2 hS hy h1
      have hjl:j<listed.size:=by grind
      have hset:∀k,(listed.setIfInBounds j true).getD k false=true<->k=j\/listed.getD k false=true:=λk=>by
        by_cases hkj:k=j
        · subst hkj;simp[hjl]
        · rw[getD_set_ne false (kP hkj)];grind
      have hcl':∀(j':Nat)(b:List Nat),(listed.setIfInBounds j true).getD j' false=true->bs[j']?=some b->∀k∈b,(listed.setIfInBounds j true).getD k false=true:=by
        intro j' b' g1 g2 k hk
        rw[hset]at g1⊢
        grind
      have hfree':∀k ok,ops[k]?=some ok->k≠i->(listed.setIfInBounds j true).getD k true=false->(∀b,bs[k]?=some b->i∉b) ->
          oi.apart ops ok=true/\((∀w,S w)\/(wq ok/\∀w w',S w->Ext w w'->S w')):=λk ok hk hki hun hno=>by
        refine hfree k ok hk hki ?_ hno
        grind
      refine wpOp_mono (λa' w' h3=>ih (listed.setIfInBounds j true) a' w' (by grind) hcl' hfree' (ready_mono hr (kP hji)) h3.2.1 h3.1 ?_) hst
      rw[Array.setIfInBounds_comm _ _ hji]
      grind
end
section
variable{P:Program}{E:gG}{n:Nat}{K:Ex->T->H->Prop}{ops:Array Oper}{is:List I}{bs:List (List Nat)}{m:Nat}(ow:Nat->Bool)
theorem ML{x:X}(h:qL x=true)(g:LA x=true):False:=by cases x<;>first|(cases g;done)|(cases h;done)
theorem LI{G:Nat->Prop}{ρ:List Value}{t:T}{h:H}{a:Act}{w:World}{o:Oper}{KK KP:V->T->H->Prop}(hC:an E n G ρ t h a w){x:X}(hx:kJ P o.type o.op=some x\/x=.bad)(hp:qL x=true\/LA x=true)(hk:dV (Sat P) ow x t h KK KP) :
  (qL x=true/\YP P G w ρ a o KK t h)\/(LA x=true/\YL P G w ρ a o KK t h):=by
 rcases hx with hx|rfl
 case inr=>exact hk.elim
 rcases wU hx (.inr hp)with⟨y,ho⟩|⟨y,ho⟩|⟨y,i,ho⟩|⟨ty,y,ho⟩|⟨ty,ho⟩|⟨y,ho⟩|⟨ty,y,f,ho⟩|⟨ty,ps,ho⟩|⟨ty,m,ps,ho⟩|⟨ty,y,lo,hi,mx,ho⟩|⟨ty,y,z,ho⟩<;>rw[ho]at hx<;>simp only[kJ]at hx
 .split at hx
  .cases hx;rcases hp with hp|hp<;>cases hp
  .simp only[aJ]at hx;obtain⟨oy,hy,rfl⟩:=hx;exact .inl ⟨rfl,TB hC (.inl ho) hy hk⟩
 .split at hx
  .cases hx;rcases hp with hp|hp<;>cases hp
  .simp only[aJ]at hx;obtain⟨oy,hy,rfl⟩:=hx;exact .inl ⟨rfl,TB hC (.inr ho) hy hk⟩
 .simp only[aK,aE,aD]at hx;obtain⟨oy,hy,rfl⟩:=hx;exact .inl ⟨rfl,WV (Sat P) ow hC ho hy hk⟩
 .have ld:(do some (X.ld (<-cO P ty y) (<-vW P ty)))=some x->LA x=true/\YL P G w ρ a o KK t h:=λhx=>by
   simp only[aK,aE,aD]at hx;obtain⟨oy,hy,m,hm,rfl⟩:=hx;exact⟨rfl,WS (Sat P) ow hC ho hy hm hk⟩
  split at hx
  .split at hx
   .split at hx
    .simp only[aK,aE]at hx;obtain⟨k,hl,oy,hy,hx⟩:=hx;split at hx
     .cases hx;rcases hp with hp|hp<;>cases hp
     grind
    grind
   grind
  grind
 .have al:(vP P ty).map X.al=some x->False:=λhx=>by
   simp only[aJ]at hx;obtain⟨zs,hz,rfl⟩:=hx;rcases hp with hp|hp<;>cases hp
  exfalso;split at hx
  .split at hx
   .simp only[aK,aE]at hx;obtain⟨zs,hz,hx⟩:=hx;split at hx
    .split at hx
     .cases hx;rcases hp with hp|hp<;>cases hp
     grind
    grind
   grind
  grind
 .simp only[aJ]at hx;obtain⟨oy,hy,rfl⟩:=hx;exact .inl ⟨rfl,WR (Sat P) ow hC ho hy hk⟩
 .split at hx
  .rename_i fs hu;simp only[aK,aE]at hx;obtain⟨fd,hf,hx⟩:=hx;split at hx
   grind
   .rename_i hz;simp only[aE,aD]at hx;obtain⟨oy,hy,rfl⟩:=hx;exact .inl ⟨rfl,WU (Sat P) ow hC ho hu hf hz hy hk⟩
  grind
 .split at hx
  .rename_i fs hu;simp only[aK,aE,aD]at hx;obtain⟨pl,hpl,qs,hqs,zs,hz,rfl⟩:=hx;obtain⟨g1,g2⟩:=ny hqs;refine .inl ⟨rfl,WW (Sat P) ow hC ho hu hpl hz ⟨by grind,λk p q hp hq=>?_⟩ hk⟩;have:=g2 k p q (by grind) hq;simp only[aE,aD]at this
   grind
  grind
 .exfalso;split at hx
  .simp only[aK,aE]at hx;obtain⟨qs,hqs,zs,hz,hx⟩:=hx;split at hx
   .cases hx;rcases hp with hp|hp<;>cases hp
   .split at hx
    grind
    .cases hx;rcases hp with hp|hp<;>cases hp
  grind
 .exfalso;split at hx
  .split at hx
   grind
   .simp only[aK,aE,aD]at hx;obtain⟨_,_,_,_,_,_,_,_,rfl⟩:=hx;rcases hp with hp|hp<;>cases hp
  .split at hx
   .simp only[aK,aE,aD]at hx;obtain⟨_,_,_,_,_,_,rfl⟩:=hx;rcases hp with hp|hp<;>cases hp
   grind
  grind
 .have jq:∀{m:Nat},(do some (X.jq (<-cO P ty y) (<-cO P 0 z) m))=some x->False:=λhx=>by
   simp only[aK,aE,aD]at hx;obtain⟨_,_,_,_,rfl⟩:=hx;rcases hp with hp|hp<;>cases hp
  have ja:∀{m n:Nat},(do some (X.ja (<-cO P ty y) (<-cO P 0 z) n m))=some x->False:=λhx=>by
   simp only[aK,aE,aD]at hx;obtain⟨_,_,_,_,rfl⟩:=hx;rcases hp with hp|hp<;>cases hp
  split at hx
  .rename_i e hu;split at hx
   grind
   .rename_i hc;simp only[aK,aE,aD]at hx;obtain⟨oy,hy,oz,hz,rfl⟩:=hx;exact .inl ⟨rfl,WT (Sat P) ow hC ho hu hc hy hz hk⟩
  .exfalso;split at hx
   grind
   .split at hx;simp_all;simp_all
  grind
theorem QZ{o:Oper}{x:X}(hx:kJ P o.type o.op=some x\/x=.bad)(hs:Gr x=true):wq o:=by
 rcases hx with hx|rfl
 case inr=>cases hs
 rcases wU hx (.inl hs)with⟨y,ho⟩|⟨y,ho⟩|⟨y,i,ho⟩|⟨ty,y,ho⟩|⟨ty,ho⟩|⟨y,ho⟩|⟨ty,y,f,ho⟩|⟨ty,ps,ho⟩|⟨ty,m,ps,ho⟩|⟨ty,y,lo,hi,mx,ho⟩|⟨ty,y,z,ho⟩<;>unfold wq<;>rw[ho]at hx⊢<;>try trivial
 .simp only[kJ,aJ]at hx;obtain⟨oy,hy,rfl⟩:=hx;cases hs
 .exfalso;simp only[kJ]at hx;split at hx
  .simp only[aK,aE]at hx;obtain⟨fd,hf,hx⟩:=hx;split at hx
   grind
   .simp only[aE,aD]at hx;obtain⟨oy,hy,rfl⟩:=hx;cases hs
  grind
 .exfalso;simp only[kJ]at hx;split at hx
  .split at hx
   grind
   .simp only[aK,aE,aD]at hx;obtain⟨_,_,_,_,rfl⟩:=hx;cases hs
  .split at hx
   grind
   .split at hx
    .split at hx
     .simp only[aK,aE,aD]at hx;obtain⟨_,_,_,_,rfl⟩:=hx;cases hs
     grind
    .simp only[aK,aE,aD]at hx;obtain⟨_,_,_,_,rfl⟩:=hx;cases hs
  grind
theorem CQ{x y:Oper}(h:x.apart ops y=true):y.apart ops x=true:=by
 unfold Oper.apart at *
 grind
theorem S6(h:WI ops bs m=true):(∀(j:Nat)(o:Oper) cs b,ops[j]?=some o->o.op≠.select cs b)/\∀(i k:Nat)(x y:Oper)(bi bk:List Nat),i<m->k<m->i≠k->ops[i]?=some x->ops[k]?=some y->bs[i]?=some bi->bs[k]?=some bk->i∉bk->k∉bi->x.apart ops y=true:=by
 unfold WI at h;rw[aO]at h;obtain⟨h1,h2⟩:=h;refine⟨λj o cs b hj he=>?_,?_⟩
 .have:=aP.1 h1 o (Array.mem_toList_iff.2 (Array.mem_of_getElem? hj));unfold P1 at this
  grind
 .have key:∀(i k:Nat)(x y:Oper)(bk:List Nat),i<k->k<m->ops[i]?=some x->ops[k]?=some y->bs[k]?=some bk->i∉bk->x.apart ops y=true:=by
   intro i k x y bk hik hk hx hy hb hn;have h3:=aP.1 (aP.1 h2 k (b_.2 hk)) i (b_.2 hik);rw[hb,hx,hy,cR]at h3;have:has bk i=false:=by
    cases hh:has bk i with
    |false=>rfl
    |true=>exact absurd (cI.1 hh) hn
   grind
  intro i k x y bi bk hi hk hne hx hy hbi hbk h3 h4;rcases Nat.lt_or_gt_of_ne hne with h|h
  grind
  .exact CQ (key k i y x bi h hi hy hx hbi h4)
def Ks(E:gG)(n:Nat)(K:Ex->T->H->Prop)(q:List (I×List Nat))(s:List I)(is:List I)(bs:List (List Nat))(m:Nat)(P:Program)(listed:Array Bool)(a:Act)(w:World):Prop:=
  (∀(j:Nat)(b:List Nat),listed.getD j false=true->bs[j]?=some b->∀k∈b,listed.getD k false=true) /\
  ((∃ (done : List Nat) (k : Nat) (G : Nat → Prop) (ρ : List Value) (t : T) (h : H), done.Nodup ∧ done.length + k = m ∧ (∀ j, listed.getD j false = true ↔ j ∈ done) ∧ (∀ j ∈ done, j < m) ∧ an E n G ρ t h a w ∧ Pr (Sat P) ow q s k done t h K) ∨
   ∃(k:Nat)(G:Nat->Prop)(ρ:List Value)(t:T)(h:H),m<=k/\(∀j,listed.getD j false=true<->j<k)/\an E n G ρ t h a w/\rx (Sat P) ow (is.drop k) t h K)
theorem NJ{G:Nat->Prop}{ρ:List Value}{t:T}{h:H}{a:Act}{w:World}{o:Oper}(hC:an E n G ρ t h a w){i:I}(hi:mq P n ops o=some i)(hkind:qL i.o=true\/LA i.o=true){ih:T->H->(Ex->T->H->Prop)->Prop}(hk:A6 (Sat P) ow i ih t h K) :
  ∃(v':Value)(v:V)(t':T),((qL i.o=true/\YieldsIf P ops (λ_=>True) o v' a)\/(LA i.o=true/\YieldsIf P ops (Ext w) o v' a))/\az G w ρ v' v/\(∀s,gs t' s=gs t s)/\(pU i.d v t' λt=>ih t h K):=by
 obtain⟨hx,hd,hlt,hg⟩:=kL hi;have run:∀{t':T},(∀s,gs t' s=gs t s)->Region.wanted o (yielded ops a.tmps)=true->dV (Sat P) ow i.o t' h (λv t h=>pU i.d v t λt=>ih t h K) (λv t h=>K (.eU v) t h)->∃(v':Value)(v:V)(t':T),((qL i.o=true/\YieldsIf P ops (λ_=>True) o v' a)\/(LA i.o=true/\YieldsIf P ops (Ext w) o v' a))/\az G w ρ v' v/\(∀s,gs t' s=gs t s)/\(pU i.d v t' λt=>ih t h K):=by
  intro t' ht hw hk;rcases LI ow (hC.congr ht) hx hkind hk with⟨hpu,v',v,hrun,hv,hput⟩|⟨hld,v',v,hrun,hv,hput⟩
  .exact⟨v',v,t',.inl ⟨hpu,.inl ⟨hw,λw2 _=>hrun w2⟩⟩,hv,ht,hput⟩
  .exact⟨v',v,t',.inr ⟨hld,.inl ⟨hw,hrun⟩⟩,hv,ht,hput⟩
 have pass:∀{t':T},(∀s,gs t' s=gs t s)->Region.wanted o (yielded ops a.tmps)=false->(pU i.d .ud t' λt=>ih t h K)->∃(v':Value)(v:V)(t':T),((qL i.o=true/\YieldsIf P ops (λ_=>True) o v' a)\/(LA i.o=true/\YieldsIf P ops (Ext w) o v' a))/\az G w ρ v' v/\(∀s,gs t' s=gs t s)/\(pU i.d v t' λt=>ih t h K):=by
  intro t' ht hw hk;exact⟨undef,.ud,t',hkind.imp (λh=>⟨h,.inr ⟨hw,rfl⟩⟩) (λh=>⟨h,.inr ⟨hw,rfl⟩⟩),xG,ht,hk⟩
 cases hgo:o.guard with
 |none=>
  rw[hgo]at hg;simp only at hg;simp only[A6,hg]at hk;exact run (λ_=>rfl) (by simp[Region.wanted,hgo]) hk
 |some p=>
  obtain⟨j,x⟩:=p;rw[hgo]at hg;obtain⟨d,hd1,hg⟩:=hg;simp only[A6,hg]at hk;split at hk
  .rename_i b hb;have hw:=kf hC hgo hd1 hb;have hC1:=mP hb;cases b<;>cases x<;>simp only[sp,δ,ε]at hk
   grind
   grind
   grind
   grind
  .rename_i hb;exact pass (λ_=>rfl) (oX hC hgo hd1 hb) hk
  grind
theorem Nn (D:Pz P n ops is bs m) (hap:WI ops bs m=true) (hnp:∀v t h,¬K (.eU v) t h) {q:List (I×List Nat)} (hq:q=(is.zip bs).take m):∀(fuel:Nat) (listed:Array Bool) (a:Act) (w:World),listed.size=ops.size→listed.toList.count false≤fuel →
    Ks ow E n K q (is.drop m) is bs m P listed a w->wpAny P .any ops (QK E n K) fuel listed a w:=by
  have hil:=D.il
  have hbl:=D.bl
  have hml:=D.ml
  obtain⟨hsel,hap⟩:=S6 hap
  have hQ:∀c a w,¬QK E n K (.panic c) a w:=λc a w ⟨_,_,_,_,_,_,_,_,_,hk⟩=>hnp _ _ _ hk
  have hqg:∀(j:Nat)(x:I)(b:List Nat),j<m->is[j]?=some x->bs[j]?=some b->q[j]?=some (x,b):=λj x b hj hx hb=>by
    grind
  have hql:q.length=m:=by grind
  have yZ:∀(listed:Array Bool)(a:Act)(w:World),Ks ow E n K q (is.drop m) is bs m P listed a w->(∀j,j<m->listed.getD j false=true) ->
      ∃(k:Nat)(G:Nat->Prop)(ρ:List Value)(t:T)(h:H),m<=k/\(∀j,listed.getD j false=true<->j<k)/\an E n G ρ t h a w/\rx (Sat P) ow (is.drop k) t h K:=by
    intro listed a w ⟨_,h3⟩ hall
    rcases h3 with⟨done,k,G,ρ,t,h,d1,d2,d3,d4,hC,hk⟩|h3
    · have hk0:k=0:=by
        have h1:(List.range m).length<=done.length:=zO qp λj hj=>(d3 j).1 (hall j (b_.1 hj))
        grind
      subst hk0
      exact⟨m,G,ρ,t,h,aL _,λj=>⟨λhj=>d4 j ((d3 j).1 hj),hall j⟩,hC,hk⟩
    grind
  have fin:∀(listed:Array Bool)(a:Act)(w:World),listed.size=ops.size->Ks ow E n K q (is.drop m) is bs m P listed a w->Region.ready .any ops listed=[]->QK E n K .normal a w:=by
    intro listed a w hs hI hr
    have hall:=AG D hr hs
    obtain⟨k,G,ρ,t',h',k1,k3,hC,hk⟩:=yZ listed a w hI (λj hj=>hall j (by omega))
    have hkk:ops.size<=k:=by
      grind
    rw[gR (by omega)]at hk
    exact⟨G,ρ,t',h',hC,hk⟩
  intro fuel
  induction fuel with
  |zero=>
    intro listed a w hs hc hI
    have hall:∀j,j<ops.size->listed.getD j false=true:=λj hj=>by
      have hj':j<listed.size:=by omega
      have h0:listed.toList.count false=0:=by omega
      rw[List.count_eq_zero]at h0
      cases hv:listed[j] with
      |true=>simp[hj',hv]
      |false=>grind
    have hr:Region.ready .any ops listed=[]:=by
      rw[List.eq_nil_iff_forall_not_mem]
      intro j hj
      obtain⟨h1,o,h2,_⟩:=mem_ready.1 hj
      grind
    exact⟨hr,fin listed a w hs hI hr⟩
  |succ fuel ih=>
    intro listed a w hs hc hI
    have mem_redy:∀{done:List Nat}{j:Nat},j∈tc q done->j<m/\j∉done/\∃(x:I)(b:List Nat),is[j]?=some x/\bs[j]?=some b/\q[j]?=some (x,b)/\∀k∈b,k∈done:=by
      intro done j hj
      unfold tc at hj
      rw[dH,b_]at hj
      obtain⟨h1,h2⟩:=hj
      rw[hql]at h1
      have hx:=aA (show j<is.length by omega)
      have hb:=aA (show j<bs.length by omega)
      have hqj:=hqg j _ _ h1 hx hb
      rw[get?_eq,hqj]at h2
      simp only[aO,dA,aP]at h2
      refine⟨h1,λhd=>?_,_,_,hx,hb,hqj,λk hk=>cI.1 (h2.2 k hk)⟩
      rw[cI.2 hd]at h2
      grind
    by_cases hfi:∃(done:List Nat)(k:Nat)(G:Nat->Prop)(ρ:List Value)(t:T)(h:H)(j:Nat),done.Nodup/\done.length+(k+1)=m/\(∀j,listed.getD j false=true<->j∈done)/\(∀j∈done,j<m)/\an E n G ρ t h a w/\u7 q done=some j /\
        Pr (Sat P) ow q (is.drop m) (k+1) done t h K
    · obtain⟨done,k,G,ρ,t,h,j,d1,d2,d3,d4,hC,hfj,hk⟩:=hfi
      have hjr:=List.mem_of_find?_eq_some hfj
      have hjf:=List.find?_some hfj
      obtain⟨hjm,hjd,x,b,hx,hb,hqj,hbd⟩:=mem_redy hjr
      obtain⟨o,ho⟩:∃o,ops[j]?=some o:=⟨_,aS (by omega)⟩
      obtain⟨x',hx',hci⟩:=D.ci j o ho
      obtain rfl:x'=x:=by grind
      obtain⟨b',hb',hb1,hb2⟩:=D.cl j o ho
      obtain rfl:b'=b:=by grind
      rw[AT,hfj]at hk
      simp only[get?_eq,hqj]at hk
      unfold D9 at hjf
      rw[get?_eq,hqj]at hjf
      simp only[aO,cT]at hjf
      have hkind:=hjf
      obtain⟨_,hd,hlt,_⟩:=kL hci
      have hready:∀k∈b',listed.getD k false=true:=λk hk=>(d3 k).2 (hbd k hk)
      have hnl:¬listed.getD j false=true:=λhh=>hjd ((d3 j).1 hh)
      have hjl:j<listed.size:=by omega
      have hrdy:j∈Region.ready .any ops listed:=by
        rw[mem_ready]
        refine⟨by grind,o,ho,λe he hbd=>?_⟩
        exact hready _ (hb1 _ (jU.2 ⟨e,he,hbd,rfl⟩))
      have hset:∀k,(listed.setIfInBounds j true).getD k false=true<->k=j\/listed.getD k false=true:=λk=>by
        by_cases hkj:k=j
        · subst hkj;simp[hjl]
        · rw[getD_set_ne false (kP hkj)];simp[hkj]
      have hcl:∀(j':Nat)(b:List Nat),(listed.setIfInBounds j true).getD j' false=true->bs[j']?=some b->∀k∈b,(listed.setIfInBounds j true).getD k false=true:=by
        intro j' b' h1 h2 k hk
        rw[hset]at h1⊢
        rcases h1 with rfl|h1
        grind
        · exact .inr (hI.1 j' b' h1 h2 k hk)
      have hcnt:(listed.setIfInBounds j true).toList.count false<=fuel:=by
        have:=count_set (show listed.getD j true=false by grind)
        omega
      have hsz:(listed.setIfInBounds j true).size=ops.size:=by grind
      have next:∀(v':Value)(v:V)(t':T),(∀s,gs t' s=gs t s)->az G w ρ v' v->(pU x'.d v t' λt=>Pr (Sat P) ow q (is.drop m) k (j::done) t h K)->wpAny P .any ops (QK E n K) fuel (listed.setIfInBounds j true) (a.put o.dst v') w:=by
        intro v' v t' ht hv hput
        rw[eK,hd]at hput
        refine ih _ _ _ hsz hcnt ⟨hcl,.inl ⟨j::done,k,G,ρ,_,h,db.2 ⟨hjd,d1⟩,by grind,λx=>by grind,λx hx=>?_,(hC.congr ht).fV o.dst hlt hv,hput⟩⟩
        rcases ah.1 hx with rfl|hx
        grind
        grind
      have apart:∀k ok,ops[k]?=some ok->k≠j->listed.getD k true=false->(∀b,bs[k]?=some b->j∉b)->k<m/\o.apart ops ok=true:=by
        intro k ok hok hkj hun hno
        have hkl:k<ops.size:=(aW.1 hok).1
        obtain⟨bk,hbk⟩:∃bk,bs[k]?=some bk:=⟨_,aA (by omega)⟩
        have hkm:k<m:=by
          rcases nF k m with h|h
          grind
          · exact absurd (D.fu k bk h hbk j (by omega)) (hno bk hbk)
        refine⟨hkm,hap j k o ok _ _ hjm hkm (kP hkj) ho hok hb hbk (hno bk hbk) λhkb=>?_⟩
        have:=hready k hkb
        grind
      obtain⟨v',v,t',hy,hv,ht,hput⟩:=NJ ow hC hci (hkind.imp id λh=>h.1) hk
      rcases hy with⟨hpu,hy⟩|⟨hld,hy⟩
      · exact tR (S:=λ_=>True) D ho hsel hQ fuel listed a w hs hI.1 (λk ok hok hkj hun hno=>⟨(apart k ok hok hkj hun hno).2,.inl λ_=>trivial⟩) hrdy hy trivial (next v' v t' ht hv hput)
      · rcases hkind with hpu|⟨_,hall⟩
        · exact(ML hpu hld).elim
        · refine tR (S:=Ext w) D ho hsel hQ fuel listed a w hs hI.1 (λk ok hok hkj hun hno=>?_) hrdy hy (Ext.refl w) (next v' v t' ht hv hput)
          obtain⟨hkm,hapk⟩:=apart k ok hok hkj hun hno
          refine⟨hapk,.inr ⟨?_,λw1 w2 h1 h2=>h1.trans h2⟩⟩
          obtain⟨xk,hxk,hcik⟩:=D.ci k ok hok
          obtain⟨bk,hbk⟩:∃bk,bs[k]?=some bk:=⟨_,aA (by omega)⟩
          have hqk:=hqg k xk bk hkm hxk hbk
          have h3:=aP.1 hall k (b_.2 (by omega))
          rw[get?_eq,hqk]at h3
          simp only[cT]at h3
          have hks:k<listed.size:=by omega
          rcases h3 with h3|h3|h3|h3
          · have:=(d3 k).2 (cI.1 h3)
            grind
          · exact absurd (kA h3) hkj
          · exact absurd (cI.1 h3) (hno bk hbk)
          · exact QZ (kL hcik).1 h3
    · refine ⟨fin listed a w hs hI, fun j hj => ?_⟩
      obtain⟨hun,o,ho,hdep⟩:=mem_ready.1 hj
      have hjs:j<ops.size:=(aW.1 ho).1
      have hjl:j<listed.size:=by omega
      have hnl:¬listed.getD j false=true:=by grind
      obtain⟨b,hb,hb1,hb2⟩:=D.cl j o ho
      obtain⟨i,hi,hci⟩:=D.ci j o ho
      have hready:∀k∈b,listed.getD k false=true:=λk hk=>by
        rcases hb2 k hk with h1|⟨k',h1,b',h2,h3⟩
        · obtain⟨e,e1,e2,rfl⟩:=jU.1 h1
          grind
        · obtain⟨e,e1,e2,rfl⟩:=jU.1 h1
          exact hI.1 _ b' (hdep e e1 e2) h2 k h3
      have hset:∀k,(listed.setIfInBounds j true).getD k false=true<->k=j\/listed.getD k false=true:=λk=>by
        by_cases hkj:k=j
        · subst hkj;simp[hjl]
        · rw[getD_set_ne false (kP hkj)];simp[hkj]
      have hcl:∀(j':Nat)(b:List Nat),(listed.setIfInBounds j true).getD j' false=true->bs[j']?=some b->∀k∈b,(listed.setIfInBounds j true).getD k false=true:=by
        intro j' b' h1 h2 k hk
        rw[hset]at h1⊢
        rcases h1 with rfl|h1
        grind
        · exact .inr (hI.1 j' b' h1 h2 k hk)
      have hcnt:(listed.setIfInBounds j true).toList.count false<=fuel:=by have:=count_set hun;omega
      have hsz:(listed.setIfInBounds j true).size=ops.size:=by grind
      have go:(if Region.wanted o (yielded ops a.tmps)then o.wp P a w (wpAny P .any ops (QK E n K) fuel (listed.setIfInBounds j true)) (QK E n K)else wpAny P .any ops (QK E n K) fuel (listed.setIfInBounds j true) (a.put o.dst undef) w) ->
          wpOp P ops (QK E n K) j (wpAny P .any ops (QK E n K) fuel (listed.setIfInBounds j true)) a w:=by
        intro hg
        unfold wpOp
        simp only[ho]
        split
        grind
        grind
      refine go ?_
      by_cases hjm:j<m
      · rcases hI.2 with⟨done,k,G,ρ,t,h,d1,d2,d3,d4,hC,hk⟩|⟨k,G,ρ,t,h,k1,k3,_⟩
        · have hjd:j∉done:=λhd=>hnl ((d3 j).2 hd)
          have hk0:k≠0:=by
            intro e
            have h1:(j::done).length<=(List.range m).length:=zO (db.2 ⟨hjd,d1⟩) λx hx=>by
              rw[b_]
              rcases ah.1 hx with rfl|hx
              grind
              grind
            grind
          obtain⟨k,rfl⟩:∃k',k=k'+1:=⟨k-1,by omega⟩
          have hno:u7 q done=none:=by
            cases hf:u7 q done with
            |none=>rfl
            |some j'=>exact absurd ⟨done,k,G,ρ,t,h,j',d1,d2,d3,d4,hC,hf,hk⟩ hfi
          rw[AT,hno]at hk
          have hqj:=hqg j i b hjm hi hb
          have hmem:j∈tc q done:=by
            unfold tc
            rw[dH,b_]
            refine⟨by omega,?_⟩
            rw[get?_eq,hqj]
            simp only[aO,dA,aP]
            refine⟨?_,λx hx=>cI.2 ((d3 x).1 (hready x hx))⟩
            cases hh:has done j with
            |false=>rfl
            |true=>exact absurd (cI.1 hh) hjd
          have hk2:=vB hk j hmem
          rw[get?_eq,hqj]at hk2
          exact yj ow hC hci hk2 (λa' w' G' ρ' t' h' hC' hk'=>ih _ _ _ hsz hcnt ⟨hcl,.inl ⟨j::done,k,G',ρ',t',h',db.2 ⟨hjd,d1⟩,by rw[aZ];omega,λx=>by rw[hset,ah,d3],λx hx=>by
            rcases ah.1 hx with rfl|hx
            grind
            · exact d4 x hx,hC',hk'⟩⟩) PQ.qk
        grind
      · have hall:∀i,i<m->listed.getD i false=true:=λi hi=>hready i (D.fu j b (by omega) hb i (by omega))
        obtain⟨k,G,ρ,t',h',k1,k3,hC,hk⟩:=yZ listed a w hI hall
        have hjk:j=k:=by
          have h1:k<=j:=by
            grind
          rcases nF k j with h2|h2
          · have:=(k3 k).1 (hready k (D.fu j b (by omega) hb k h2));omega
          grind
        subst hjk
        have hdrop:is.drop j=i::is.drop (j+1):=by
          have hlt:j<is.length:=by omega
          rw[bC hlt]
          grind
        rw[hdrop]at hk
        exact wm ow hC hci hk (λa' w' G' ρ' t' h' hC' hk'=>ih _ _ _ hsz hcnt ⟨hcl,.inr ⟨j+1,G',ρ',t',h',by omega,λk=>by rw[hset,k3];omega,hC',hk'⟩⟩) PQ.qk
end
end Go.Vx
