/- Lemmas. Conditions: none. -/
import Derived.Test.YtmigecldjbgneaaGreatDoorQKAN
import Derived.Test.YtmigecldjbgneaaGreatDoorRows
import Derived.ProofKit
namespace Go.Vx
open Go.Proofs.YtmigecldjbgneaaGreatDoor
inductive Ty where
  |int (k:IntKind)
  |bool
  |str
  |sl (e:Ty)
  |un
  |pr (a b:Ty)
def Ty.n:Ty->Nat
 |.un=>0
 |.pr a b=>a.n+b.n
 |_=>1
def GU(f:TypeId->Option Ty)(P:Program):Nat->List Field->Option Ty
 |_,[]=>some .un
 |off,x::r=>match f x.type with
  |some a=>if x.offset=off/\P.cellsOf x.type=a.n then(match GU f P (off+a.n) r with
   |some b=>some (.pr a b)
   |none=>none)else none
  |none=>none
def EL(P:Program):Nat->TypeId->Option Ty
 |0,_=>none
 |k+1,t=>match P.underlying t with
  |some (.int q)=>some (.int q)
  |some .bool=>some .bool
  |some .string=>some .str
  |some (.slice e)=>(match EL P k e with
   |some a=>if P.cellsOf e=a.n/\a.n≠0 then some (.sl a)else none
   |none=>none)
  |some (.struct fs)=>(match GU (EL P k) P 0 fs.toList with
   |some a=>if P.cellsOf t=a.n then some a else none
   |none=>none)
  |_=>none
def sI(N:Nat):Ty->List D->Prop
 |.int k,[.int q n]=>q=k/\dB k n
 |.bool,[.bool _]=>True
 |.str,[.str s]=>s.length<=N
 |.sl a,[.sl z rows]=>z=a.n/\rows.length<=N/\∀row∈rows,sI N a row
 |.un,xs=>xs=[]
 |.pr a b,xs=>sI N a (xs.take a.n)/\sI N b (xs.drop a.n)/\xs.length=a.n+b.n
 |_,_=>False
section
variable{H:Type}{enc:TypeId×Value->H}{P:Program}{W:World}
theorem K7(d:DataW H):1<=Rows.uptoBulk d:=by
 cases d with
 |lit l=>cases l<;>simp[Rows.uptoBulk]
 |_=>simp[Rows.uptoBulk]
theorem AN:∀l:List (DataW H),l.length<=Rows.uptoBulkAll l
 |[]=>by simp
 |d::r=>by
  have:=K7 d;have:=AN r;simp only[Rows.uptoBulkAll,aZ];omega
theorem uo:∀{l:List (DataW H)}{i:Nat}{d:DataW H},l[i]?=some d->Rows.uptoBulk d<=Rows.uptoBulkAll l
 |[],_,_,h=>by simp at h
 |x::r,0,d,h=>by
  simp at h;subst h;simp only[Rows.uptoBulkAll];omega
 |x::r,i+1,d,h=>by
  have:=uo (l:=r) (i:=i) (by simpa using h);simp only[Rows.uptoBulkAll];omega
def lim(N:Nat)(d:DataW H):Prop:=maxLen<=N\/Rows.uptoBulk d<=N
def yG(W:World)(cs:List Value)(xs:List D):Prop:=xs.length=cs.length/\∀(j:Nat)(x:D),xs[j]?=some x->bp (all W) W (cs.getD j undef) x
theorem JY{k:IntKind}{n:Int}(h:(Lit.int k n).wf=true):dB k n:=by
 cases k<;>simp[Lit.wf,IntKind.min,IntKind.max,IntKind.signed,IntKind.bits]at h<;>simp[dB]<;>omega
theorem Af{a:Addr}{v:Value}(h:W.cell? a=some v):a.spot=none/\a.block<W.heap.size:=by
 unfold World.cell? at h;split at h
 .rename_i c t f hb;split at h
  .cases h
  .rename_i hs;exact⟨by simpa using hs,(aW.1 hb).1⟩
 .cases h
theorem LX{N n:Nat}{a:Ty}{e:TypeId}(ih:∀(fuel:Nat)(cs:List Value)(d:DataW H)(ps:List MemPlace),DataW.trod enc P W 0 (λ_=>true) true fuel e cs=some (d,ps)->lim N d->∃xs,sI N a xs/\yG W cs xs)
  (hz:P.cellsOf e=a.n) (hz0:a.n≠0) {ad:Addr} {len cap:Nat} {elems rest:List (DataW H×List MemPlace)} (h1:len<=cap) (h2:cap<=maxLen) (h3:elems.length=len)
  (h4:∀i,i<len->(W.cells? 0 (ad.add (i*P.cellsOf e)) (P.cellsOf e)).bind (DataW.trod enc P W 0 (λ_=>true) true n e)=elems[i]?)
  (h5:rest.length=cap-len/\∀j,j<cap-len->(W.cells? 0 (ad.add ((len+j)*P.cellsOf e)) (P.cellsOf e)).bind (DataW.trod enc P W 0 (λ_=>true) true n e)=rest[j]?)
  (hl:lim N (.slice (elems.map (·.1)) (rest.map (·.1)))):∃xs,sI N (.sl a) xs/\yG W [.slice (some ad) len cap] xs:=by
 have hlen:len<=N:=by
  rcases hl with hl|hl
  .omega
  .have:=AN (elems.map (·.1));simp only[Rows.uptoBulk,aI]at hl this;omega
 have done:∀(rows:List (List D)),rows.length=len->(∀row∈rows,sI N a row)->bp (all W) W (.slice (some ad) len cap) (.sl a.n rows)->∃xs,sI N (.sl a) xs/\yG W [.slice (some ad) len cap] xs:=by
  intro rows g1 g2 g3;refine⟨[.sl a.n rows],⟨rfl,by omega,g2⟩,rfl,λj x hx=>?_⟩;cases j with
  |zero=>simp at hx;subst hx;exact g3
  |succ j=>simp at hx
 by_cases hc:cap=0
 .subst hc;have hl0:len=0:=by omega
  subst hl0;exact done [] rfl (by simp) (.sle ad a.n)
 have hcell:∃v,W.cell? ad=some v:=by
  have key:∀k,(∃x,(W.cells? 0 (ad.add (k*P.cellsOf e)) (P.cellsOf e)).bind (DataW.trod enc P W 0 (λ_=>true) true n e)=some x)->k=0->∃v,W.cell? ad=some v:=by
   rintro k ⟨x,hx⟩ rfl
   rw[aE]at hx;obtain⟨cs,hcs,_⟩:=hx;obtain⟨_,g2,g3⟩:=World.cells?_some hcs;have:=g3 0 (by omega);simp only[Nat.zero_mul,Addr.add,if_true]at this;rw[this];exact⟨_,aA (by omega)⟩
  by_cases hl0:len=0
  .subst hl0;refine key 0 ⟨rest[0]'(by omega),?_⟩ rfl;have:=h5.2 0 (by omega);simp only[eB]at this;rw[this];exact aA _
  .refine key 0 ⟨elems[0]'(by omega),?_⟩ rfl;rw[h4 0 (by omega)];exact aA _
 obtain⟨v0,hv0⟩:=hcell;obtain⟨hs,hb⟩:=Af hv0;obtain⟨b,o,sp⟩:=ad;simp only at hs hb;subst hs;have HH:∀i,i<len->∃p:List Value×List D,W.cells? 0 (Addr.add ⟨b,o,none⟩ (i*a.n)) a.n=some p.1/\sI N a p.2/\yG W p.1 p.2:=by
  intro i hi;have hx:=h4 i hi;obtain⟨x,hxe⟩:∃x,elems[i]?=some x:=⟨_,aA (by omega)⟩
  rw[hxe,aE]at hx;obtain⟨cs,hcs,htr⟩:=hx;have hlx:lim N x.1:=by
   rcases hl with hl|hl
   .exact .inl hl
   .refine .inr ?_;have:=uo (l:=elems.map (·.1)) (i:=i) (d:=x.1) (by rw[aB,hxe];rfl);simp only[Rows.uptoBulk]at hl;omega
  obtain⟨xs,g1,g2⟩:=ih n cs x.1 x.2 htr hlx;exact⟨(cs,xs),by rw[<-hz];exact hcs,g1,g2⟩
 let g:Nat->List Value×List D:=λi=>if h:i<len then Classical.choose (HH i h)else([],[])
 have hg:∀i,i<len->W.cells? 0 (Addr.add ⟨b,o,none⟩ (i*a.n)) a.n=some (g i).1/\sI N a (g i).2/\yG W (g i).1 (g i).2:=by
  intro i hi;have:=Classical.choose_spec (HH i hi);simp only[g,hi,dif_pos];exact this
 have hrow:∀(i:Nat)(row:List D),((List.range len).map λi=>(g i).2)[i]?=some row->i<len/\row=(g i).2:=by
  intro i row hr;rw[aB]at hr
  by_cases hi:i<len
  .rw[cp hi]at hr;exact⟨hi,by simpa using hr.symm⟩
  .rw[cu (by simpa using hi)]at hr;cases hr
 have hl':((List.range len).map λi=>(g i).2).length=len:=by simp
 refine done ((List.range len).map λi=>(g i).2) hl' (λrow hr=>?_) ?_
 .obtain⟨i,hi⟩:=ao.1 hr;obtain⟨h6,rfl⟩:=hrow i row hi;exact(hg i h6).2.1
 .have hlz:∀i,i<len->(g i).1.length=a.n:=λi hi=>(World.cells?_some (hg i hi).1).2.1;have:=bp.sl (G:=all W) (w:=W) b o cap a.n ((List.range len).map λi=>(g i).2) (λi j=>(g i).1.getD j undef) (by rw[hl'];exact h1) h2 hb
   (λi row hr=>by
    obtain⟨h6,rfl⟩:=hrow i row hr;rw[(hg i h6).2.2.1,hlz i h6])
   (λi row j x hr hx=>by
    obtain⟨h6,rfl⟩:=hrow i row hr;have hj:j<a.n:=by
     have:=(aC.1 hx).1;rw[(hg i h6).2.2.1,hlz i h6]at this;exact this
    have:=(World.cells?_some (hg i h6).1).2.2 j hj;rw[dk,dk]at this;rw[show o+(i*a.n+j)=o+i*a.n+j by omega,this,aq,aA (by rw[hlz i h6];exact hj)];rfl)
   (λi row j x hr hx=>by
    obtain⟨h6,rfl⟩:=hrow i row hr;exact(hg i h6).2.2.2 j x hx)
  rwa[hl']at this
theorem LY{N n:Nat}{f:TypeId->Option Ty}{cs:List Value}(ih:∀(t:TypeId)(a:Ty),f t=some a->∀(fuel:Nat)(cs:List Value)(d:DataW H)(ps:List MemPlace),DataW.trod enc P W 0 (λ_=>true) true fuel t cs=some (d,ps)->lim N d->∃xs,sI N a xs/\yG W cs xs) :
  ∀(fl:List Field)(off:Nat)(a:Ty),GU f P off fl=some a->(∀(i:Nat)(x:Field),fl[i]?=some x->∃d ps,DataW.trod enc P W 0 (λ_=>true) true n x.type ((cs.drop x.offset).take (P.cellsOf x.type))=some (d,ps)/\lim N d) ->
  off+a.n<=cs.length->∃xs,sI N a xs/\yG W ((cs.drop off).take a.n) xs:=by
 intro fl
 induction fl with
 |nil=>
  intro off a h _ _;simp only[GU,aD]at h;subst h;exact⟨[],rfl,by simp[Ty.n],by simp⟩
 |cons x r ihr=>
  intro off a h hx hle;simp only[GU]at h;split at h
  .rename_i a0 ha0;split at h
   .rename_i hc;split at h
    .rename_i b0 hb0;cases h;simp only[Ty.n]at hle⊢;obtain⟨d,ps,htr,hl⟩:=hx 0 x rfl;rw[hc.1,hc.2]at htr;obtain⟨xs,g1,g2,g3⟩:=ih _ _ ha0 _ _ _ _ htr hl;obtain⟨ys,k1,k2,k3⟩:=ihr (off+a0.n) b0 hb0 (λi y hy=>hx (i+1) y (by simpa using hy)) (by omega);have e1:xs.length=a0.n:=by rw[g2];simp;omega
     have e2:ys.length=b0.n:=by rw[k2];simp;omega
     refine⟨xs++ys,⟨?_,?_,by simp[e1,e2]⟩,by simp[e1,e2];omega,λj y hj=>?_⟩
     .rw[<-e1,List.take_left];exact g1
     .rw[<-e1,List.drop_left];exact k1
     .have e3:(List.take (a0.n+b0.n) (List.drop off cs)).getD j undef=if j<a0.n+b0.n then cs.getD (off+j) undef else undef:=by
       rw[aq,bO,bY,aq];split<;>rfl
      rw[e3];have hjl:=(aC.1 hj).1;rw[aM,e1,e2]at hjl;rw[ζ hjl];rw[List.getElem?_append]at hj;split at hj
      .rename_i hlt;have:=g3 j y hj;rw[e1]at hlt;rw[aq,bO,ζ hlt,bY]at this;rw[aq];exact this
      .rename_i hge;rw[e1]at hge hj;have:=k3 _ y hj;rw[aq,bO,ζ (by omega),bY]at this;rw[aq,show off+j=off+a0.n+(j-a0.n)by omega];exact this
    .cases h
   .cases h
  .cases h
theorem GX{N:Nat}:∀(k:Nat)(t:TypeId)(a:Ty),EL P k t=some a->∀(fuel:Nat)(cs:List Value)(d:DataW H)(ps:List MemPlace),DataW.trod enc P W 0 (λ_=>true) true fuel t cs=some (d,ps)->lim N d->∃xs,sI N a xs/\yG W cs xs:=by
 intro k
 induction k with
 |zero=>intro t a h;cases h
 |succ k ih=>
  intro t a h fuel cs d ps htr hl;have one:∀(v:Value)(x:D),bp (all W) W v x->sI N a [x]->cs=[v]->∃xs,sI N a xs/\yG W cs xs:=by
   rintro v x hr hs rfl
   refine⟨[x],hs,rfl,λj y hy=>?_⟩;cases j with
   |zero=>simp at hy;subst hy;exact hr
   |succ j=>simp at hy
  simp only[EL]at h;split at h
  .rename_i q hu;cases h;obtain⟨n,h1,_,h3⟩:=DataW.trod_int hu htr;exact one _ _ (.int q n) ⟨rfl,JY h3⟩ h1
  .rename_i hu;cases h;obtain⟨b,h1,_⟩:=DataW.trod_bool hu htr;exact one _ _ (.bool b) trivial h1
  .rename_i hu;cases h;obtain⟨s,h1,h2,h3⟩:=DataW.trod_string hu htr;refine one _ _ (.str s h3) ?_ h1;show s.data.toList.length<=N;rcases hl with hl|hl
   .rw[<-lS];omega
   .simp only[dG]at h2;rw[h2.1]at hl;simp only[Rows.uptoBulk]at hl;omega
  .rename_i e hu;split at h
   .rename_i a0 ha0;split at h
    .rename_i hc;cases h;rcases DataW.trod_slice hu htr with⟨h1,_⟩|⟨ad,len,cap,elems,rest,n,_,h1,h2,_,h4,h5,h6,h7,h8,_⟩
     .exact one _ _ (.yv a0.n) ⟨rfl,by simp,by simp⟩ h1
     .simp only[dG]at h2;rw[h2.1]at hl;subst h1;exact LX (ih e a0 ha0) hc.1 hc.2 h4 h5 h6 h7 (h8 rfl) hl
    .cases h
   .cases h
  .rename_i fs hu;split at h
   .rename_i a0 ha0;split at h
    .rename_i hc;cases h;obtain⟨xs,n,_,h2,h3,h4,h5⟩:=DataW.trod_struct hu htr;simp only[dG]at h2;rw[h2.1]at hl;have:=LY (n:=n) (cs:=cs) (λt a h=>ih t a h) fs.toList 0 a ha0 (λi x hx=>by
      have hi:i<fs.size:=by simpa using(aC.1 hx).1
      obtain⟨y,hy⟩:∃y,xs[i]?=some y:=⟨_,aA (by omega)⟩
      refine⟨y.1,y.2,by rw[h5 i x (by simpa using hx),hy],?_⟩;rcases hl with hl|hl
      .exact .inl hl
      .refine .inr ?_;have:=uo (l:=xs.map (·.1)) (i:=i) (d:=y.1) (by rw[aB,hy];rfl);simp only[Rows.uptoBulk]at hl;omega) (by omega)
     rw[List.drop_zero,gN (by omega)]at this;exact this
    .cases h
   .cases h
  .cases h
end
end Go.Vx
namespace Go.Vx
open Go.ChangeShapes Go.WideShapes Go.ChangeAt Go.RowKit
section
variable{H:Type}{enc:TypeId×Value->H}{P:Program}{W:World}
theorem xz{f:Nat}{vs:List V}{args:Array Value}(hgl:Sg (all W) W)(hs:bL P f vs (.d (.bool true)))(hl:args.size=vs.length)(hr:∀(i:Nat)(x:V),vs[i]?=some x->az (all W) W [] (args.getD i undef) x)(hf:Nat.blt f 5000000=true:=by rfl) :
  Calls P f args W λe W'=>e=.returned (.bool true)/\Below W.heap.size W W':=by
 have h0:HR (all W) W [] []:=⟨rfl,λid v x h=>by simp at h,λid _ v _ _ _ _ h=>by simp at h,λb hb=>hb,(λb _ ho=>by
  obtain⟨id,v,x,h,_⟩:=ho;simp at h),hgl⟩
 have:=(Sat.fn hs (by simpa[fj]using hf)).run (all W) W [] args.toList h0 (by simpa using hl) (λi x hi=>by simpa[aq,aH]using hr i x hi);rw[dF]at this;refine this.mono λe W' hq=>?_;obtain⟨G',ρ',h',out,hO,he,rfl,rfl⟩:=hq;obtain⟨v,rfl,hv⟩:=he;refine⟨by rw[hv.bool],hO.os,hO.tape,hO.out,hO.size,λb hb=>hO.frame b hb ?_⟩
 rintro ⟨id,v,x,h,_⟩
 simp at h
theorem vT(hlo:laidOutB P=true){W':World}(hb:Below W.heap.size W W')(sp:Nat->Bool):∀(ts:List TypeId)(vs:List Value)(ds:List (DataW H))(ps:List MemPlace),(∀t∈ts,P.readableRec t=true/\t<P.types.size)->(∀p∈ps,p.block<W.heap.size)->(∀p∈ps,sp p.block=true) ->
  DataW.TrodAll enc P W 0 (λ_=>true) true ts vs ds ps->DataW.TrodAll enc P W' 0 sp true ts vs ds ps:=by
 intro ts
 induction ts with
 |nil=>
  intro vs ds ps _ _ _ h;cases vs<;>cases ds<;>first|exact h|exact h.elim
 |cons t ts ih=>
  intro vs ds ps h1 h2 h3 h;cases vs with
  |nil=>exact h.elim
  |cons v vs=>cases ds with
   |nil=>exact h.elim
   |cons d ds=>
    obtain⟨p,q,g1,g2,rfl⟩:=h;obtain⟨r1,r2⟩:=h1 t (by simp);exact⟨p,q,WideElems.Trod_stays hlo r1 r2 g1 (λx hx=>hb.same (h2 x (by simp[hx]))) (λx hx=>h3 x (by simp[hx])),ih vs ds q (λt ht=>h1 t (by simp[ht])) (λx hx=>h2 x (by simp[hx])) (λx hx=>h3 x (by simp[hx])) g2,rfl⟩
theorem H9{f:Func}{s:ChangeSpec}{W':World}{args:Array Value}{ds gs:List (DataW H)}{before:List MemPlace}{tb:TypeId}(hlo:laidOutB P=true)(hread:∀t∈f.params.toList,P.readableRec t=true/\t<P.types.size)
  (hres:f.resultTypes=#[tb]) (htb:P.underlying tb=some .bool) (hv:s.vars=[]) (hW:DataW.Whole enc P f.params.toList s.vars false W args.toList ds gs before)
  (h1:(s.fn H (ds++gs)).results=[.lit (.bool true)]) (h2:(s.fn H (ds++gs)).args=ds) (h3:(s.fn H (ds++gs)).vars=[]) (hb:Below W.heap.size W W') :
  s.post enc P f false true false false W args (.bool true) W':=by
 have hlt:∀p∈before,p.block<W.heap.size:=λp hp=>hW.lt p hp;have hW':=hW;obtain⟨p,q,hA,hV,rfl,hz,hn⟩:=hW;rw[hv]at hV;have hq:q=[]:=by
  cases gs with
  |nil=>exact hV
  |cons g gs=>exact hV.elim
 subst hq;have har:∀sp:Nat->Bool,(∀x∈p++[],sp x.block=true)->DataW.TrodAll enc P W' 0 sp true f.params.toList args.toList (s.fn H (ds++gs)).args p:=λsp hsp=>by
  rw[h2];exact vT hlo hb sp _ _ _ _ hread (λx hx=>hlt x (by simp[hx])) (λx hx=>hsp x (by simp[hx])) hA
 have hvr:∀sp:Nat->Bool,DataW.TrodVars enc P W' sp s.vars (s.fn H (ds++gs)).vars []:=λsp=>by rw[hv,h3];rfl
 have hre:∀(b:Nat)(sp:Nat->Bool)(hd:Bool),DataW.TrodAll enc P W' b sp hd f.resultTypes.toList ((Value.bool true).resultList f.resultTypes.size) (s.fn H (ds++gs)).results []:=λb sp hd=>by
  rw[h1,hres];exact trodAll_mk1 (shut_bool htb true)
 have hold:∀x∈p++[],(λb=>decide (b<W.heap.size)) x.block=true:=λx hx=>by simpa using hlt x hx
 refine⟨ds,gs,p++[],[],p,[],hW',hre _ _ _,har _ hold,hvr _,World.keptBut_mono (λx hx=>⟨hx,?_⟩) (hb.frame (·∈p++[])),λh=>by cases h⟩;rw[aT]at hx;exact .inr hx
theorem MQ{k:Nat}{t:TypeId}{a:Ty}{fs:Array Field}{N base:Nat}{v:Value}{d:DataW H}{p:List MemPlace}(ht:EL P k t=some a)(hu:P.underlying t=some (.struct fs))(hok:Value.okWide P W .any base t v)(h:DataW.Trod enc P W 0 (λ_=>true) true t v d p)(hl:lim N d) :
  ∃xs,sI N a xs/\az (all W) W [] v (.ag (xs.map .d)):=by
 obtain⟨cs,rfl,_⟩:=okWide_struct hu hok;obtain⟨fuel,hf⟩:=h;obtain⟨xs,g1,g2,g3⟩:=GX k t a ht fuel _ _ _ hf hl;refine⟨xs,g1,.o (.ag cs _ (by simpa[Value.cells]using g2.symm) λi x hx=>?_)⟩;rw[aB]at hx;cases hy:xs[i]? with
 |none=>rw[hy]at hx;cases hx
 |some y=>
  rw[hy]at hx;cases hx;exact .k (.d (by simpa[Value.cells,aq,aH]using g3 i y hy))
theorem Cw{t:TypeId}{k:IntKind}{base:Nat}{v:Value}{d:DataW H}{p:List MemPlace}(hu:P.underlying t=some (.int k))(hok:Value.okWide P W .any base t v)(h:DataW.Trod enc P W 0 (λ_=>true) true t v d p) :
  ∃n,dB k n/\az (all W) W [] v (.d (.int k n)):=by
 obtain⟨a,rfl,_,_,wa⟩:=open_int hu hok h;exact⟨a,JY wa,.o (.c (.k (.d (.int k a))))⟩
theorem Lp{N:Nat}{k:IntKind}{xs:List D}(h:sI N (.int k) xs):∃n,xs=[.int k n]/\dB k n:=by
 match xs,h with
 |[.int q n],h=>exact⟨n,by rw[h.1],h.2⟩
theorem wv{N:Nat}{a:Ty}{xs:List D}(h:sI N (.sl a) xs):∃rows,xs=[.sl a.n rows]/\rows.length<=N/\∀row∈rows,sI N a row:=by
 match xs,h with
 |[.sl z rows],h=>exact⟨rows,by rw[h.1],h.2.1,h.2.2⟩
theorem BA{N:Nat}{a b:Ty}{xs:List D}(h:sI N (.pr a b) xs):∃ys zs,xs=ys++zs/\sI N a ys/\sI N b zs:=by
 cases xs<;>exact⟨_,_,(List.take_append_drop a.n _).symm,h.1,h.2.1⟩
theorem Q1{N:Nat}{xs:List D}(h:sI N .un xs):xs=[]:=by
 cases xs<;>exact h
end
end Go.Vx