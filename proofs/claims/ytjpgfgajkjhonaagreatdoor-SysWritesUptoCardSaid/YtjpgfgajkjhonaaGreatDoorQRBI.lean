/- Lemmas. Conditions: none. -/
import Derived.Test.YtjpgfgajkjhonaaGreatDoorQRBH
import Derived.Shelf.SlMaps.Clone
import Derived.Shelf.SlLaysZ
import Derived.Shelf.SlLaysF
set_option maxHeartbeats 40000000
namespace Go.Proofs.YtjpgfgajkjhonaaGreatDoor
open Go.Vx
set_option maxRecDepth 100000
section
variable{m:Lb}{k:List UInt8×List UInt8}{es:List ME}
theorem y8(e:ME)(r:List ME):lJ k (e::r)=bif e.1==k then some 0 else(lJ k r).map (· + 1):=by
 unfold lJ;rw[gP];cases e.1==k<;>rfl
theorem CW{e:ME}{r:List ME}(h:(e::r).Pairwise λa b=>a.1≠b.1)(he:(e.1==k)=true):∀x∈r,(x.1==k)=false:=λx hx=>by
 have h1:=(gO.1 h).1 x hx;rw[beq_eq_false_iff_ne]
 rintro rfl
 exact h1 (by simpa using he)
theorem y6{v:Option (Option Nat×List (List D))}:∀{es:List ME}{i:Nat},(es.Pairwise λa b=>a.1≠b.1)->lJ k es=some i->eM i v es=es.map λe=>bif e.1==k then(e.1,v)else e
 |[],i,_,h=>by cases h
 |e::r,i,hn,h=>by
  rw[y8]at h;rw[cG];cases he:e.1==k with
  |true=>
   rw[he]at h;cases h;have hr:(r.map λe=>bif e.1==k then(e.1,v)else e)=r:=by
    conv=>rhs;rw[<-List.map_id r]
    exact aZ λx hx=>by rw[CW hn he x hx];rfl
   rw[hr];rfl
  |false=>
   rw[he]at h;cases hj:lJ k r with
   |none=>rw[hj]at h;cases h
   |some j=>
    rw[hj]at h;cases h;have:=y6 (v:=v) (gO.1 hn).2 hj;rw[<-this];rfl
theorem vh:∀{es:List ME}{i:Nat},(es.Pairwise λa b=>a.1≠b.1)->lJ k es=some i->es.eraseIdx i=es.filter λe=> !(e.1==k)
 |[],i,_,h=>by cases h
 |e::r,i,hn,h=>by
  rw[y8]at h;rw[qH];cases he:e.1==k with
  |true=>
   rw[he]at h;cases h;have hr:(r.filter λe=> !(e.1==k))=r:=fp.2 λx hx=>by rw[CW hn he x hx];rfl
   rw[hr];rfl
  |false=>
   rw[he]at h;cases hj:lJ k r with
   |none=>rw[hj]at h;cases h
   |some j=>
    rw[hj]at h;cases h;have:=vh (gO.1 hn).2 hj;show e::r.eraseIdx j=_;rw[this];rfl
theorem Lf{e:ME}(h:e∈es)(he:e.1=k):∃i,lJ k es=some i:=by
 cases hm:lJ k es with
 |some i=>exact⟨i,rfl⟩
 |none=>
  have:=List.findIdx?_eq_none_iff.1 hm e h;rw[he]at this;simp at this
def zi(a b:Lb):Bool:=a.s==b.s&&a.i==b.i
theorem j3{a b:Lb}:zi a b=true<->a=b:=by
 unfold zi;rw[aP,ξ,ξ];constructor
 .rintro ⟨h1,h2⟩
  cases a;cases b;cases h1;cases h2;rfl
 .rintro rfl;exact⟨rfl,rfl⟩
theorem Qg{a b:Lb}(h:a≠b):zi a b=false:=by
 cases e:zi a b with
 |false=>rfl
 |true=>exact absurd (j3.1 e) h
theorem yf(a:Lb):zi a a=true:=j3.2 rfl
abbrev Nm:=Lb×Option Nat×List (List Nat)
def kh(m:Lb)(dn:Lb->Bool)(bs:Lb->Option Nat)(nm:kA):List ME:=
 (nm.filter λp=> !dn p.1||bI p.1 m).map λp=>((p.1.s,p.1.i),bif dn p.1 then some (bs p.1,cW (p.2.2.map bm))else none)
def rG(m:Lb)(dn:Lb->Bool)(nm:kA)(key:List UInt8):Bool:=nm.any λp=>dn p.1&&!bI p.1 m&&p.2.2.any λk=>bm k==key
def j6(m:Lb)(dn:Lb->Bool)(nm:kA)(th:zj):zj:=th.filter λq=> !rG m dn nm q.1
def more(dn:Lb->Bool)(l:Lb):Lb->Bool:=λx=>dn x||zi x l
theorem Cg{dn:Lb->Bool}{bs:Lb->Option Nat}{nm:kA}(h:nm.Pairwise λa b=>a.1≠b.1):(kh m dn bs nm).Pairwise λa b=>a.1≠b.1:=by
 unfold kh;rw[kB];refine(h.filter _).imp λhab e=>hab ?_;rw[bz]at e;exact j3.1 (by unfold zi;rw[e.1,e.2,beq_self_eq_true,beq_self_eq_true];rfl)
theorem yq{dn:Lb->Bool}{bs:Lb->Option Nat}{nm:kA}{p:Nm}(hp:p∈nm)(hd:dn p.1=false):∃i,lJ (p.1.s,p.1.i) (kh m dn bs nm)=some i:=
 Lf (bJ.2 ⟨p,dh.2 ⟨hp,by rw[hd];rfl⟩,rfl⟩) rfl
theorem Nf{nm:kA}(h:nm.Pairwise λa b=>a.1≠b.1){p q:Nm}(hp:p∈nm)(hq:q∈nm)(e:p.1=q.1):p=q:=by
 induction nm with
 |nil=>cases hp
 |cons x r ih=>
  rw[gO]at h;rcases af.1 hp with rfl|h1<;>rcases af.1 hq with rfl|h2
  .rfl
  .exact absurd e (h.1 _ h2)
  .exact absurd e.symm (h.1 _ h1)
  .exact ih h.2 h1 h2
theorem Cc{a b:Lb}:((a.s,a.i)==(b.s,b.i))=zi a b:=rfl
theorem Hq{dn:Lb->Bool}{bs:Lb->Option Nat}{nm:kA}(h:nm.Pairwise λa b=>a.1≠b.1){p:Nm}(hp:p∈nm)(hf:bI p.1 m=true){i:Nat}{b:Option Nat}(hi:lJ (p.1.s,p.1.i) (kh m dn bs nm)=some i) :
  eM i (some (b,cW (p.2.2.map bm))) (kh m dn bs nm)=kh m (more dn p.1) (λx=>bif zi x p.1 then b else bs x) nm:=by
 rw[y6 (Cg h) hi];unfold kh;rw[bn];have e:(nm.filter λq=> !dn q.1||bI q.1 m)=nm.filter λq=> !more dn p.1 q.1||bI q.1 m:=by
  refine dX λq hq=>?_;unfold more;cases hx:zi q.1 p.1 with
  |false=>rw[lB]
  |true=>rw[j3.1 hx,hf,mS,mS]
 rw[<-e];refine aZ λq hq=>?_;have hq:=(dh.1 hq).1;simp only[mN,Cc,more];cases hx:zi q.1 p.1 with
 |false=>simp
 |true=>
  have:=Nf h hq hp (j3.1 hx);subst this;simp
theorem Ht{dn:Lb->Bool}{bs:Lb->Option Nat}{nm:kA}(h:nm.Pairwise λa b=>a.1≠b.1){p:Nm}(hf:bI p.1 m=false){i:Nat}(hi:lJ (p.1.s,p.1.i) (kh m dn bs nm)=some i) :
  (kh m dn bs nm).eraseIdx i=kh m (more dn p.1) bs nm:=by
 rw[vh (Cg h) hi];unfold kh;rw[List.filter_map,List.filter_filter];have e:(nm.filter λq=>(((λe:ME=> !(e.1==(p.1.s,p.1.i))) ∘ λq:Nm=>((q.1.s,q.1.i),bif dn q.1 then some (bs q.1,cW (q.2.2.map bm))else none)) q)&&(!dn q.1||bI q.1 m))=nm.filter λq=> !more dn p.1 q.1||bI q.1 m:=by
  refine dX λq hq=>?_;simp only[mN,Cc,more];cases hx:zi q.1 p.1 with
  |false=>simp
  |true=>rw[j3.1 hx,hf];simp
 rw[e];refine aZ λq hq=>?_;have hq:=(dh.1 hq).2;simp only[more]at hq⊢;cases hx:zi q.1 p.1 with
 |false=>rw[lB]
 |true=>rw[hx,j3.1 hx,hf,mS]at hq;cases hq
theorem E5{dn:Lb->Bool}{nm:kA}{th:zj}{p:Nm}(hf:bI p.1 m=true):j6 m (more dn p.1) nm th=j6 m dn nm th:=by
 unfold j6;refine dX λq _=>?_;unfold rG;congr 2
 funext r
 unfold more;cases hx:zi r.1 p.1 with
 |false=>rw[lB]
 |true=>rw[j3.1 hx,hf];simp
theorem Ho{dn:Lb->Bool}{nm:kA}{th:zj}(h:nm.Pairwise λa b=>a.1≠b.1){p:Nm}(hp:p∈nm)(hf:bI p.1 m=false) :
  j6 m (more dn p.1) nm th=(j6 m dn nm th).filter λq=> !p.2.2.any λk=>bm k==q.1:=by
 unfold j6;rw[List.filter_filter];refine dX λq _=>?_;rw[<-Bool.not_or,Bool.not_inj_iff];unfold rG;rw[Bool.eq_iff_iff,cI];constructor
 .intro h0;obtain⟨r,hr,h1⟩:=dR.1 h0;rw[aP,aP]at h1;obtain⟨⟨h1,h2⟩,h3⟩:=h1;unfold more at h1;rw[cI]at h1;rcases h1 with h1|h1
  .exact .inr (dR.2 ⟨r,hr,by rw[h1,h2,h3];rfl⟩)
  .have:=Nf h hr hp (j3.1 h1);subst this;exact .inl h3
 .rintro (h1|h0)
  .exact dR.2 ⟨p,hp,by unfold more;rw[yf,hf,h1,mS];rfl⟩
  .obtain⟨r,hr,h1⟩:=dR.1 h0;rw[aP,aP]at h1;obtain⟨⟨h1,h2⟩,h3⟩:=h1;exact dR.2 ⟨r,hr,by unfold more;rw[h1,h2,h3];rfl⟩
theorem tN{key:List UInt8}:∀{l:zj}{i:Nat}{o:Ob},(l.Pairwise λa b=>a.1≠b.1)->bW key l=some (i,o)->l.eraseIdx i=l.filter λq=> !(key==q.1)
 |[],_,_,_,h=>by cases h
 |x::r,i,o,hn,h=>by
  have h':(if key=x.1 then some (0,x.2)else(bW key r).map λx=>(x.1+1,x.2))=some (i,o):=h;rw[gO]at hn;rw[qH]
  by_cases hk:key=x.1
  .rw[ζ hk,aE,bz]at h';obtain⟨rfl,_⟩:=h';have e:(r.filter λq=> !(key==q.1))=r:=fp.2 λq hq=>by
    have:=hn.1 q hq;rw[<-hk]at this;rw[beq_eq_false_iff_ne.2 this];rfl
   rw[e,hk];simp
  .rw[η hk]at h';cases hl:bW key r with
   |none=>rw[hl]at h';cases h'
   |some y=>
    obtain⟨j,o'⟩:=y;rw[hl]at h';simp only[bE,aE,bz]at h';obtain⟨rfl,rfl⟩:=h';rw[beq_eq_false_iff_ne.2 hk,<-tN hn.2 hl];rfl
theorem yc{key:List UInt8}:∀{l:zj},bW key l=none->(l.filter λq=> !(key==q.1))=l
 |[],_=>rfl
 |x::r,h=>by
  have h':(if key=x.1 then some (0,x.2)else(bW key r).map λx=>(x.1+1,x.2))=none:=h
  by_cases hk:key=x.1
  .rw[ζ hk]at h';cases h'
  .rw[η hk]at h';cases hl:bW key r with
   |some y=>rw[hl]at h';cases h'
   |none=>rw[qH,beq_eq_false_iff_ne.2 hk,yc hl];rfl
theorem JX{key:List UInt8}{l:zj}(hn:l.Pairwise λa b=>a.1≠b.1)(c:List UInt8->Bool) :
  ((bW key (l.filter λq=> !c q.1)=none)->(l.filter λq=> !c q.1)=l.filter λq=> !(c q.1||key==q.1)) /\
  ∀i o,bW key (l.filter λq=> !c q.1)=some (i,o)->(l.filter λq=> !c q.1).eraseIdx i=l.filter λq=> !(c q.1||key==q.1):=by
 have e:(l.filter λq=> !(c q.1||key==q.1))=(l.filter λq=> !c q.1).filter λq=> !(key==q.1):=by
  rw[List.filter_filter];refine dX λq _=>?_;cases c q.1<;>cases key==q.1<;>rfl
 rw[e];exact⟨λh=>(yc h).symm,λi o h=>tN (hn.filter _) h⟩
def MD(m:Lb)(bs:Lb->Option Nat)(nm:kA):kA:=(nm.filter λp=>bI p.1 m).map λp=>(p.1,bs p.1,p.2.2)
theorem Hr{dn:Lb->Bool}{bs:Lb->Option Nat}{nm:kA}(h:∀p∈nm,dn p.1=true):kh m dn bs nm=kM (MD m bs nm):=by
 unfold kh kM MD;rw[bn];have e:(nm.filter λp=> !dn p.1||bI p.1 m)=nm.filter λp=>bI p.1 m:=dX λq hq=>by rw[h q hq];rfl
 rw[e];exact aZ λq hq=>by rw[h q (dh.1 hq).1];rfl
theorem Hu{bs:Lb->Option Nat}(nm:kA):kh m (λ_=>false) bs nm=(kM nm).map λe=>(e.1,none):=by
 unfold kh kM;rw[bn];have e:(nm.filter λp=> !(λ_=>false) p.1||bI p.1 m)=nm:=fp.2 λ_ _=>rfl;exact κ _ e
theorem Hp(nm:kA)(th:zj):j6 m (λ_=>false) nm th=th:=
 fp.2 λq _=>by
  have:rG m (λ_=>false) nm q.1=false:=by unfold rG;induction nm<;>simp_all
  rw[this];rfl
end
open Go.RowKit Go.Shelf Go.Proofs
def Jf(f m k e:Nat):Ren:=⟨λ|5=>f|7=>96|n=>n,λ|23=>m|25=>k|3=>e|n=>n,λn=>n⟩
theorem RS:SlLaysW.n5 Tryz.prog (Jf 60 121 9 68) where
 mixed:=mixed
 f5:=⟨ "maps.Clone[map[string]lazaretto/store.Obj,string,lazaretto/store.Obj]",by decide,Tryz.func60.trans (κ some zx0)⟩
 f7:=Tryz.func96.trans (κ some zx0)
 t4:=Tryz.underlying4
 a4:=Tryz.isAgg4
 z4:=Tryz.sizeOf4
 v4:=Tryz.zeroValue4
 t20:=Tryz.underlying20
 a20:=Tryz.isAgg20
 z20:=Tryz.sizeOf20
 v20:=Tryz.zeroValue20
 t23:=Tryz.underlying121
 a23:=Tryz.isAgg121
 z23:=Tryz.sizeOf121
 v23:=Tryz.zeroValue121
theorem RT:SlLaysW.n5 Tryz.prog (Jf 61 122 37 93) where
 mixed:=mixed
 f5:=⟨ "maps.Clone[map[lazaretto/label.Label][]string,lazaretto/label.Label,[]string]",by decide,Tryz.func61.trans (κ some zx0)⟩
 f7:=Tryz.func96.trans (κ some zx0)
 t4:=Tryz.underlying4
 a4:=Tryz.isAgg4
 z4:=Tryz.sizeOf4
 v4:=Tryz.zeroValue4
 t20:=Tryz.underlying20
 a20:=Tryz.isAgg20
 z20:=Tryz.sizeOf20
 v20:=Tryz.zeroValue20
 t23:=Tryz.underlying122
 a23:=Tryz.isAgg122
 z23:=Tryz.sizeOf122
 v23:=Tryz.zeroValue122
theorem v8(w:World)(o:Obj):gK w (w.alloc o):=
 have h:Below w.heap.size w (w.alloc o):=(Below.refl _ w).alloc (aM _) _
 ⟨h.size,h.block,h.os,h.tape,h.output⟩
theorem Jq{G:Nat->Prop}{w:World}{a v:Value}(h:au G w [v] a (.mp 0)):a=v:=by
 cases h with|o h=>cases h with|c h=>cases h with|k h=>cases h with|mp _ r h=>exact(aq h).symm
theorem Ml(es:List (D×Bool×List D)):Z1 60 [.mp 0] [.dm es] λout h=>out=.ret (.mp 1)/\h=[.dm es,.dm es]:=by
 refine .inl ⟨by kernel_rfl,λG w ρ vs hR hl hv=>?_⟩
 match ρ,hR.len with
 |[v0],_=>
 match vs,hl with
 |[a0],_=>
 have ha:=Jq (hv 0 _ rfl);subst ha;obtain⟨r,arr,clk,rfl,h1,h2,h3,h4⟩:=hR.rep 0 a0 _ rfl rfl;refine Calls.mono (AnyW.maps_Clone RS r arr clk w h1) ?_
 rintro e w' ⟨rfl,rfl⟩
 have hg:=v8 w (.map arr clk);have hid:∀x∈fz es,jJ x.1=[]/\jJ x.2=[]:=λx hx=>by
  have:=wq es;simp only[eZ,br,List.append_eq_nil_iff]at this;exact this x hx
 have hO:=(Ok.refl hR).push hg (.map (some w.heap.size)) (.dm es) (λb hb=>by cases hb;exact aM _) ⟨_,arr,clk,rfl,(MapKept.heap_alloc w _).1,h2,h3,λi e x he hx=>by
  have:=h4 i e x he hx;have hi:=hid x (aJ hx);exact⟨this.1.mono (λ_ h=>h) (λb hb=>hg.iE b (hR.gl b hb)) (λj hj=>by rw[hi.1]at hj;cases hj),this.2.mono (λ_ h=>h) (λb hb=>hg.iE b (hR.gl b hb)) (λj hj=>by rw[hi.2]at hj;cases hj)⟩⟩
 exact⟨G,_,_,.ret (.mp 1),hO,⟨_,rfl,.k (.mp 1 _ rfl)⟩,rfl,rfl⟩
def bare(es:List ME):List ME:=es.map λe=>(e.1,none)
theorem Mk(es:List ME):Z1 61 [.mp 0] [.ms 1 es none none] λout h=>out=.ret (.mp 1)/\h=[.ms 1 es none none,.ms 1 (bare es) none none]:=by
 refine .inl ⟨by kernel_rfl,λG w ρ vs hR hl hv=>?_⟩
 match ρ,hR.len with
 |[v0],_=>
 match vs,hl with
 |[a0],_=>
 have ha:=Jq (hv 0 _ rfl);subst ha;obtain⟨⟨r,arr,clk,rfl,h1,h2,h3,h4,h5,h6⟩,_⟩:=hR.rep 0 a0 _ rfl rfl;refine Calls.mono (AnyW.maps_Clone RT r arr clk w h1) ?_
 rintro e w' ⟨rfl,rfl⟩
 have hg:=v8 w (.map arr clk);have hgh:BM (bare es)=[]:=by
  unfold BM bare;rw[List.filterMap_map];exact List.filterMap_eq_nil_iff.2 λx _=>rfl
 have hone:Gm (bare es):=λi j k k' rs rs' b hi hj=>by
  unfold bare at hi;rw[aB,aG]at hi;obtain⟨_,_,hi⟩:=hi;cases hi
 have hgm:gh (.ms 1 (bare es) none none)=[]:=by simp[gh,hgh];rfl
 have hO:=(Ok.refl hR).N0 hg (.map (some w.heap.size)) (.ms 1 (bare es) none none) (λb hb=>by
  rcases bR.1 hb with h|h
  .cases h;exact aM _
  .rw[hgm]at h;cases h) ⟨⟨_,arr,clk,rfl,(MapKept.heap_alloc w _).1,by rw[h2];simp[bare],h3,⟨hone,by rw[hgh];simp⟩,λi e x he hx=>by
   unfold bare at hx;rw[aB,aG]at hx;obtain⟨y,hy,rfl⟩:=hx;exact⟨(h5 i e y he hy).1.mono (λ_ h=>h) (λb hb=>hg.iE b (hR.gl b hb)) (λj hj=>by simp[ua,jJ,kI,ij]at hj),λb rs h=>by cases h⟩,λi v h=>(by cases h),λi v e h=>by cases h⟩,trivial⟩
 exact⟨G,_,_,.ret (.mp 1),hO,⟨_,rfl,.k (.mp 1 _ rfl)⟩,rfl,rfl⟩
end Go.Proofs.YtjpgfgajkjhonaaGreatDoor
namespace Go.Proofs.YtjpgfgajkjhonaaGreatDoor
open Go.Vx
set_option maxRecDepth 100000
theorem Sat.eqs{P:Program}{f:Nat}{vs:List V}{x y:H}{o:Out}{K:KT}(h:Sat P f vs x λout h'=>out=o/\h'=y)(hk:K o y):Sat P f vs x K:=
 h.mono λ_ _ ⟨h1,h2⟩=>by rw[h1,h2];exact hk
theorem Mj(l:List (List D))(hl:l.length<100000000):Z1 62 [.d (.sl 1 l)] [] λout h=>out=.ret (.os 0)/\h=[.rows 1 l]:=by
 refine si0 Tryz.f62 ?_;cases l with
 |nil=>
  repeat' ((conv=>whnf);first|exact zf|refine zm ?_|refine And.intro ?_ ?_|intro _)
 |cons r l=>
  exact zj0
def strip(p:Nm):Lb×List (List Nat):=(p.1,p.2.2)
def BL(i:Nat)(b:Option Nat)(nm:kA):kA:=nm.modify i λp=>(p.1,b,p.2.2)
theorem BK(i:Nat)(b:Option Nat)(nm:kA):(BL i b nm).map strip=nm.map strip:=by
 unfold BL;apply cR;intro j;rw[aB,aB,List.getElem?_modify];cases nm[j]? with
 |none=>rfl
 |some x=>show some (strip (if i=j then(x.1,b,x.2.2)else x))=some (strip x);split<;>rfl
theorem JA{i:Nat}{nm:kA}{l:Lb}{g:Option Nat}{ns:List (List Nat)}(h:nm[i]?=some (l,g,ns))(b:Option Nat) :
  eM i (some (b,cW (ns.map bm))) (eM i none (kM nm))=kM (BL i b nm):=by
 rw[vT];apply cR;intro j;unfold kM BL;rw[fT,aB,aB,List.getElem?_modify]
 by_cases hj:i=j
 .subst hj;rw[ζ rfl,h];simp
 .rw[η hj];simp[hj]
theorem BE{m:Lb}{d1 d2:Lb->Bool}{nm:kA}{th:zj}(h:∀p∈nm,d1 p.1=d2 p.1):j6 m d1 nm th=j6 m d2 nm th:=by
 unfold j6;refine dX λq _=>?_;unfold rG;have key:∀{l:kA},(∀p∈l,d1 p.1=d2 p.1)->(l.any λp=>d1 p.1&&!bI p.1 m&&p.2.2.any λk=>bm k==q.1)=l.any λp=>d2 p.1&&!bI p.1 m&&p.2.2.any λk=>bm k==q.1:=by
  intro l
  induction l with
  |nil=>intro _;rfl
  |cons x r ih=>intro h;rw[List.any_cons,List.any_cons,h x (by simp),ih λy hy=>h y (by simp[hy])]
 rw[key h]
theorem D6(l:zj)(i:Nat):(jV l).eraseIdx i=jV (l.eraseIdx i):=by
 unfold jV
 induction l generalizing i with
 |nil=>rfl
 |cons x r ih=>cases i with
  |zero=>rfl
  |succ i=>exact κ _ (ih i)
def qc(th:zj)(ns:List (List Nat)):zj:=th.filter λq=> !ns.any λk=>bm k==q.1
theorem Ey{th:zj}(h:th.Pairwise λa b=>a.1≠b.1){ns:List (List Nat)}{j:Nat}(hj:j<ns.length) :
  (bW (bm ns[j]) (qc th (ns.take j))=none/\qc th (ns.take j)=qc th (ns.take (j+1))) \/
  ∃i o,bW (bm ns[j]) (qc th (ns.take j))=some (i,o)/\(jV (qc th (ns.take j))).eraseIdx i=jV (qc th (ns.take (j+1))):=by
 obtain⟨h1,h2⟩:=JX (key:=bm ns[j]) h λx=>(ns.take j).any λk=>bm k==x;have e:qc th (ns.take (j+1))=th.filter λq=> !(((ns.take j).any λk=>bm k==q.1)||bm ns[j]==q.1):=by
  unfold qc;rw[bc,aA hj];refine dX λq _=>?_;rw[List.any_append];simp
 rw[e];cases hl:bW (bm ns[j]) (qc th (ns.take j)) with
 |none=>exact .inl ⟨rfl,h1 hl⟩
 |some x=>
  obtain⟨i,o⟩:=x;exact .inr ⟨i,o,rfl,by rw[D6];exact κ jV (h2 i o hl)⟩
structure HS(m:Lb)(s:b7)(left:List Nat)(nm':kA)(dn:Lb->Bool):Prop where
  st:nm'.map strip=s.nm.map strip
  nd:left.Nodup
  lt:∀i∈left,∃p,s.nm[i]?=some p/\dn p.1=false
  all:∀(i:Nat)(p:Nm),s.nm[i]?=some p->i∉left->dn p.1=true
theorem List.mK{l:List Nat}{i:Nat}(h:i∈l):(l.erase i).length<l.length:=by
 have:=List.length_erase_of_mem h;have:=List.length_pos_of_mem h;omega
theorem HS.step{m:Lb}{s:b7}{left:List Nat}{nm':kA}{dn:Lb->Bool}(h:HS m s left nm' dn)(hn:s.nm.Pairwise λa b=>a.1≠b.1){i:Nat}(hm:i∈left){p:Nm}(hp:s.nm[i]?=some p)(b:Option Nat):HS m s (left.erase i) (BL i b nm') (more dn p.1):=by
 have hne:∀{j:Nat}{q:Nm},j≠i->s.nm[j]?=some q->q.1≠p.1:=λ{j q} hj hq e=>by
  rw[List.pairwise_iff_getElem]at hn;obtain⟨h1,rfl⟩:=aC.1 hp;obtain⟨h2,rfl⟩:=aC.1 hq;rcases eB i j with h3|h3|h3
  .exact hn i j h1 h2 h3 e.symm
  .exact hj h3.symm
  .exact hn j i h2 h1 h3 e
 refine⟨(BK _ _ _).trans h.st,h.nd.erase _,λj hj=>?_,λj q hq hj=>?_⟩
 .have hji:j≠i:=λe=>by subst e;exact(List.Nodup.not_mem_erase h.nd) hj
  obtain⟨q,hq,hd⟩:=h.lt j (List.mem_of_mem_erase hj);exact⟨q,hq,by unfold more;rw[hd,Qg (hne hji hq)];rfl⟩
 .by_cases hji:j=i
  .subst hji;rw[hp]at hq;cases hq;unfold more;rw[yf,mS]
  .have:j∉left:=λhl=>hj ((List.mem_erase_of_ne hji).2 hl);unfold more;rw[h.all j q hq this];rfl
theorem Qp{K:KT}(s:b7)(m:Lb)(hn:s.nm.Pairwise λa b=>a.1≠b.1)(ht:s.th.Pairwise λa b=>a.1≠b.1)(hg:lQ s)(hm:cL m)(hl:∀p∈s.nm,cL p.1)
  (hk:∀(nm':kA)(bs:Lb->Option Nat),nm'.map strip=s.nm.map strip->K (.ret (.p 3 0)) (jW ⟨s.th,nm'⟩++[.cells [.mp 4,.mp 5],.dm (jV (j6 m (λ_=>true) s.nm s.th)),.ms 1 (kM (MD m bs s.nm)) none none])) :
  Z1 28 [.p 0 0,je m] (jW s) K:=by
 have h60:=λ{K:KT}=>Sat.eqs (K:=K) (Ml (jV s.th));have h61:=λ{K:KT}=>Sat.eqs (K:=K) (Mk (kM s.nm));have hbeg:HS m s (List.range (kM s.nm).length) s.nm λ_=>false:=by
  have hlen:(kM s.nm).length=s.nm.length:=aH _;exact⟨rfl,qF,λi hi=>by
   have hi:i<s.nm.length:=by rw[<-hlen];exact cn.1 hi
   exact⟨_,aA hi,rfl⟩,λi p hp hi=>absurd (cn.2 (by rw[hlen];exact(aC.1 hp).1)) hi⟩
 refine s28.go (keep:=false) rfl ?_
 repeat' ((conv=>whnf);first|exact zf|refine(dG (dG ?_))|refine zm ?_|refine zr0 ?_|refine(h60 ?_)|refine(h61 ?_)|refine And.intro ?_ ?_|intro _)
 all_goals
  rename_i r
  conv=>whnf
  refine bM [(0,.p 0 0),(3,.p 3 0),(5,.p 6 0),(26,.it 2 r)] (λp:List Nat×Option Nat×kA×(Lb->Bool)×(Lb->Option Nat)=>HS m s p.1 p.2.2.1 p.2.2.2.1) (λ_=>[]) (λp=>[.cells [.mp 1,.mp 2],.dm (jV s.th),.ms 1 (kM p.2.2.1) none (some (r,p.1,p.2.1)),.cells [.d (.str m.s),.d (.str m.i)],.dm (jV (j6 m p.2.2.2.1 s.nm s.th)),.ms 1 (kh m p.2.2.2.1 p.2.2.2.2 s.nm) none none,.cells [.mp 4,.mp 5]]) (λp=>p.1.length) (List.range (kM s.nm).length,none,s.nm,(λ_=>false),λ_=>none) hbeg ?_ ?_ ?_ (λp hi=>?_)
  .exact zzz
  .exact⟨aU rfl,aU rfl,aU rfl,aU rfl,aU (by rw[Hp]),aU (by rw[Hu];rfl),aU rfl,trivial⟩
  .exact zx0
  obtain⟨left,cur,nm',dn,bs⟩:=p;dsimp only at hi⊢
  repeat' ((conv=>whnf);first|exact zf|refine zm ?_|intro _)
  refine⟨λh0=>?_,λi hmem=>?_⟩
  .subst h0;have hall:∀p∈s.nm,dn p.1=true:=λp hp=>by
    obtain⟨i,hi'⟩:=aj.1 hp;exact hi.all i p hi' (by simp)
   repeat' ((conv=>whnf);first|exact zf|refine zm ?_|intro _)
   have e1:j6 m dn s.nm s.th=j6 m (λ_=>true) s.nm s.th:=BE λp hp=>hall p hp;have h9:=hk nm' bs hi.st;rw[<-e1,<-Hr hall]at h9;exact h9
  .obtain⟨p,hp,hd⟩:=hi.lt i hmem;obtain⟨q,hq,hst⟩:∃q,nm'[i]?=some q/\strip q=strip p:=by
    have:=κ (λl=>l[i]?) hi.st;simp only[aB,hp,bE]at this;exact aG.1 this
   obtain⟨l,g,ns⟩:=p;obtain⟨l',g',ns'⟩:=q;unfold strip at hst;simp only[bz]at hst hd;obtain⟨rfl,rfl⟩:=hst;have hrow:(kM nm')[i]?=some ((l'.s,l'.i),some (g',cW (ns'.map bm))):=by unfold kM;rw[aB,hq];rfl
   have hsm:=hl _ (aJ hp);have h13:=jc l' m hsm hm;cases hf:bI l' m
   all_goals rw[hf]at h13
   .obtain⟨x,hx⟩:=yq (m:=m) (bs:=bs) (aJ hp) hd;have hT0:(j6 m dn s.nm s.th).Pairwise λa b=>a.1≠b.1:=ht.filter _
    repeat' ((conv=>whnf);first|exact zf|refine zm ?_|refine⟨_,_,_,⟨rfl,hrow⟩,?_⟩|refine zc h13 ?_|refine zt ?_|refine zu ?_|intro _)
    repeat' ((conv=>whnf);first|exact zf|refine zm ?_|refine zt ?_|refine zu ?_|intro _)
    conv=>whnf
    refine bM [(0,.p 0 0),(3,.p 3 0),(5,.p 6 0),(26,.it 2 r),(6,.p 8 0),(42,.os 7),(43,.d (.int .i64 (cW (ns'.map bm)).length))] (λj:Nat=>j<=ns'.length) (λj=>[(44,.d (.int .i64 j))]) (λj=>[.cells [.mp 1,.mp 2],.dm (jV s.th),.ms 1 (eM i none (kM nm')) (some (i,.os 7)) (some (r,left.erase i,some i)),.cells [.d (.str m.s),.d (.str m.i)],.dm (jV (qc (j6 m dn s.nm s.th) (ns'.take j))),.ms 1 (kh m dn bs s.nm) none none,.cells [.mp 4,.mp 5],.rows 1 (cW (ns'.map bm)),.cells [.d (.str l'.s),.d (.str l'.i)]]) (λj=>ns'.length-j) 0 (ae _) ?_ ?_ ?_ (λj hj=>?_)
    .exact zzz
    .exact⟨aU rfl,aU rfl,aU rfl,aU rfl,aU (by unfold qc;rw[nS];exact κ B.dm (κ jV (fp.2 λ_ _=>rfl).symm)),aU rfl,aU rfl,aU rfl,aU rfl,trivial⟩
    .exact zx0
    have hlen:(cW (ns'.map bm)).length=ns'.length:=by rw[gr,aH]
    by_cases hlt:j<ns'.length
    .have tx:decide ((j:Int)<((cW (ns'.map bm)).length:Int))=true:=by rw[hlen];simp;omega
     have hr:(cW (ns'.map bm))[(j:Int).toNat]?=some [.str (bm ns'[j])]:=by rw[show(j:Int).toNat=j by omega];unfold cW;rw[aB,aB,aA hlt];rfl
     have hfn:=q7 (bm ns'[j]) (qc (j6 m dn s.nm s.th) (ns'.take j)) 0;rcases Ey hT0 hlt with⟨h1,h2⟩|⟨y,o,h1,h2⟩
     all_goals rw[h1]at hfn
     .skip
      repeat' ((conv=>whnf);first|exact zf|refine zm ?_|refine(gM tx ?_)|refine⟨_,hr,?_⟩|refine⟨_,hfn,?_⟩|refine zt ?_|refine zu ?_|intro _)
      refine .inl ⟨j+1,hlt,(by show ns'.length-(j+1)<ns'.length-j;omega),zzz,⟨aU rfl,aU rfl,aU rfl,aU rfl,aU (by rw[h2]),aU rfl,aU rfl,aU rfl,aU rfl,trivial⟩,rfl⟩
     .skip
      repeat' ((conv=>whnf);first|exact zf|refine zm ?_|refine(gM tx ?_)|refine⟨_,hr,?_⟩|refine⟨_,hfn,?_⟩|refine zt ?_|refine zu ?_|intro _)
      refine .inl ⟨j+1,hlt,(by show ns'.length-(j+1)<ns'.length-j;omega),zzz,⟨aU rfl,aU rfl,aU rfl,aU rfl,aU (κ B.dm h2),aU rfl,aU rfl,aU rfl,aU rfl,trivial⟩,rfl⟩
    .have tx:decide ((j:Int)<((cW (ns'.map bm)).length:Int))=false:=by rw[hlen];simp;omega
     obtain rfl:j=ns'.length:=by omega
     repeat' ((conv=>whnf);first|exact zf|refine zm ?_|refine(gG tx ?_)|refine⟨_,hx,?_⟩|refine zt ?_|refine zu ?_|intro _)
     repeat' ((conv=>whnf);first|exact zf|refine zm ?_|refine zt ?_|refine zu ?_|intro _)
     refine .inr ?_
     repeat' ((conv=>whnf);first|exact zf|refine zm ?_|refine zt ?_|refine zu ?_|intro _)
     rename_i b;have e2:=JA hq b;have e4:jV (qc (j6 m dn s.nm s.th) (ns'.take ns'.length))=jV (j6 m (more dn l') s.nm s.th):=by rw[cO];exact κ jV (Ho hn (aJ hp) hf).symm
     have e5:(kh m dn bs s.nm).eraseIdx x=kh m (more dn l') bs s.nm:=Ht (p:=(l',g,ns')) hn hf hx;refine⟨(left.erase i,some i,BL i b nm',more dn l',bs),hi.step hn hmem hp b,List.mK hmem,zzz,?_,rfl⟩;exact⟨aU rfl,aU rfl,aU (κ (λes=>B.ms 1 es none (some (r,left.erase i,some i))) e2),aU rfl,aU (κ B.dm e4),aU (κ (λes=>B.ms 1 es none none) e5),aU rfl,trivial⟩
   .obtain⟨x,hx⟩:=yq (m:=m) (bs:=bs) (aJ hp) hd;have hc:=Mj (cW (ns'.map bm)) (by rw[gr,aH];exact(hg.2 _ (aJ hp)).1);have hscl:(cW (ns'.map bm)).all (λr=>r.all KI)=true:=by
     rw[aS];intro r hr;unfold cW at hr;obtain⟨x,_,rfl⟩:=bJ.1 hr;rfl
    have hsB:[B.rows 1 (cW (ns'.map bm))].all yE=true:=by show((cW (ns'.map bm)).all (λr=>r.all KI)&&true)=true;rw[hscl];rfl
    repeat' ((conv=>whnf);first|exact zf|refine(gW 1 ?_)|refine(bh (bh (.inl ?_)):eO _ (eO _ (VW _ _ _ 62 _ _ _ _ _ _ _\/_)))|refine zm ?_|refine⟨_,_,_,⟨rfl,hrow⟩,?_⟩|refine zc h13 ?_|refine(And.intro ⟨rfl,λh=>nomatch h⟩ ?_)|refine⟨_,_,hc,?_⟩|refine zt ?_|refine zu ?_|intro _)
    refine And.intro ⟨(by show((true && [B.rows 1 (cW (ns'.map bm))].all yE)&&true)=true;rw[hsB];rfl),rfl⟩ ?_
    repeat' ((conv=>whnf);first|exact zf|refine zm ?_|refine zt ?_|refine zu ?_|intro _)
    refine .inl ⟨x,⟨hx,λj v h=>nomatch h⟩,λb2=>?_⟩
    repeat' ((conv=>whnf);first|exact zf|refine zm ?_|refine zt ?_|refine zu ?_|intro _)
    refine .inr ?_
    repeat' ((conv=>whnf);first|exact zf|refine zm ?_|refine zt ?_|refine zu ?_|intro _)
    rename_i b;have e2:=JA hq b;have e4:jV (j6 m dn s.nm s.th)=jV (j6 m (more dn l') s.nm s.th):=κ jV (E5 (p:=(l',g,ns')) hf).symm;have e5:eM x (some (b2,cW (ns'.map bm))) (kh m dn bs s.nm)=kh m (more dn l') (λy=>bif zi y l' then b2 else bs y) s.nm:=Hq (p:=(l',g,ns')) hn (aJ hp) hf hx;refine⟨(left.erase i,some i,BL i b nm',more dn l',λy=>bif zi y l' then b2 else bs y),hi.step hn hmem hp b,List.mK hmem,zzz,?_,rfl⟩;exact⟨aU rfl,aU rfl,aU (κ (λes=>B.ms 1 es none (some (r,left.erase i,some i))) e2),aU rfl,aU (κ B.dm e4),aU (κ (λes=>B.ms 1 es none none) e5),aU rfl,trivial⟩
def XY(k:Nat)(s:b7):H:=[.cells [.mp (k+1),.mp (k+2)],.dm (jV s.th),.ms 1 (kM s.nm) none none]
section
variable{m:Lb}
theorem Hm{dn:Lb->Bool}{s:b7}(hc:qJ s)(h:∀p∈s.nm,dn p.1=true):j6 m dn s.nm s.th=K7 m s.th:=by
 unfold j6 K7;refine dX λq hq=>?_;have hnd:s.th.Pairwise λa b=>a.1≠b.1:=by have:=hc.nd;unfold names List.Nodup at this;rwa[kB]at this
 cases hf:bI q.2.l m with
 |false=>
  obtain⟨e,he,h1,k,hk,h2⟩:=hc.up q hq;have:rG m dn s.nm q.1=true:=dR.2 ⟨e,he,by
   rw[h e he,h1,hf,pJ,Bool.not_false,pJ,dR];exact⟨k,hk,by rw[h2];exact beq_self_eq_true _⟩⟩
  rw[this];rfl
 |true=>
  cases hg:rG m dn s.nm q.1 with
  |false=>rfl
  |true=>
   obtain⟨e,he,h1⟩:=dR.1 hg;rw[aP,aP,dR]at h1;obtain⟨⟨_,h2⟩,k,hk,h3⟩:=h1;obtain⟨p,hp,h4,h5⟩:=hc.dn e he k hk;have h6:p.1=q.1:=h4.trans (by simpa using h3);have h7:p=q:=by
    have key:∀{l:zj},(l.Pairwise λa b=>a.1≠b.1)->p∈l->q∈l->p=q:=by
     intro l
     induction l with
     |nil=>intro _ h;cases h
     |cons x r ih=>
      intro hn g1 g2;rw[gO]at hn;rcases af.1 g1 with e1|e1
      .rcases af.1 g2 with e2|e2
       .rw[e1,e2]
       .exact absurd h6 (by rw[e1];exact hn.1 _ e2)
      .rcases af.1 g2 with e2|e2
       .exact absurd h6.symm (by rw[e2];exact hn.1 _ e1)
       .exact ih hn.2 e1 e2
    exact key hnd hp hq
   subst h7;rw[h5]at hf;rw[hf]at h2;cases h2
theorem qJ.pw{s:b7}(h:qJ s):s.th.Pairwise λa b=>a.1≠b.1:=by
 have:=h.nd;unfold names List.Nodup at this;rwa[kB]at this
theorem qJ.pl{s:b7}(h:qJ s):s.nm.Pairwise λa b=>a.1≠b.1:=by
 have:=h.ld;unfold List.Nodup at this;rwa[kB]at this
theorem nX{nm nm':kA}(h:nm'.map strip=nm.map strip){e:Nm}(he:e∈nm'):∃e'∈nm,e'.1=e.1/\e'.2.2=e.2.2:=by
 have:strip e∈nm.map strip:=by rw[<-h];exact bJ.2 ⟨e,he,rfl⟩
 obtain⟨e',h1,h2⟩:=bJ.1 this;unfold strip at h2;rw[bz]at h2;exact⟨e',h1,h2⟩
theorem Dd{nm nm':kA}(h:nm'.map strip=nm.map strip):nm'.map (·.1)=nm.map (·.1):=by
 have:=κ (List.map (·.1)) h;rw[bn,bn]at this;exact this
theorem qJ.strip{s:b7}(h:qJ s){nm':kA}(hn:nm'.map strip=s.nm.map strip):qJ ⟨s.th,nm'⟩ where
 nd:=h.nd
 ld:=by rw[Dd hn];exact h.ld
 up:=λp hp=>by
  obtain⟨e,he,h1,k,hk,h2⟩:=h.up p hp;obtain⟨e',he',h3,h4⟩:=nX hn.symm he;exact⟨e',he',h3.trans h1,k,by rw[h4];exact hk,h2⟩
 dn:=λe he k hk=>by
  obtain⟨e',he',h3,h4⟩:=nX hn he;rw[<-h3];exact h.dn e' he' k (by rw[h4];exact hk)
 gd:=h.gd
 ne:=λe he=>by
  obtain⟨e',he',h3,h4⟩:=nX hn he;rw[<-h4];exact h.ne e' he'
theorem fy.strip{mx:Int}{q n:Nat}{s:b7}(h:fy mx q n s){nm':kA}(hn:nm'.map strip=s.nm.map strip):fy mx q n ⟨s.th,nm'⟩ where
 nm:=by have:=κ List.length hn;rw[aH,aH]at this;show nm'.length<=_;rw[this];exact h.nm
 ns:=λe he=>by
  obtain⟨e',he',h3,h4⟩:=nX hn he;rw[<-h4];exact h.ns e' he'
 th:=h.th
theorem qJ.sm{mx:Int}{q n:Nat}{s:b7}(h:qJ s)(hs:fy mx q n s):∀p∈s.nm,cL p.1:=λp hp=>by
 obtain⟨k,hk⟩:=List.exists_mem_of_ne_nil _ (h.ne p hp);obtain⟨x,hx,_,h2⟩:=h.dn p hp k hk;rw[<-h2];exact(hs.th x hx).l
theorem MC{K:KT}{mx:Int}{q n:Nat}(s:b7)(hc:qJ s)(hs:fy mx q n s)(hn:n<100000000)(hm:cL m)
  (hk:∀(nm':kA)(r:b7),nm'.map strip=s.nm.map strip->r.th=K7 m s.th->K (.ret (.p 3 0)) (jW ⟨s.th,nm'⟩++XY 3 r)) :
  Z1 28 [.p 0 0,je m] (jW s) K:=
 Qp s m hc.pl hc.pw ⟨by have:=hs.nm;omega,λp hp=>⟨by have:=(hs.ns p hp).1;omega,(hs.ns p hp).2⟩⟩ hm (hc.sm hs) λnm' bs h=>by
  have:=hk nm' ⟨j6 m (λ_=>true) s.nm s.th,MD m bs s.nm⟩ h (Hm hc λ_ _=>rfl);exact this
end
end Go.Proofs.YtjpgfgajkjhonaaGreatDoor
namespace Go.Proofs.YtjpgfgajkjhonaaGreatDoor
open Go.Shelf Go.Proofs
def H3:Go.Shelf.Ren:=⟨λ|10=>99|n=>n,λ|33=>119|23=>121|0=>0|4=>4|26=>9|3=>68|n=>n,λ|n=>n⟩
theorem UA:SlLaysZ.n10 Tryz.prog H3 where
 mixed:=zx0
 f10:=⟨ "maps.Keys[map[string]lazaretto/store.Obj,string,lazaretto/store.Obj]$1",by decide,Tryz.func99.trans (κ some zx0)⟩
 t0:=Tryz.underlying0
 a0:=Tryz.isAgg0
 z0:=Tryz.sizeOf0
 v0:=Tryz.zeroValue0
 t4:=Tryz.underlying4
 a4:=Tryz.isAgg4
 z4:=Tryz.sizeOf4
 v4:=Tryz.zeroValue4
 t23:=Tryz.underlying121
 a23:=Tryz.isAgg121
 z23:=Tryz.sizeOf121
 v23:=Tryz.zeroValue121
 t26:=Tryz.underlying9
 a26:=Tryz.isAgg9
 z26:=Tryz.sizeOf9
 v26:=Tryz.zeroValue9
 t33:=Tryz.underlying119
 a33:=Tryz.isAgg119
 z33:=Tryz.sizeOf119
 v33:=Tryz.zeroValue119
def C_:Go.Shelf.Ren:=⟨λ|8=>97|11=>135|n=>n,λ|26=>9|28=>149|24=>93|0=>0|33=>119|4=>4|n=>n,λ|n=>n⟩
theorem RM:SlLaysZ.n8 Tryz.prog C_ where
 mixed:=zx0
 f8:=⟨ "slices.Collect[string]",by decide,Tryz.func97.trans (κ some zx0)⟩
 f11:=⟨ "slices.AppendSeq[[]string,string]",by decide,Tryz.func135.trans (κ some zx0)⟩
 t0:=Tryz.underlying0
 a0:=Tryz.isAgg0
 z0:=Tryz.sizeOf0
 v0:=Tryz.zeroValue0
 t24:=Tryz.underlying93
 a24:=Tryz.isAgg93
 z24:=Tryz.sizeOf93
 v24:=Tryz.zeroValue93
 t26:=Tryz.underlying9
 a26:=Tryz.isAgg9
 z26:=Tryz.sizeOf9
 v26:=Tryz.zeroValue9
 t28:=Tryz.underlying149
 a28:=Tryz.isAgg149
 z28:=Tryz.sizeOf149
 v28:=Tryz.zeroValue149
 i26:=zx0
def wD:Go.Shelf.Ren:=⟨λ|6=>98|15=>137|14=>136|28=>206|29=>207|20=>198|21=>199|22=>200|23=>201|24=>202|25=>203|26=>204|27=>205|46=>263|47=>264|48=>265|49=>266|50=>267|57=>298|n=>n,λ|22=>93|24=>9|25=>128|3=>3|39=>198|0=>0|53=>293|55=>193|4=>4|46=>287|45=>286|50=>126|5=>5|9=>9|66=>333|70=>337|76=>367|77=>158|n=>n,λ|n=>n⟩
theorem Fo:SlLaysF.n6 Tryz.prog wD where
 mixed:=zx0
 f6:=⟨ "slices.SortFunc[[]string,string]",by decide,Tryz.func98.trans (κ some zx0)⟩
 f14:=⟨ "slices.pdqsortCmpFunc[string]",by decide,Tryz.func136.trans (κ some zx0)⟩
 f15:=Tryz.func137.trans (κ some zx0)
 f20:=⟨ "slices.insertionSortCmpFunc[string]",by decide,Tryz.func198.trans (κ some zx0)⟩
 f21:=⟨ "slices.heapSortCmpFunc[string]",by decide,Tryz.func199.trans (κ some zx0)⟩
 f22:=⟨ "slices.breakPatternsCmpFunc[string]",by decide,Tryz.func200.trans (κ some zx0)⟩
 f23:=⟨ "slices.choosePivotCmpFunc[string]",by decide,Tryz.func201.trans (κ some zx0)⟩
 f24:=⟨ "slices.reverseRangeCmpFunc[string]",by decide,Tryz.func202.trans (κ some zx0)⟩
 f25:=⟨ "slices.partialInsertionSortCmpFunc[string]",by decide,Tryz.func203.trans (κ some zx0)⟩
 f26:=⟨ "slices.partitionEqualCmpFunc[string]",by decide,Tryz.func204.trans (κ some zx0)⟩
 f27:=⟨ "slices.partitionCmpFunc[string]",by decide,Tryz.func205.trans (κ some zx0)⟩
 f28:=Tryz.func206.trans (κ some zx0)
 f29:=Tryz.func207.trans (κ some zx0)
 f46:=⟨ "slices.siftDownCmpFunc[string]",by decide,Tryz.func263.trans (κ some zx0)⟩
 f47:=Tryz.func264.trans (κ some zx0)
 f48:=Tryz.func265.trans (κ some zx0)
 f49:=⟨ "slices.medianAdjacentCmpFunc[string]",by decide,Tryz.func266.trans (κ some zx0)⟩
 f50:=⟨ "slices.medianCmpFunc[string]",by decide,Tryz.func267.trans (κ some zx0)⟩
 f57:=⟨ "slices.order2CmpFunc[string]",by decide,Tryz.func298.trans (κ some zx0)⟩
 t0:=Tryz.underlying0
 a0:=Tryz.isAgg0
 z0:=Tryz.sizeOf0
 v0:=Tryz.zeroValue0
 t3:=Tryz.underlying3
 a3:=Tryz.isAgg3
 z3:=Tryz.sizeOf3
 v3:=Tryz.zeroValue3
 t4:=Tryz.underlying4
 a4:=Tryz.isAgg4
 z4:=Tryz.sizeOf4
 v4:=Tryz.zeroValue4
 t5:=Tryz.underlying5
 a5:=Tryz.isAgg5
 z5:=Tryz.sizeOf5
 v5:=Tryz.zeroValue5
 t9:=Tryz.underlying9
 a9:=Tryz.isAgg9
 z9:=Tryz.sizeOf9
 v9:=Tryz.zeroValue9
 t22:=Tryz.underlying93
 a22:=Tryz.isAgg93
 z22:=Tryz.sizeOf93
 v22:=Tryz.zeroValue93
 a24:=Tryz.isAgg9
 z24:=Tryz.sizeOf9
 t25:=Tryz.underlying128
 a25:=Tryz.isAgg128
 z25:=Tryz.sizeOf128
 v25:=Tryz.zeroValue128
 t39:=Tryz.underlying198
 a39:=Tryz.isAgg198
 z39:=Tryz.sizeOf198
 v39:=Tryz.zeroValue198
 t45:=Tryz.underlying286
 a45:=Tryz.isAgg286
 z45:=Tryz.sizeOf286
 v45:=Tryz.zeroValue286
 t46:=Tryz.underlying287
 a46:=Tryz.isAgg287
 z46:=Tryz.sizeOf287
 v46:=Tryz.zeroValue287
 t50:=Tryz.underlying126
 a50:=Tryz.isAgg126
 z50:=Tryz.sizeOf126
 v50:=Tryz.zeroValue126
 t53:=Tryz.underlying293
 a53:=Tryz.isAgg293
 z53:=Tryz.sizeOf293
 v53:=Tryz.zeroValue293
 t55:=Tryz.underlying193
 a55:=Tryz.isAgg193
 z55:=Tryz.sizeOf193
 v55:=Tryz.zeroValue193
 t66:=Tryz.underlying333
 a66:=Tryz.isAgg333
 z66:=Tryz.sizeOf333
 v66:=Tryz.zeroValue333
 t70:=Tryz.underlying337
 a70:=Tryz.isAgg337
 z70:=Tryz.sizeOf337
 v70:=Tryz.zeroValue337
 t76:=Tryz.underlying367
 a76:=Tryz.isAgg367
 z76:=Tryz.sizeOf367
 v76:=Tryz.zeroValue367
 t77:=Tryz.underlying158
 a77:=Tryz.isAgg158
 z77:=Tryz.sizeOf158
 v77:=Tryz.zeroValue158
end Go.Proofs.YtjpgfgajkjhonaaGreatDoor
namespace Go.Od
set_option maxHeartbeats 4000000
section
variable{α:Type}{p:Program}{n:Nat}{w w':World}
def Um:Result α->World
 |.ok _ w=>w
 |.halt _ w=>w
theorem R5:∀(a:Ask α)(w:World),w.drawn<=(w.ask a).2.drawn:=by
 intro a
 induction a with
 |done a=>intro w;exact aM _
 |ask what range k ih=>
  intro w;unfold World.ask;dsimp only;split
  .exact ih _ w
  .exact aV (cA _) (ih _ {w with drawn:=w.drawn+1})
theorem P2(c:Sys)(w:World):w.drawn<=(w.sys c).2.drawn:=by
 have:=R5 (Kernel.perform c w.os) w;unfold World.sys;split
 .exact aM _
 .rename_i h;rw[h]at this;exact this
theorem K8{w2:World}{at_:Addr}{u:TypeId}{k:Addr}{v:Value}{b:Bool}{l:List Addr}(h:w.viewStore p at_ u k v b=.ok (w2,l)):w2.drawn=w.drawn:=by
 unfold World.viewStore at h;simp only[bind,Except.bind,pure,Except.pure]at h
 repeat' (split at h<;>try cases h)
 all_goals rfl
theorem Qz{w2:World}{a:Addr}{v:Value}{b:Bool}{l:List Addr}(h:w.farStore p a v b=.ok (w2,l)):w2.drawn=w.drawn:=by
 unfold World.farStore at h;split at h
 .split at h
  .rename_i hv;cases h;exact K8 hv
  .cases h
 .cases h
theorem wR:∀(e:Sem α)(w:World),w.drawn<=(Um (e.run p w)).drawn:=by
 intro e
 induction e with
 |pure a=>intro w;exact aM _
 |load m a k ih=>
  intro w;simp only[Sem.run];split
  .exact ih _ w
  .split
   .exact ih _ w
   .exact aM _
 |store m a v k ih=>
  intro w;have h0:w.drawn<=(Um (match w.cell? a with
   |some _=>if w.frozen? a then .halt (.unsupported (.unsafePointer "a write to bytes that a string shares")) w else k.run p (w.setCell a v)
   |none=>match w.farStore p a v (m == .atomic) with
    |.ok (w,_)=>k.run p w
    |.error h=>.halt h w)).drawn:=by
   split
   .split
    .exact aM _
    .exact ih (w.setCell a v)
   .split
    .rename_i hf;rw[<-Qz hf];exact ih _
    .exact aM _
  cases v<;>first|exact h0|exact aM _
 |new o k ih=>intro w;exact ih _ {w with heap:=w.heap.push o}
 |shape r k ih=>intro w;exact ih _ w
 |freeze a n k ih=>
  intro w;have h0:(w.freeze a n).drawn=w.drawn:=by
   unfold World.freeze
   repeat' split
   all_goals rfl
  have:=ih (w.freeze a n);rw[h0]at this;exact this
 |frozen a k ih=>intro w;exact ih _ w
 |getObj r k ih=>
  intro w;simp only[Sem.run];split
  .exact aM _
  .exact ih _ w
  .exact aM _
 |setObj r o k ih=>
  intro w;simp only[Sem.run];split
  .exact aM _
  .exact ih {w with heap:=w.heap.setIfInBounds r o}
  .exact aM _
 |choose q k ih=>
  intro w;simp only[Sem.run];split
  .exact ih _ w
  .exact aV (cA _) (ih _ {w with drawn:=w.drawn+1})
 |sys c k ih=>intro w;exact aV (P2 c w) (ih _ _)
 |program k ih=>intro w;exact ih _ w
 |mark m k ih=>intro w;exact ih w
 |halt h=>intro w;exact aM _
theorem c_{e:Sem α}{a:α}(hr:e.run p w=.ok a w')(h:n<=w.drawn):n<=w'.drawn:=by
 have:=wR (p:=p) e w;rw[hr]at this;exact aV h this
theorem wT{e:Sem α}{a:Halt}(hr:e.run p w=.halt a w')(h:n<=w.drawn):n<=w'.drawn:=by
 have:=wR (p:=p) e w;rw[hr]at this;exact aV h this
theorem wU{e:Sem α}{a:α}{es es':Array Event}(hr:e.runT p w es=(.ok a w',es'))(h:n<=w.drawn):n<=w'.drawn:=
 c_ (by rw[<-Sem.runT_fst p e w es,hr]) h
theorem LJ{e:Sem α}{a:Halt}{es es':Array Event}(hr:e.runT p w es=(.halt a w',es'))(h:n<=w.drawn):n<=w'.drawn:=
 wT (by rw[<-Sem.runT_fst p e w es,hr]) h
end
def gm(n:Nat):GStep->Prop
 |.go _ w _|.comm _ _ _ _ w _|.spawn _ _ w _|.count _ w _|.timer _ _ w _|.alone _ _ w _|.newcoro _ _ _ w _|.coroswitch _ _ _ w _|.collect _ w _|.watch _ w _=>n<=w.drawn
 |.ended _ _ _=>True
def sm(n:Nat):Stepped->Prop
 |.next m=>n<=m.world.drawn
 |.ended _ _=>True
section
variable{p:Program}{n:Nat}{w w':World}{fr:Frame}{cs:List Frame}{dy:Option Dying}
theorem jA{es:Array Event}{s:GStep}(h:gm n s):gm n (GStep.after es s):=by cases s<;>exact h
theorem BJ{c:Prop}[Decidable c]{a b:GStep}(h1:gm n a)(h2:gm n b):gm n (if c then a else b):=by split;exact h1;exact h2
theorem nN{main:Bool}{v:Value}(h:n<=w.drawn):gm n (doReturn p main fr cs dy v w):=by
 unfold doReturn
 repeat' split
 all_goals first|exact h|trivial
theorem JV{l:List ByteArray}{m:String}{b:Bool}(h:n<=w.drawn):gm n (dieOf fr l m b w):=h
theorem nM{v:Value}(h:n<=w.drawn):gm n (endPrinting p fr v w):=by
 unfold endPrinting;dsimp only
 repeat' split
 all_goals first|exact h|trivial
theorem B1{fd:Nat}{t:ByteArray}{o:Outcome}:gm n (endWith w fd t o):=by
 unfold endWith;dsimp only
 repeat' split
 all_goals trivial
theorem rI{m:String}(h:n<=w.drawn):gm n (endFatal p fr cs dy m w):=by
 unfold endFatal;dsimp only;split
 .exact JV (c_ (by assumption) h)
 .trivial
 .trivial
theorem rX{d:Deferred}(h:n<=w.drawn):gm n (callDeferred p fr cs dy d w):=by
 unfold callDeferred;refine BJ trivial ?_;have h1:n<=(Um ((invoke d.target d.args).runT p w #[]).1).drawn:=by
  rw[Sem.runT_fst];exact aV h (wR _ w)
 generalize(invoke d.target d.args).runT p w #[]=R at h1;obtain⟨r,es⟩:=R;dsimp only at h1⊢;refine jA ?_;split
 all_goals first|exact h1|exact rI h1|exact zB h1|trivial|(split<;>exact h1)
theorem D5{main:Bool}(h:n<=w.drawn):gm n (unwind p main fr cs dy w):=by
 unfold unwind;split
 .generalize hr:Sem.runT p _ w #[]=R;obtain⟨r,es⟩:=R;refine jA ?_;split
  .exact wU hr h
  .trivial
 .exact rX h
 .split
  .trivial
  .split
   .trivial
   .split
    .exact h
    .split
     .split
      .exact h
      .split
       .exact c_ (by assumption) h
       .trivial
       .trivial
     .split
      .exact nM h
      .trivial
  .split
   .exact nN h
   .generalize hr:Sem.runT p _ w #[]=R;obtain⟨r,es⟩:=R;refine jA ?_;split
    .exact nN (wU hr h)
    .trivial
    .trivial
theorem zo{d:Dying}{f:Fatal}(h:n<=w.drawn):gm n (writeOn p fr d f w):=by
 unfold writeOn;dsimp only;split
 .trivial
 .split
  .exact wU (by assumption) h
  .exact LJ (by assumption) h
  .trivial
  .trivial
theorem RF{d:Dying}(h:n<=w.drawn):gm n (die p fr d w):=by
 unfold die;split
 .exact zo h
 .split
  .split
   .exact h
   .exact B1
  .dsimp only;split
   .exact h
   .split
    .exact c_ (by assumption) h
    .trivial
   .refine jA ?_;rw[Sem.runT_fst];split
    .exact c_ (by assumption) h
    .exact c_ (by assumption) h
    .trivial
    .exact nM (wT (by assumption) h)
    .trivial
   .trivial
theorem JP{g:Nat}(h:n<=w.drawn):gm n (early p fr cs dy g w):=by
 unfold early;dsimp only
 repeat' split
 all_goals first|exact h|trivial|exact c_ (by assumption) h|(have hh:=c_ (by assumption) h;exact hh)
theorem nP{s:Sem Next}{b:Bool}(h:n<=w.drawn):gm n (stepG.apply p b fr cs dy s w):=by
 unfold stepG.apply;have h1:n<=(Um (s.run p w)).drawn:=aV h (wR s w);have h2:(if b=true then s.runT p w #[]else(s.run p w,#[])).1=s.run p w:=by
  split
  .exact Sem.runT_fst p s w #[]
  .rfl
 rw[<-h2]at h1;clear h2;dsimp only;generalize(if b=true then s.runT p w #[]else(s.run p w,#[]))=R at h1;obtain⟨r,es⟩:=R;dsimp only at h1⊢;refine jA ?_
 repeat' split
 all_goals first|exact h1|exact rI h1|exact zB h1|exact JP h1|trivial
theorem LW{b:Bool}(h:n<=w.drawn):gm n (stepG.oper p b fr cs dy w):=by
 unfold stepG.oper
 repeat' split
 all_goals first|exact nP h|trivial
theorem MW{main b:Bool}(h:n<=w.drawn):gm n (stepG.exec p main b fr cs dy w):=by
 unfold stepG.exec;have hl:∀jump,gm n (match fr.roundOf with
   |none=>if jump matches none|some .ret then .go {frame:={fr with mode:=.returning},callers:=cs,status:=.running,dying:=dy} w else .ended (.stuck "exit, goto: no such block or label" (fr.pos p)) w
   |some l=>
    let(r,es):=(Instr.endRound l jump).runT p w #[]
    GStep.after (seen p fr.fn es) <| match r with
    |.ok v w=>doReturn p main fr cs dy v w
    |.halt _ w=>.ended (.stuck "range over a function: no such loop" (fr.pos p)) w):=by
  intro jump;split
  .split<;>first|exact h|trivial
  .refine jA ?_;rw[Sem.runT_fst];split
   .exact nN (c_ (by assumption) h)
   .trivial
 obtain⟨fn,tmps,todo,defers,mode,kind,ro⟩:=fr
 match todo with
 |[]=>exact hl none
 |.inBlock _::k|.inScope _::k|.inLoop _::k|.inRegion _ []::k=>exact h
 |.inRangeFunc _::k=>trivial
 |.beginRound::k=>exact nP h
 |.endRangeFunc l::k=>
  refine jA ?_;rw[Sem.runT_fst];split
  .exact c_ (by assumption) h
  .exact wT (by assumption) h
  .trivial
 |.call .. :: k=>exact nP h
 |.extern row args::k=>
  show gm n ((Extern.next row).elim _ _);cases Extern.next row with
  |none=>trivial
  |some e=>exact nP h
 |.inRegion ops (i::r)::k=>exact BJ (LW h) h
 |.code c::k=>
  match c with
  |.ret=>exact hl (some .ret)
  |.skip|.label _|.seq _ _|.block _ _|.loop _|.scope _=>exact h
  |.cond c a b=>
   show gm n (match Frame.eval _ c with|.bool b=>_|_=>_);split
   .exact h
   .trivial
  |.exit id=>
   show gm n ((exitTo id k).elim _ _);cases exitTo id k with
   |none=>exact hl (some (.exit id))
   |some _=>exact h
  |.goto id=>
   show gm n ((gotoIn id k).elim _ _);cases gotoIn id k with
   |none=>exact hl (some (.goto id))
   |some _=>exact h
  |.rangeFunc f ps a b=>
   refine jA ?_;rw[Sem.runT_fst];split
   .exact nP (c_ (by assumption) h)
   .trivial
  |.refuse _=>trivial
  |.region id ops d=>
   refine BJ h ?_;split
   .exact c_ (by assumption) h
   .trivial
theorem Fj{main b:Bool}{g:Goroutine}(h:n<=w.drawn):gm n (stepG p main g w b):=by
 unfold stepG
 repeat' split
 all_goals first|exact RF h|exact MW h|exact D5 h
theorem K2{rest:Rest}{cases:Array CommCase}(hw:waitingAt rest cases w=some w')(h:n<=w.drawn):n<=w'.drawn:=by
 unfold waitingAt at hw
 repeat' (split at hw)
 all_goals first|(cases hw;done)|(cases hw;exact h)
theorem Mc{rest:Rest}{gs:Array Goroutine}{i:Nat}{g:Goroutine}{cases:Array CommCase}{bl:Bool}{sh:CommShape}(h:n<=w.drawn):sm n (communicate p rest gs i g cases bl sh w).1:=by
 unfold communicate;dsimp only
 repeat' split
 all_goals first|exact h|trivial|exact K2 (by assumption) h|(have hh:=c_ (by assumption) h;first|exact hh|exact c_ (by assumption) hh|exact wT (by assumption) hh|(have hh:=c_ (by assumption) hh;exact hh))
theorem C6{rest:Rest}{gs:Array Goroutine}(h:n<=w.drawn):sm n (look p gs rest w):=by
 unfold look;dsimp only;split
 .split
  .trivial
  .split
   .trivial
   .split
    .have hh:=c_ (by assumption) h;exact hh
    .trivial
    .trivial
 .trivial
theorem Fy{m:Machine}{k:Nat}(h:n<=m.world.drawn):sm n (serve p m k):=by
 unfold serve;dsimp only
 repeat' split
 all_goals first|exact h|trivial
theorem vL{m:Machine}{k:Nat}{t:Timer}{a b:Nat}:(retime m k t a b).2.world.drawn=m.world.drawn:=by
 unfold retime;dsimp only;split
 .unfold drain;split<;>rfl
 .rfl
theorem F9{m m':Machine}{o:TimerOp}{v:Value}(ht:timerOp m o=.ok (v,m'))(h:n<=m.world.drawn):n<=m'.world.drawn:=by
 have nm:∀{m:Machine}{var:Addr}{f:Nat->Timer->Value×Machine},timerOp.named m var f=.ok (v,m')->(∀k t,(f k t).2.world.drawn=m.world.drawn)->n<=m.world.drawn->n<=m'.world.drawn:=by
  intro m var f h1 h2 h3;unfold timerOp.named at h1;split at h1
  .rename_i k _;injection h1 with h1
   rw[<-h2 k _,h1]at h3;exact h3
  .cases h1
 cases o with
 |new t=>
  unfold timerOp at ht;dsimp only at ht
  repeat' (split at ht)
  all_goals first|(cases ht;done)|(cases ht;exact h)
 |stop var=>
  unfold timerOp at ht;exact nm (m:=m) ht (λk t=>vL) h
 |reset var w p=>
  unfold timerOp at ht;dsimp only at ht;split at ht
  .rename_i m2 ho;refine nm (m:=m) ht (λk t=>vL.trans ?_) h;unfold timerOp.opened at ho
   repeat' (split at ho)
   all_goals first|(cases ho;done)|(cases ho;rfl)
  .cases ht
 |deadline c r w t=>
  cases ht;exact h
theorem GD{m:Machine}{i:Nat}{b:Bool}(h:n<=m.world.drawn):sm n (runT p m i b).1:=by
 unfold runT;dsimp only;have h1:=Fj (p:=p) (main:=i==0) (b:=b) (g:=(m.gs.swapAt! i { (default:Goroutine)with status:=.finished}).1) h;generalize stepG p (i==0) (m.gs.swapAt! i { (default:Goroutine)with status:=.finished}).1 m.world b=S at h1;cases S with
 |ended=>trivial
 |comm=>exact Mc h1
 |go|spawn|alone|watch|newcoro=>exact h1
 |count=>dsimp only;split;trivial;exact h1
 |collect=>exact C6 h1
 |coroswitch=>
  dsimp only
  repeat' split
  all_goals first|exact h1|trivial|(have e:=(by assumption:endThrow _ _ _=_);cases e;exact h1)
 |timer=>
  dsimp only;split
  .rename_i ht;have:=F9 ht h1;exact this
  all_goals first|trivial|skip
  all_goals (split<;>first|trivial|(have e:=(by assumption:endThrow _ _ _=_);cases e;exact h1))
def mm(n:Nat):Move->Prop
 |.goroutine m _=>n<=m.world.drawn
 |.machine s _=>sm n s
theorem B_{α:Type}{e:Sem α}{a:α}{gs:Array Goroutine}{rest:Rest}{t:Nat}(hr:e.run p (Machine.advanceTo ⟨w,gs,rest⟩ t).world=.ok a w')(h:n<=w.drawn):n<=w'.drawn:=c_ hr h
theorem uQ{m:Machine}(h:n<=m.world.drawn):mm n (askOn p m):=by
 unfold askOn;dsimp only
 repeat' split
 all_goals first|trivial|refine Fy ?_|skip
 all_goals (try unfold mm sm);(try dsimp only[Machine.advanceTo])
 all_goals first|exact h|exact c_ (by assumption) h|exact c_ (by assumption) (c_ (by assumption) h)|exact c_ (by assumption) (c_ (by assumption) (c_ (by assumption) h))|exact c_ (by assumption) (c_ (by assumption) (c_ (by assumption) (c_ (by assumption) h)))|exact B_ (by assumption) (c_ (by assumption) (c_ (by assumption) h))|exact c_ (by assumption) (B_ (by assumption) (c_ (by assumption) (c_ (by assumption) h)))
theorem NA{m:Machine}(h:n<=m.world.drawn):mm n (ask p m):=by
 unfold ask;split
 .split
  .trivial
  .have h1:=C6 (p:=p) (gs:=m.gs) (rest:=m.rest) (c_ (by assumption) h);split
   .rename_i e;rw[e]at h1;exact uQ h1
   .exact h1
  .exact uQ (m:={m with world:=_}) (c_ (by assumption) h)
 .exact uQ h
theorem Le{m:Machine}(h:n<=m.world.drawn):mm n (move p m):=by
 unfold move
 repeat' split
 all_goals first|exact h|trivial|exact NA h
theorem Kp{m m':Machine}(hs:step p m=.next m'):m.world.drawn<=m'.world.drawn:=by
 have h:=Le (p:=p) (n:=m.world.drawn) (aM _);unfold step stepT at hs;cases hm:move p m with
 |goroutine m2 i=>
  rw[hm]at h hs;have:=GD (p:=p) (i:=i) (b:=true) h;rw[hs]at this;exact this
 |machine s o=>
  rw[hm]at h hs;cases hs;exact h
theorem wV:∀(k:Nat){m m':Machine},runN p k m=.next m'->m.world.drawn<=m'.world.drawn
 |0,m,m',h=>by cases h;exact aM _
 |k+1,m,m',h=>by
  unfold runN at h;split at h
  .rename_i e;exact aV (Kp e) (wV k h)
  .rename_i e;exact absurd h (e m')
theorem Jl{P:Program}{f:FuncId}{args:Array Value}{R:Ending->World->Prop}(h:Calls P f args w R)(hR:∀w',¬R .outgrown w'):Calls P f args w λe w'=>R e w'/\w.drawn<=w'.drawn:=by
 intro cs;obtain⟨e,w',fr,h1,h2,h3⟩:=h cs;refine⟨e,w',fr,⟨h1,?_⟩,h2,h3⟩;cases e with
 |outgrown=>exact absurd h1 (hR w')
 |returned v=>obtain⟨k,hk⟩:=h2;exact wV k hk
 |panicked c=>obtain⟨k,hk⟩:=h2;exact wV k hk
end
end Go.Od