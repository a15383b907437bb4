/- Lemmas. Conditions: none. -/
import Derived.Test.YtmigecldjbgneaaGreatDoorQKAN
import Derived.Recover
namespace Go.Vx
def PS(G:Nat->Prop)(w:World)(ρ:List Value):Option V->FrameMode->Prop
 |none,u=>u=.returning
 |some x,u=>∃v,u=.panicking [{v:=v,recovered:=false}]/\az G w ρ v x
structure vF(P:Program)(f:Nat)(vs:List V)(h:H)(r:Option V)(K:H->Prop):Prop where
  ok:ev P f=true
  run:∀(G:Nat->Prop)(w:World)(ρ as:List Value),HR G w ρ h->as.length=vs.length->(∀(i:Nat)(x:V),vs[i]?=some x->az G w ρ (as.getD i undef) x)->∀u,PS G w ρ r u ->
    CallsD P f as.toArray u w λe u' w'=>∃(G':Nat->Prop)(ρ':List Value)(h':H),Ok ⟨w,G,ρ,h,[],[]⟩ G' w' ρ' h'/\(∃v,e=.returned v)/\settle u'=.returning/\K h'
def yQ:Code->Code
 |.seq a _=>a
 |c=>c
def vj:Code->Code
 |.seq _ b=>b
 |c=>c
def vV:Code->List Oper
 |.region _ ops _=>ops.toList
 |_=>[]
def Vs:Code->Nat
 |.region id _ _=>id
 |_=>0
def YC:Oper->Array Operand
 |o=>match o.op with
  |.makeFunc _ _ c=>c
  |_=> #[]
section
variable{P:Program}{E:gG}{n:Nat}{G G1 G2:Nat->Prop}{ρ ρ1 ρ2:List Value}{t:T}{h h1 h2:H}{a:Act}{w w1 w2:World}(ow:Nat->Bool)
theorem Ok.trans{ds:List Deferred}(h1':Ok E G1 w1 ρ1 h1)(h2':Ok ⟨w1,G1,ρ1,h1,ds,[]⟩ G2 w2 ρ2 h2):Ok E G2 w2 ρ2 h2:=by
 refine⟨h2'.hr,λb hb=>h2'.gm b (h1'.gm b hb),λb hb=>?_,λb hb=>?_,λb hb hn=>?_,aX h1'.size h2'.size,h2'.os.trans h1'.os,h2'.tape.trans h1'.tape,h2'.out.trans h1'.out,λid v hv hs=>h2'.hand id v (h1'.hand id v hv hs) hs,aX h1'.hl h2'.hl,λr hr=>?_,λi z rs hi=>let⟨k1,k2⟩:=h1'.lk i z rs hi;let⟨m1,m2⟩:=h2'.lk i z rs k1;⟨m1,m2.trans k2⟩⟩
 .rcases h2'.go b hb with h|⟨hc,h|h⟩
  .exact(h1'.go b h).imp (λh=>h) λg=>⟨g.1.same (h2'.frame b (h1'.hr.gl b h) (h1'.hr.gd b h)),g.2⟩
  .exact .inr ⟨hc,.inl (aX h1'.size h)⟩
  .exact .inr ⟨hc,h1'.oo b h⟩
 .rcases h2'.oo b hb with h|h
  .exact .inl (aX h1'.size h)
  .exact h1'.oo b h
 .have hb1:b<w1.heap.size:=bj hb h1'.size;have hn1:¬own ρ1 h1 b:=λho=>by
   rcases h1'.oo b ho with h|h
   grind
   grind
  rw[h2'.frame b hb1 hn1];exact h1'.frame b hb hn
 .obtain⟨g1,g2,g3⟩:=h1'.uB r hr;have hlt:=(aW.1 g1).1;refine⟨(h2'.frame r hlt g3).trans g1,λg4=>?_,λg4=>?_⟩
  .rcases h2'.go r g4 with h|⟨_,h|h⟩
   grind
   grind
   grind
  .rcases h2'.oo r g4 with h|h
   grind
   grind
def Ky:Option V->V
 |none=>.d .ni
 |some x=>x
theorem tV{f:Nat}{fn:Func}{id d d2:Nat}{oR oA:Oper}{c:Code}{x:C}{r:Option V}{vs:List V}{K:H->Prop}(hm:P.follows .mixedOrders=true)(hf:P.funcs[f]?=some fn)(hname:(fn.name != "runtime.NumGoroutine")=true) (hb:fn.body=some (.seq (.region id #[oR,oA] false) c))
  (hoR:oR.op=.call {callee:=.builtin .recover,args:= #[],argTypes:= #[]}/\oR.guard=none/\oR.dst=some d) (hoA:oA.op=.assign (.tmp d)/\oA.guard=none/\oA.dst=some d2) (hd:d<fn.ntmps/\d2<fn.ntmps) (hres:fn.results=#[]) (hx:comp P fn.ntmps c=some x)
  (hl:Nat.ble vs.length fn.ntmps=true) (hk:wx (Sat P) ow h.length x ((d2,Ky r) :: (d,Ky r) :: FJ 0 vs) h λe _ h1=>match e with
   |.qD|.ret=>K h1
   |_=>False) (hnr:xS c=true:=by rfl):vF P f vs h r K:=by
 have hl:=bN hl;refine⟨by simp[ev,hf,hname,hb],λG w ρ as hR hlen hv u hu=>callsD_of_wpS hf hb λc₀ cs hc₀ =>wpS_seq (wpS_region ?_)⟩;have hC:an ⟨w,G,ρ,h,[],[]⟩ fn.ntmps G ρ (FJ 0 vs) h {tmps:=as.toArray++Array.replicate (fn.ntmps-as.toArray.size) undef,defers:=[]} w:=by
  refine⟨Ok.refl hR,rfl,by grind,λi=>?_⟩;rw[Bq,ζ (aY _),re];cases hc:vs[i]? with
  |none=>exact .k (.un _)
  |some v=>
   have hil:i<vs.length:=(aC.1 hc).1;have:=hv i v hc;rw[aq,aA (by omega)]at this;rw[aH,cX (by grind)]
   grind
 generalize hA:({tmps:=as.toArray++Array.replicate (fn.ntmps-as.toArray.size) undef,defers:=[]}:Act)=a0 at *;have hrun:(execOp a0.eval oR).run P w=.ok .recover w:=by
  simp[execOp,hoR.1,resolve,invoke,builtin]
 have hE:(⟨w,G,ρ,h,[],[]⟩:gG).ρ.length=(⟨w,G,ρ,h,[],[]⟩:gG).h.length:=hR.len;have rest:∀(v:Value)(u':FrameMode)(cs':List Frame),az G w ρ v (Ky r)->settle u'=.returning->cs'={c₀ with mode:=u'}::cs ->
   wpOpsS P #[oR,oA] (Exit.thenS (c.wpS P (bodyPostS P fn c₀ cs λe u' w'=>∃(G':Nat->Prop)(ρ':List Value)(h':H),Ok ⟨w,G,ρ,h,[],[]⟩ G' w' ρ' h'/\(∃v,e=.returned v)/\settle u'=.returning/\K h')) (bodyPostS P fn c₀ cs λe u' w'=>∃(G':Nat->Prop)(ρ':List Value)(h':H),Ok ⟨w,G,ρ,h,[],[]⟩ G' w' ρ' h'/\(∃v,e=.returned v)/\settle u'=.returning/\K h')) [1] (a0.put oR.dst v) cs' w:=by
  intro v u' cs' hrv hset hcs;have hC1:an ⟨w,G,ρ,h,[],[]⟩ fn.ntmps G ρ ((d,Ky r)::FJ 0 vs) h (a0.put oR.dst v) w:=by
   have:=hC.fV oR.dst (v:=v) (x:=Ky r) (λi hi=>by grind) hrv;rw[hoR.2.2]at this⊢;exact this
  have hev:(a0.put oR.dst v).eval (.tmp d)=(a0.put oR.dst v).tmps.getD d undef:=rfl;have hr2:=hC1.tm d;rw[gD]at hr2;simp only[kQ,δ]at hr2;have hC2:=hC1.fV oA.dst (v:=(a0.put oR.dst v).eval (.tmp d)) (x:=Ky r) (λi hi=>by grind) (by grind);rw[hoA.2.2]at hC2;have hrunA:(execOp (a0.put oR.dst v).eval oA).run P w=.ok (.value ((a0.put oR.dst v).eval (.tmp d))) w:=by
   simp[execOp,hoA.1]
  simp only[wpOpsS,fO,eX,dC,Region.wanted,hoA.2.1,if_true,hrunA];refine(?_:Code.wpS P c _ _ _ _);rw[hoA.2.2];refine wpS_of_wp (wp_mono (GI ow hm hE c x hx hnr G ρ _ h _ w _ hC2 hk) λe a' w' hq=>?_);obtain⟨G',ρ',t',h',hC',hk'⟩:=hq;have hresr:(results fn a'.tmps).run P w'=.ok (.tuple #[]) w':=by
   simp[results,hres]
  cases e with
  |normal=>exact⟨hC'.df,u',hcs,_,hresr,G',ρ',h',hC'.ok,⟨_,rfl⟩,hset,hk'⟩
  |ret=>exact⟨hC'.df,u',hcs,_,hresr,G',ρ',h',hC'.ok,⟨_,rfl⟩,hset,hk'⟩
  |panic ch=>grind
  |exit id=>grind
  |goto l=>grind
  |outgrown=>grind
 have hrange:List.range (#[oR,oA]:Array Oper).size=[0,1]:=rfl;rw[hrange];unfold wpOpsS;simp only[fO,dC,Region.wanted,hoR.2.1,if_true,hrun];cases r with
 |none=>
  have hu:u=.returning:=hu;subst hu;have:recoverD (c₀::cs)=none:=by simp[recoverD,hc₀]
  rw[this];exact rest .nilIface .returning _ (.d .ni) rfl (by rw[<-hc₀])
 |some y=>
  obtain⟨v,rfl,hv⟩:=hu;have:recoverD (c₀::cs)=some (v,{c₀ with mode:=.panicking [{v:=v,recovered:=true}]}::cs):=by simp[recoverD,hc₀]
  rw[this];exact rest v (.panicking [{v:=v,recovered:=true}]) _ hv (by rfl) rfl
def WB(S:Nat->List V->H->Option V->(H->Prop)->Prop)(g:Nat)(cs:List V)(r:Option V)(t:T)(h:H)(K:T->H->Prop):Prop:=
  fl (cs ++ r.toList) fun l => fl (reach h 100 (l.flatMap l8) []) fun ids => LD h ids (l.flatMap l8) = true ∧
    S g (cs.map (qy (pos ids))) (ids.map λi=>nG (pos ids) ((get? h i).getD .no)) (r.map (qy (pos ids))) λh'=>
      fl (rowsOf h ids) λos=>E_ os t λt=>fl (back ids (home h.length ids) (pb os h) h') λh1=>K t h1
def stay:V->Bool
 |.p _ _=>true
 |_=>false
def R_(S:Nat->List V->H->(Out->H->Prop)->Prop)(SD:Nat->List V->H->Option V->(H->Prop)->Prop)(own:Nat->Bool)(keep:Bool)(x:C)(d g:Nat)(oc:List O)(y:C)(rs:List RV)(vs:List V)(h:H)(K:Out->H->Prop):Prop:=
 wx S own h.length x (FJ 0 vs) h λe t h1=>match e with
  |.qD=>fl (oc.map (gv t)) λcs=>cs.all stay=true/\wx S own h1.length y ((d,.fc g cs)::t) h1 λe t h2=>match e with
   |.qD|.ret=>WB SD g cs none t h2 λt h3=>PK rs t h3 λvs=>fin keep h.length vs t h3 K
   |.eU v=>WB SD g cs (some v) t h2 λt h3=>PK rs t h3 λvs=>fin keep h.length vs t h3 K
   |.ext _=>False
  |_=>False
theorem vo{f:Nat}{fn:Func}{id d g:Nat}{oM oD:Oper}{caps:Array Operand}{oc:List O}{A c:Code}{x y:C}{rs:List RV}{keep:Bool}{vs:List V}{K:KT}(hm:P.follows .mixedOrders=true)(hf:P.funcs[f]?=some fn)(hname:(fn.name != "runtime.NumGoroutine")=true)
  (hb:fn.body=some (.seq A (.seq (.region id #[oM,oD] false) c))) (hoM:oM.op=.makeFunc (.func g) #[] caps/\oM.guard=none/\oM.dst=some d) (hoD:oD.op=.defer {callee:=.value (.tmp d),args:= #[],argTypes:= #[]}/\oD.guard=none/\oD.dst=none)
  (hd:d<fn.ntmps) (hg:Nat.blt g 1000000=true) (hxA:comp P fn.ntmps A=some x) (hxc:comp P fn.ntmps c=some y) (hoc:args P caps.toList []=some oc) (hr:BG P fn=some rs) (hl:Nat.ble vs.length fn.ntmps=true)
  (hk:R_ (Sat P) (vF P) ow keep x d g oc y rs vs h K) (hnA:xS A=true:=by rfl) (hnc:xS c=true:=by rfl):Sat P f vs h K:=by
 have hl:=bN hl;refine .inl ⟨by simp[ev,hf,hname,hb],λG w ρ as hR hlen hv=>calls_of_wp_defers hf hb ?_⟩;have hC:an ⟨w,G,ρ,h,[],[]⟩ fn.ntmps G ρ (FJ 0 vs) h {tmps:=as.toArray++Array.replicate (fn.ntmps-as.toArray.size) undef,defers:=[]} w:=by
  refine⟨Ok.refl hR,rfl,by grind,λi=>?_⟩;rw[Bq,ζ (aY _),re];cases hc:vs[i]? with
  |none=>exact .k (.un _)
  |some v=>
   have hil:i<vs.length:=(aC.1 hc).1;have:=hv i v hc;rw[aq,aA (by omega)]at this;rw[aH,cX (by grind)]
   grind
 have hE:(⟨w,G,ρ,h,[],[]⟩:gG).ρ.length=(⟨w,G,ρ,h,[],[]⟩:gG).h.length:=hR.len;unfold R_ at hk;refine wp_seq (wp_mono (GI ow hm hE A x hxA hnA G ρ _ h _ w _ hC hk) λe a1 w1 hq=>?_);obtain⟨G1,ρ1,t1,h1,hC1,hk1⟩:=hq;cases e with
 |exit id=>grind
 |goto l=>grind
 |ret=>grind
 |panic ch=>grind
 |outgrown=>grind
 |normal=>
 simp only[bn]at hk1;obtain⟨hst,hk1⟩:=hk1;refine(?_:Code.wp P _ _ a1 w1);refine wp_seq (wp_region_list ?_);obtain⟨g1,g2⟩:=qn hC1 _ _ _ hoc;have hev:∀(i:Nat)(z:V),(oc.map (gv t1))[i]?=some z->az G1 w1 ρ1 ((caps.map a1.eval).getD i undef) z:=by
  simp_all
 have hcl:(caps.map a1.eval).size=(oc.map (gv t1)).length:=by grind
 have hgl:g<1000000:=by simp_all
 have hstk:∀z∈oc.map (gv t1),∃i o,z=.p i o:=by
  intro z hz;have:=aP.1 hst z hz;cases z<;>simp[stay]at this
  grind
 have hclo:az G1 w1 ρ1 (.func (.func g) #[] (caps.map a1.eval)) (.fc g (oc.map (gv t1))):=by
  refine .c (.fc g _ (caps.map a1.eval) _ (.inl ⟨hgl,rfl⟩) hcl (λi z hz=>?_));have h0:=hev i z hz;obtain⟨j,o,rfl⟩:=hstk z (aG hz);exact xH h0 rfl
 have hrunM:(execOp a1.eval oM).run P w1=.ok (.value (.func (.func g) #[] (caps.map a1.eval))) w1:=by
  simp[execOp,hoM.1,Instr.makeFunc]
 have hC2:=hC1.fV oM.dst (λi hi=>by grind) hclo;rw[hoM.2.2]at hC2;have hevd:(a1.put (some d) (.func (.func g) #[] (caps.map a1.eval))).eval (.tmp d)=.func (.func g) #[] (caps.map a1.eval):=by
  have hsz:=hC1.sz;simp[Act.eval,Act.put,hsz,hd]
 have hrunD:(execOp (a1.put (some d) (.func (.func g) #[] (caps.map a1.eval))).eval oD).run P w1=.ok (.defer {target:=.fn (.func g) (caps.map a1.eval),args:= #[]}) w1:=by
  simp[execOp,hoD.1,resolve,hevd,Deferred.ofValue]
 refine wpList_step λK1 hK1=>?_;rw[ζ (by simp[Region.wanted,hoM.2.1])];refine dc hrunM ?_;refine hK1 _ _ ?_;refine wpList_step λK2 hK2=>?_;rw[ζ (by simp[Region.wanted,hoD.2.1])];unfold Oper.wp;rw[hoM.2.2,hrunD,Oper.upon_defer];refine hK2 _ _ (wpList_nil ?_);rw[hoD.2.2];refine(?_:Code.wp P c _ _ w1);generalize hdf:({target:=.fn (.func g) (caps.map a1.eval),args:= #[]}:Deferred)=df at *;have hds:(a1.put (some d) (.func (.func g) #[] (caps.map a1.eval))).defers=[]:=hC2.df;generalize ha2:a1.put (some d) (.func (.func g) #[] (caps.map a1.eval))=a2 at *;have hC3:an ⟨w1,G1,ρ1,h1,[df],[]⟩ fn.ntmps G1 ρ1 ((d,.fc g (oc.map (gv t1)))::t1) h1 ({a2 with defers:=df::a2.defers}.put none undef) w1:=by
  refine⟨?_,by simp[Act.put,hds],by simpa[Act.put]using hC2.sz,λi=>hC2.tm i⟩;have hh:=hC1.ok.hr;exact⟨hh,λ_ h=>h,λ_ h=>.inl h,λ_ h=>.inr h,λ_ _ _=>rfl,aL _,rfl,rfl,rfl,λ_ _ h _=>h,aL _,(λ_ h=>nomatch h),λ_ _ _ h=>⟨h,rfl⟩⟩
 have hE3:(⟨w1,G1,ρ1,h1,[df],[]⟩:gG).ρ.length=(⟨w1,G1,ρ1,h1,[df],[]⟩:gG).h.length:=hC1.ok.hr.len;refine wp_mono (GI ow hm hE3 c y hxc hnc G1 ρ1 _ h1 _ w1 _ hC3 hk1) λe a3 w2 hq=>?_;obtain⟨G2,ρ2,t2,h2,hC4,hk2⟩:=hq;have hokT:Ok ⟨w,G,ρ,h,[df],[]⟩ G2 w2 ρ2 h2:=by
  have:=Ok.trans hC1.ok hC4.ok;exact⟨this.hr,this.gm,this.go,this.oo,this.frame,this.size,this.os,this.tape,this.out,this.hand,this.hl,(λ_ h=>nomatch h),this.lk⟩
 have hC5:an ⟨w,G,ρ,h,[df],[]⟩ fn.ntmps G2 ρ2 t2 h2 a3 w2:=⟨hokT,hC4.df,hC4.sz,hC4.tm⟩
 have hE5:(⟨w,G,ρ,h,[df],[]⟩:gG).ρ.length=(⟨w,G,ρ,h,[df],[]⟩:gG).h.length:=hR.len;have hcap:∀(i:Nat)(z:V),(oc.map (gv t1))[i]?=some z->az G2 w2 ρ2 ((caps.map a1.eval).getD i undef) z:=by
  intro i z hz;obtain⟨j,o,rfl⟩:=hstk z (aG hz);obtain⟨b,hb1,hb2⟩:=(hev i _ hz).pt;rw[hb1];exact .k (.p j o b (hC4.ok.hand j _ hb2 rfl))
 have leave:∀(r:Option V)(u:FrameMode),PS G2 w2 ρ2 r u->u≠.run->(WB (vF P) g (oc.map (gv t1)) r t2 h2 λt h3=>PK rs t h3 λvs=>fin keep h.length vs t h3 K) ->
   Leaves P fn a3.tmps (λe w'=>∃(G':Nat->Prop)(ρ':List Value)(h':H)(out:Out),Ok ⟨w,G,ρ,h,[],[]⟩ G' w' ρ' h'/\Nr G' w' ρ' e out/\K out h') a3.defers u w2:=by
  intro r u hu hrun hkd;have hdfs:a3.defers=[df]:=hC4.df;rw[hdfs];unfold WB at hkd;simp only[bn]at hkd;generalize hids:reach h2 100 ((oc.map (gv t1)++r.toList).flatMap l8) []=ids at hkd;obtain⟨hchk,hok,hS⟩:=hkd;simp only[LD,aO]at hchk;obtain⟨⟨c1,c2⟩,c3⟩:=hchk;have hnd:=nh c1;have hall:∀i∈ids,i<h2.length/\h2[i]?≠some B.no/\∀x,h2[i]?=some x->∀j∈jL x,j∈ids:=by
   intro i hi;have:=aP.1 c2 i hi;simp only[aO]at this;obtain⟨⟨g1,g2⟩,g3⟩:=this;have hlt:i<h2.length:=bN g1;have hx:=aA hlt;rw[get?_eq,hx]at g2 g3;simp only[cR]at g2 g3;refine⟨hlt,?_,?_⟩
   .rw[hx];intro e;rw[af e]at g2;cases g2
   .intro x hx' j hj;rw[hx]at hx';cases hx';exact cI.1 (aP.1 g3 j hj)
  have hvid:∀z∈oc.map (gv t1)++r.toList,∀j∈l8 z,j∈ids:=λz hz j hj=>by
   exact cI.1 (aP.1 c3 j (aj.2 ⟨z,hz,hj⟩))
  obtain⟨hP,_⟩:=hC5.ok.hr.part hnd (λi hi=>(hall i hi).1) (λi hi=>(hall i hi).2.2);have hρl:=hC5.ok.hr.len;have hren:∀(v:Value)(z:V),z∈oc.map (gv t1)++r.toList->az G2 w2 ρ2 v z->az G2 w2 (ids.map λi=>(ρ2[i]?).getD undef) v (qy (pos ids) z):=by
   intro v z hz hv;refine hv.rn (λj hj=>?_);have hjm:=hvid z hz j hj;have hjl:=(hall j hjm).1;rw[aB,h_ hjm,bJ,aA (by omega)];rfl
  refine⟨hrun,.func g,caps.map a1.eval,g,caps.map a1.eval,by grind,?_,?_⟩
  .rw[<-hdf];have:=fz (P:=P) (w:=w2) (as:=caps.map a1.eval) hok;simp[invoke,this]
  have hcd:=hS G2 w2 _ (caps.map a1.eval).toList hP (by grind) (λk z hz=>by
   rw[aB]at hz;cases hz0:(oc.map (gv t1))[k]? with
   |none=>grind
   |some z0=>
    rw[hz0]at hz;cases hz;have:=hren _ z0 (List.mem_append_left _ (aG hz0)) (hcap k z0 hz0);rw[aq,cJ];rw[aH]at this
    grind) u (by
   cases r with
   |none=>exact hu
   |some z=>
    obtain⟨v,hu,hv⟩:=hu;exact⟨v,hu,hren v z (by simp) hv⟩)
  rw[dF]at hcd;intro cc cs hcc;obtain⟨e,u',w',fr,⟨G',ρ',h',hO,⟨v,rfl⟩,hset,hk⟩,hgo⟩:=hcd cc cs hcc;refine⟨.returned v,u',w',fr,?_,hgo⟩;simp only[hset];simp only[xf]at hk;obtain⟨hC6,_⟩:=hC5.back hnd (λi hi=>(hall i hi).1) (λi hi=>(hall i hi).2.1) (λi hi=>(hall i hi).2.2) hO;obtain⟨us,vs',k1,k2,k3,k4⟩:=HD hC6 _ _ (Cn ▸ hr) _ hk;obtain⟨G'',ρ'',h'',us',m1,m2,m3,m4,m5⟩:=u9 hC6 hE5 k3 k4;have harr:(fn.results.mapM (Ql a3)).run P w'=.ok us.toArray w':=by
   rw[<-dF (xs:=fn.results),List.mapM_toArray];rw[map_eq_pure_bind,Sem.run_bind,k1,Result.andThen_ok];rfl
  have hm1:Ok ⟨w,G,ρ,h,[],[]⟩ G'' w' ρ'' h'':=⟨m1.hr,m1.gm,m1.go,m1.oo,m1.frame,m1.size,m1.os,m1.tape,m1.out,m1.hand,m1.hl,(λ_ h=>nomatch h),m1.lk⟩
  refine⟨if h:us.toArray.size=1 then us.toArray[0]else .tuple us.toArray,?_,G'',ρ'',h'',_,hm1,?_,m5⟩
  .rw[tZ,Sem.run_bind,harr,Result.andThen_ok];rfl
  .by_cases h1:us.length=1
   .obtain⟨u,rfl⟩:=eD.1 h1;obtain⟨v,rfl⟩:=eD.1 (show us'.length=1 by omega);exact⟨u,rfl,by simpa using m4 0 v rfl⟩
   .rw[dif_neg (by grind)];have:outs us'=.ret (.tu us'):=by
     match us',(show us'.length≠1 by omega) with
     |[],_=>rfl
     |[_],h=>grind
     |_::_::_,_=>rfl
    rw[this];refine⟨_,rfl,.tu _ _ (by grind) (λi x hi=>?_)⟩;have h2:=m4 i x hi;have h3:yS x=true:=(aP.1 m3) x (aG hi);have h4:(us.toArray).getD i undef=us.getD i undef:=by
     simp
    rw[h4];simp only at h2;generalize us.getD i undef=u at h2;cases h2 with
    |o h=>exact h
    |tu=>contradiction
 cases e with
 |normal=>exact leave none .returning rfl (by simp) hk2
 |ret=>exact leave none .returning rfl (by simp) hk2
 |panic ch=>
  obtain⟨v,v',rfl,hv',hk2⟩:=hk2;exact leave (some v) _ ⟨v',rfl,hv'⟩ (by simp) hk2
 |exit id=>grind
 |goto l=>grind
 |outgrown=>grind
end
end Go.Vx