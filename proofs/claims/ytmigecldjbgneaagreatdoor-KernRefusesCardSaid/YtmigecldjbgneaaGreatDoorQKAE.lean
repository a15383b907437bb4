/- Lemmas. Conditions: none. -/
import Derived.Test.YtmigecldjbgneaaGreatDoorQKAD
import Derived.Laws.StructEq
import Derived.Laws.Concat
namespace Go.Vx
section
variable{G:Nat->Prop}{w:World}{ρ:List Value}
theorem az.c{v:Value}{x:V}(h:dO G w ρ v x):az G w ρ v x:=.o (.c h)
theorem az.k{v:Value}{x:V}(h:dN G w ρ v x):az G w ρ v x:=.o (.c (.k h))
theorem az.d{v:Value}{x:D}(h:bp G w v x):az G w ρ v (.d x):=.o (.c (.k (.d h)))
theorem az.rj{v:Value}{x:D}(h:az G w ρ v (.d x)):bp G w v x:=by
 cases h with|o h=>cases h with|c h=>cases h with|k h=>cases h with|d h=>exact h
theorem az.int{v:Value}{k:IntKind}{n:Int}(h:az G w ρ v (.d (.int k n))):v=.int k n:=by cases h.rj;rfl
theorem az.bool{v:Value}{b:Bool}(h:az G w ρ v (.d (.bool b))):v=.bool b:=by cases h.rj;rfl
theorem az.str{v:Value}{b:List UInt8}(h:az G w ρ v (.d (.str b))):∃s:ByteArray,v=.string s/\s.data.toList=b/\s.size<=maxLen:=by
 cases h.rj;grind
theorem az.pt{v:Value}{id off:Nat}(h:az G w ρ v (.p id off)):∃b,v=.pointer (some ⟨b,off,none⟩)/\ρ[id]?=some (.pointer (some ⟨b,0,none⟩)):=by
 cases h with|o h=>cases h with|c h=>cases h with|k h=>cases h with|p _ _ b h=>grind
theorem az.el{v:Value}{row:List D}{off:Nat}(h:az G w ρ v (.e row off)):∃(b o:Nat)(U:Nat->Value),v=.pointer (some ⟨b,o+off,none⟩)/\G b /\
  (∀(j:Nat)(x:D),row[j]?=some x->w.cell? ⟨b,o+j,none⟩=some (U j))/\(∀(j:Nat)(x:D),row[j]?=some x->bp G w (U j) x):=by
 cases h with|o h=>cases h with|c h=>cases h with|k h=>cases h with|e b o _ _ U h1 h2 h3=>exact⟨b,o,U,rfl,h1,h2,h3⟩
theorem az.PT{v:Value}{id:Nat}(h:az G w ρ v (.os id)):∃a n c,v=.slice a n c/\ρ[id]?=some (.slice a n c):=by
 cases h with|o h=>cases h with|c h=>cases h with|k h=>cases h with|os _ a n c h=>grind
theorem az.ql{v:Value}{id z i off:Nat}(h:az G w ρ v (.q id z i off)):∃b n c,v=.pointer (some ⟨b,i*z+off,none⟩)/\ρ[id]?=some (.slice (some ⟨b,0,none⟩) n c):=by
 cases h with|o h=>cases h with|c h=>cases h with|k h=>cases h with|q _ _ _ _ b n c h=>grind
theorem az.N6{v:Value}{z:Nat}{rows:List (List D)}(h:az G w ρ v (.cl z rows)):∃a n,v=.slice a n n/\bp G w (.slice a n n) (.sl z rows):=by
 cases h with|o h=>cases h with|c h=>cases h with|k h=>cases h with|cl a n _ _ h=>grind
theorem az.Pk{v:Value}{f:Nat}{caps:List V}(h:az G w ρ v (.fc f caps)):∃cs:Array Value,FX f v cs/\cs.size=caps.length/\∀(i:Nat)(x:V),caps[i]?=some x->dN G w ρ (cs.getD i undef) x:=by
 cases h with
 |o h=>cases h with
  |c h=>cases h with
   |k h=>cases h
   |fc _ _ cs _ h0 h1 h2=>grind
theorem az.Pu{v:Value}{vs:List V}(h:az G w ρ v (.ag vs)):∃cs:Array Value,v=.agg cs/\cs.size=vs.length/\∀(i:Nat)(x:V),vs[i]?=some x->dO G w ρ (cs.getD i undef) x:=by
 cases h with
 |o h=>cases h with
  |c h=>contradiction
  |ag cs _ h1 h2=>grind
theorem az.Vk{v:Value}{vs:List V}(h:az G w ρ v (.tu vs)):∃cs:Array Value,v=.tuple cs/\cs.size=vs.length/\∀(i:Nat)(x:V),vs[i]?=some x->dP G w ρ (cs.getD i undef) x:=by
 cases h with
 |o h=>contradiction
 |tu cs _ h1 h2=>grind
theorem Dg{v:Value}{x:V}(h:az G w ρ v x):az G w ρ v (dv x):=by
 by_cases hx:∃z,x=.nl z
 .obtain⟨z,rfl⟩:=hx;cases h with|o h=>cases h with|c h=>cases h with|k h=>cases h with|nl=>exact .d (.yv z)
 .have:dv x=x:=by cases x<;>first|rfl|exact absurd ⟨_,rfl⟩ hx
  grind
theorem bp.Q0{v:Value}{z:Nat}{rows:List (List D)}(h:bp G w v (.sl z rows)):((∃a,v=.slice a 0 0)/\rows=[])\/∃(b o cap:Nat)(U:Nat->Nat->Value),v=.slice (some ⟨b,o,none⟩) rows.length cap/\rows.length<=cap/\cap<=maxLen/\G b /\
  (∀(i:Nat)(row:List D),rows[i]?=some row->row.length=z) /\
  (∀(i:Nat)(row:List D)(j:Nat)(x:D),rows[i]?=some row->row[j]?=some x->w.cell? ⟨b,o+(i*z+j),none⟩=some (U i j)) /\
  (∀(i:Nat)(row:List D)(j:Nat)(x:D),rows[i]?=some row->row[j]?=some x->bp G w (U i j) x):=by
 cases h with
 |yv=>grind
 |sle a=>grind
 |sl b o cap z rows U h1 h2 h3 h4 h5 h6=>exact .inr ⟨b,o,cap,U,rfl,h1,h2,h3,h4,h5,h6⟩
theorem bp.len{v:Value}{z:Nat}{rows:List (List D)}(h:bp G w v (.sl z rows)):∃a c,v=.slice a rows.length c/\rows.length<=9223372036854775807:=by
 rcases h.Q0 with⟨⟨a,rfl⟩,rfl⟩|⟨b,o,cap,U,rfl,h1,h2,_⟩
 grind
 .exact⟨_,_,rfl,by simp[maxLen]at h2;omega⟩
theorem CI{P:Program}{ty:TypeId}{v:Value}{x:V}(h:VW P ty v=some x):dN G w ρ v x/\fP x=true/\(∀cs,v≠.agg cs)/\lN x=[]:=by
 unfold VW at h;split at h<;>first|(cases h;done)|skip
 .cases h;exact⟨.d (.int _ _),rfl,by simp,rfl⟩
 .cases h;exact⟨.d (.bool _),rfl,by simp,rfl⟩
 .split at h<;>cases h;exact⟨.d (.str _ (by simp only[maxLen];omega)),rfl,by simp,rfl⟩
 .cases h;exact⟨.nl _,rfl,by simp,rfl⟩
 .cases h;exact⟨.d .np,rfl,by simp,rfl⟩
 .cases h;exact⟨.d .nf,rfl,by simp,rfl⟩
 .cases h;exact⟨.d .ni,rfl,by simp,rfl⟩
 .cases h;exact⟨.d .nm,rfl,by simp,rfl⟩
end
section
variable{P:Program}{E:gG}{n:Nat}{G:Nat->Prop}{ρ:List Value}{t:T}{h:H}{a:Act}{w:World}{o:Oper}{bS:Act->World->Prop}{Q:Exit->Act->World->Prop}{K KP:V->T->H->Prop}
theorem bG(hC:an E n G ρ t h a w){ty:TypeId}{x:Operand}{ox:O}(hx:cO P ty x=some ox):az G w ρ (a.eval x) (gv t ox):=by
 cases x with
 |tmp i=>cases hx;exact hC.tm i
 |const v=>
  simp only[cO,aJ]at hx;obtain⟨y,hy,rfl⟩:=hx;have hk:=(CI (G:=G) (w:=w) (ρ := ρ) hy).1
  by_cases hnl:∃z,y=.nl z
  .obtain⟨z,rfl⟩:=hnl;cases hk;exact .k (.d (.yv z))
  .have:gv t (.k y)=y:=by cases y<;>first|rfl|exact absurd ⟨_,rfl⟩ hnl
   rw[this];exact .k hk
 |func f=>cases hx;exact .k (.d (.fn f))
 |global g=>
  cases hx;show az G w ρ (.pointer (some ⟨g,0,none⟩)) (match Am Uz g with|some row=>.e row 0|none=>.un);cases hg:Am Uz g with
  |none=>exact .k (.un _)
  |some row=>
   obtain⟨h1,U,h2,h3⟩:=hC.ok.hr.vR g row hg;exact .k (.e g 0 0 row U h1 h2 h3)
theorem Hy(hC:an E n G ρ t h a w){ty:TypeId}{x:Operand}{ox:O}(hx:cO P ty x=some ox):az G w ρ (a.eval x) (Sm t ox):=by
 have h0:=bG hC hx
 by_cases hn:∃z,ox=.k (.nl z)
 .obtain⟨z,rfl⟩:=hn;cases x with
  |tmp i=>cases hx
  |const v=>
   simp only[cO,aJ]at hx;obtain⟨y,hy,he⟩:=hx;cases he;exact .k (CI (G:=G) (w:=w) (ρ := ρ) hy).1
  |func f=>cases hx
  |global g=>cases hx
 .have:Sm t ox=gv t ox:=by
   cases ox with
   |s i=>rfl
   |g i=>rfl
   |k v=>cases v<;>first|rfl|exact absurd ⟨_,rfl⟩ hn
  grind
def gq(E:gG)(n:Nat)(a:Act)(o:Oper)(K:V->T->H->Prop)(bS:Act->World->Prop):Prop:=
 ∀(v':Value)(w':World)(G':Nat->Prop)(ρ':List Value)(t':T)(h':H)(v:V),an E n G' ρ' t' h' a w'->az G' w' ρ' v' v->K v t' h'->bS (a.put o.dst v') w'
theorem dc{v':Value}{w':World}(hr:(execOp a.eval o).run P w=.ok (.value v') w')(h:bS (a.put o.dst v') w'):o.wp P a w bS Q:=by
 unfold Oper.wp;rw[hr];exact h
theorem ji{w':World}(hr:(execOp a.eval o).run P w=.ok .skip w')(h:bS (a.put o.dst undef) w'):o.wp P a w bS Q:=by
 unfold Oper.wp;rw[hr];exact h
theorem au(hC:an E n G ρ t h a w)(hn:gq E n a o K bS){v':Value}{v:V}(hr:(execOp a.eval o).run P w=.ok (.value v') w)(hv:az G w ρ v' v)(hk:K v t h):o.wp P a w bS Q:=
 dc hr (hn v' w G ρ t h v hC hv hk)
theorem cL{s:Sem Value}{v':Value}{w':World}(hs:s.run P w=.ok v' w'):((do pure (Next.value (<-s))):Sem Next).run P w=.ok (.value v') w':=by
 simp[hs]
theorem PX(hC:an E n G ρ t h a w)(hn:gq E n a o K bS){x:Operand}{ox:O}{ty:TypeId}(ho:o.op=.move x\/o.op=.assign x)(hx:cO P ty x=some ox)(hk:K (gv t ox) t h):o.wp P a w bS Q:=by
 refine au hC hn (v':=a.eval x) ?_ (bG hC hx) hk;rcases ho with ho|ho<;>simp[execOp,ho]
theorem Hi(hC:an E n G ρ t h a w)(hn:gq E n a o K bS){z:Nat}(ho:o.op=.move (.const (.slice none 0 0))\/o.op=.assign (.const (.slice none 0 0)))(hk:K (.os h.length) t (h++[.rows z []])):o.wp P a w bS Q:=by
 have hC':=hC.push (ga.refl w) (.slice none 0 0) (.rows z []) (by simp[gB]) (.inl ⟨rfl,rfl⟩);refine au hC' hn (v':=.slice none 0 0) ?_ (.k (.os h.length none 0 0 ?_)) hk
 .rcases ho with ho|ho<;>simp[execOp,ho,Act.eval]
 .rw[<-hC.ok.hr.len];simp
theorem Tq(hC:an E n G ρ t h a w)(hn:gq E n a o K bS){c x y:Operand}{oc ox oy:O}{t1 t2 t3:TypeId}(ho:o.op=.pick c x y)(hc:cO P t1 c=some oc)(hx:cO P t2 x=some ox)(hy:cO P t3 y=some oy)
  {b:Bool} (hb:gv t oc=.d (.bool b)) (hk:sp b (K (gv t ox) t h) (K (gv t oy) t h)):o.wp P a w bS Q:=by
 have hv:=(hb ▸ bG hC hc).bool;cases b
 .exact au hC hn (v':=a.eval y) (by simp[execOp,ho,hv,asBool]) (bG hC hy) hk
 .exact au hC hn (v':=a.eval x) (by simp[execOp,ho,hv,asBool]) (bG hC hx) hk
theorem jV{v:Value}{x:V}(hv:az G w ρ v x)(hs:x.cs.all fP=true):v.cells.size=x.cs.length/\(∀(i:Nat)(y:V),x.cs[i]?=some y->dO G w ρ (v.cells.getD i undef) y):=by
 by_cases hag:∃vs,x=.ag vs
 .obtain⟨vs,rfl⟩:=hag;obtain⟨cs,rfl,h1,h2⟩:=hv.Pu;exact⟨h1,h2⟩
 .have hcs:x.cs=[x]:=by cases x<;>first|rfl|exact absurd ⟨_,rfl⟩ hag
  rw[hcs]at hs⊢;simp only[qB,List.all_nil,eA]at hs;have hc:dO G w ρ v x:=by
   cases hv with
   |o h=>cases h with
    |c h=>exact h
    |ag cs vs=>grind
   |tu=>contradiction
  have hvc:v.cells=#[v]:=by
   cases hc with
   |k hk=>cases hk<;>first|rfl|(simp[fP]at hs;done)|exact bp.cells ‹_›|(rename_i hd;cases hd;rfl)
   |fc _ _ _ _ h0=>exact wO h0
  rw[hvc];refine⟨rfl,λi y hi=>?_⟩;cases i with
  |zero=>simp_all
  |succ i=>grind
theorem Db{F:Nat}{v:Value}{cs:Array Value}(h:FX F v cs):v.oneCell'=true:=by
 rcases h with⟨_,rfl⟩|⟨_,⟨f,_,_,rfl⟩|⟨f,_,_,rfl⟩|⟨f,x,_,_,rfl,_⟩|⟨f,_,_,rfl⟩⟩<;>rfl
theorem bp.one{G:Nat->Prop}{w:World}{v:Value}{x:D}(h:bp G w v x):v.oneCell'=true:=by
 cases h<;>first|rfl|exact Db ‹_›
theorem BO{v:Value}{x:V}(hv:dO G w ρ v x)(hs:fP x=true):v.oneCell'=true:=by
 cases hv with
 |k hk=>cases hk<;>first|rfl|(simp[fP]at hs;done)|exact bp.one ‹_›|(rename_i hd;cases hd;rfl)
 |fc _ _ _ _ h0=>exact Db h0
theorem dO.alloc{v:Value}{x:V}{b:Obj}{hd:Value}(hC:HR G w ρ h)(hv:dO G w ρ v x):dO G (w.alloc b) (ρ++[hd]) v x:=
 hv.mono (λ_ h=>h) (λc hc=>(ga.alloc w b).iZ c (hC.gl c hc)) (λi hi=>aR (hv.lt i hi))
theorem Hj(hC:an E n G ρ t h a w)(hn:gq E n a o K bS){ty:TypeId}{arr:Array Value}{cs:List V}(hr:(execOp a.eval o).run P w=.ok (.value (.pointer (some ⟨w.heap.size,0,none⟩))) (w.alloc (.cells arr ty)))
  (hs:arr.size=cs.length) (hcs:∀(i:Nat)(y:V),cs[i]?=some y->dO G w ρ (arr.getD i undef) y) (hk:K (.p h.length 0) t (h++[.cells cs])):o.wp P a w bS Q:=by
 have hb:cQ G (w.alloc (.cells arr ty)) (ρ++[.pointer (some ⟨w.heap.size,0,none⟩)]) (.pointer (some ⟨w.heap.size,0,none⟩)) (.cells cs):=
  ⟨w.heap.size,arr,ty,rfl,heap_alloc_new w _,hs,λi y hi=>(hcs i y hi).alloc hC.ok.hr⟩
 have hC':=hC.push (ga.alloc w (.cells arr ty)) _ _ (by intro b hb;simp only[gB,aD]at hb;omega) hb;refine dc hr (hn _ _ _ _ _ _ _ hC' (.k (.p h.length 0 w.heap.size ?_)) hk);rw[<-hC.ok.hr.len];simp
theorem UR(hC:an E n G ρ t h a w)(hn:gq E n a o K bS){x:Operand}{ox:O}{ty t1:TypeId}(ho:o.op=.box ty x)(hx:cO P t1 x=some ox)
  (hk:(gv t ox).cs.all fP=true/\K (.p h.length 0) t (h++[.cells (gv t ox).cs])):o.wp P a w bS Q:=by
 obtain⟨h1,h2⟩:=jV (bG hC hx) hk.1;refine Hj hC hn (ty:=ty) (arr:=(a.eval x).cells) ?_ h1 h2 hk.2;simp[execOp,ho,Instr.box,newVar,newRow]
theorem kv{ty:TypeId}{zs:List V}(hz:vP P ty=some zs):∃i z,P.info? ty=some i/\i.zero=some z/\z.cells.size=zs.length/\zs.all fP=true/\∀(j:Nat)(x:V),zs[j]?=some x->dN G w ρ (z.cells.getD j undef) x/\lN x=[]:=by
 simp only[vP,aK,aE]at hz;obtain⟨i,hi,z,hz0,hm⟩:=hz;split at hm
 .rename_i hts;refine⟨i,z,hi,hz0,?_⟩;have key:∀(l:List Value)(ts:List TypeId)(zs:List V),ts.length=l.length->(l.zip ts).mapM (λp=>VW P p.2 p.1)=some zs->l.length=zs.length/\zs.all fP=true/\∀(j:Nat)(x:V),zs[j]?=some x->dN G w ρ (l.getD j undef) x/\lN x=[]:=by
   intro l
   induction l with
   |nil=>simp_all
   |cons v l ih=>
    intro ts zs hl h;cases ts with
    |nil=>grind
    |cons ty ts=>
     simp only[List.zip_cons_cons,iR,aK,aE,jZ,aD]at h;obtain⟨x,hx,xs,hxs,rfl⟩:=h;obtain⟨i1,i2,i3⟩:=ih ts xs (by grind) hxs;have hc:=CI (G:=G) (w:=w) (ρ := ρ) hx
     grind
  obtain⟨h1,h2,h3⟩:=key _ _ _ (by grind) hm;refine⟨by grind,h2,λj x hx=>?_⟩;have:=h3 j x hx;simp_all
 grind
theorem UW(hC:an E n G ρ t h a w)(hn:gq E n a o K bS){ty:TypeId}{zs:List V}(ho:o.op=.alloc ty)(hz:vP P ty=some zs)(hk:K (.p h.length 0) t (h++[.cells zs])):o.wp P a w bS Q:=by
 obtain⟨i,z,hi,hz0,h1,_,h3⟩:=kv (G:=G) (w:=w) (ρ := ρ) hz;refine Hj hC hn (ty:=ty) (arr:=z.cells) ?_ h1 (λj x hx=>.k (h3 j x hx).1) hk;simp[execOp,ho,Instr.alloc,zeroValue,typeInfo,hi,hz0,newVar,newRow]
end
section
variable{P:Program}{E:gG}{n:Nat}{G:Nat->Prop}{ρ:List Value}{t:T}{h:H}{a:Act}{w:World}{o:Oper}{bS:Act->World->Prop}{Q:Exit->Act->World->Prop}{K KP:V->T->H->Prop}
theorem iw{ty:TypeId}{b:Bool}(hb:ke P ty=some b):(isAgg ty).run P w=.ok b w:=by
 simp only[ke,aJ]at hb;obtain⟨d,hd,rfl⟩:=hb;simp only[isAgg,Sem.run_bind,run_underlying hd,Result.andThen_ok];cases d<;>rfl
theorem uL{ty:TypeId}(hl:vW P ty=some none)(ad:Addr):(loadVar ty ad).run P w=(load ad).run P w:=by
 simp only[vW,aK,aE]at hl;obtain⟨i,hi,b,hb,hx⟩:=hl;cases b
 .simp[loadVar,iw hb]
 grind
theorem uK{ty:TypeId}{k:Nat}(hl:vW P ty=some (some k))(ad:Addr)(cs:List Value)(hk:cs.length=k)(hc:∀(j:Nat)(v:Value),cs[j]?=some v->w.cell? (ad.add j)=some v) :
  (loadVar ty ad).run P w=.ok (.agg cs.toArray) w:=by
 simp only[vW,aK,aE]at hl;obtain⟨i,hi,b,hb,hx⟩:=hl;cases b
 grind
 .simp at hx;subst hx;have:=run_loadCells_list (P:=P) w ad cs hc;rw[hk]at this;simp[loadVar,iw hb,sizeOf,typeInfo,hi,this]
theorem dk(b off j:Nat):(⟨b,off,none⟩:Addr).add j=⟨b,off+j,none⟩:=by
 unfold Addr.add;grind
theorem cz{b off:Nat}{arr:Array Value}{ty:TypeId}(hw:w.heap[b]?=some (.cells arr ty (0,0))):w.cell? ⟨b,off,none⟩=arr[off]?:=by
 simp[World.cell?,hw]
theorem xc(hC:an E n G ρ t h a w)(hn:gq E n a o K bS){ty:TypeId}{x:Operand}{b off k:Nat}{U:Nat->Value}{vs:List V}(ho:o.op=.load ty x)(hp:a.eval x=.pointer (some ⟨b,off,none⟩))(hl:vW P ty=some (some k))
  (hlen:vs.length=k) (hU:∀(j:Nat)(y:V),vs[j]?=some y->w.cell? ⟨b,off+j,none⟩=some (U j)/\dO G w ρ (U j) y) (hk:K (.ag vs) t h):o.wp P a w bS Q:=by
 have hrun:(loadVar ty ⟨b,off,none⟩).run P w=.ok (.agg ((List.range vs.length).map U).toArray) w:=by
  refine uK hl _ _ (by grind) (λj v hv=>?_);rw[dk];simp only[aB,aJ]at hv;obtain⟨j',hj',rfl⟩:=hv;have hjl:j<vs.length:=by
   grind
  simp_all
 refine au hC hn (v':=.agg ((List.range vs.length).map U).toArray) ?_ (.o (.ag _ vs (by simp) (λi y hi=>?_))) hk
 .simp[execOp,ho,hp,Instr.loadAt,Instr.sureAddr,hrun]
 .have hil:i<vs.length:=(aC.1 hi).1;simp_all
theorem x9(hC:an E n G ρ t h a w)(hn:gq E n a o K bS){ty:TypeId}{x:Operand}{ad:Addr}{v':Value}{v:V}(ho:o.op=.load ty x)(hp:a.eval x=.pointer (some ad))(hl:vW P ty=some none)
  (hc:w.cell? ad=some v') (hv:dO G w ρ v' v) (hk:K v t h):o.wp P a w bS Q:=by
 refine au hC hn (v':=v') ?_ (.c hv) hk;simp[execOp,ho,hp,Instr.loadAt,Instr.sureAddr,uL hl,hc]
theorem kA{i j:Nat}(h:Nat.beq i j=true):i=j:=fN h
theorem iy{hd:Value}{z:Nat}{rs:List (List D)}(hr:cQ G w ρ hd (.rows z rs)){i:Nat}{row:List D}(hi:rs[i]?=some row) :
  ∃b cap arr ty,hd=.slice (some ⟨b,0,none⟩) rs.length cap/\w.heap[b]?=some (.cells arr ty (0,0))/\row.length=z/\i*z+z<=arr.size /\
   ∀(j:Nat)(x:D),row[j]?=some x->w.cell? ⟨b,i*z+j,none⟩=some (arr.getD (i*z+j) undef)/\bp G w (arr.getD (i*z+j) undef) x:=by
 rcases hr with⟨_,rfl⟩|⟨b,cap,arr,ty,rfl,h1,h2,h3,h4,h5⟩
 grind
 .obtain⟨hz,hx⟩:=h5 i row hi;have hil:i<rs.length:=(aC.1 hi).1;have hle:i*z+z<=arr.size:=by
   rw[h4];have:(i+1)*z<=cap*z:=bD _ (by omega)
   grind
  refine⟨b,cap,arr,ty,rfl,h1,hz,hle,λj x hj=>⟨?_,hx j x hj⟩⟩;have hjl:j<row.length:=(aC.1 hj).1;rw[cz h1,aH,aS (by omega)];rfl
section
variable(S:Nat->List V->H->(Out->H->Prop)->Prop)(ow:Nat->Bool)
theorem UE(hC:an E n G ρ t h a w)(hn:gq E n a o K bS){ty t1:TypeId}{x:Operand}{ox:O}{m:Option Nat}(ho:o.op=.load ty x)(hx:cO P t1 x=some ox)(hl:vW P ty=some m)
  (hk:dV S ow (.ld ox m) t h K KP):o.wp P a w bS Q:=by
 have hv:=bG hC hx;simp only[dV,qv,qv]at hk;split at hk
 .skip
  rename_i id off hg;rw[hg]at hv;obtain⟨b,hp,hρ⟩:=hv.pt;rw[get?_eq]at hk;split at hk
  .rename_i cs hcs;obtain⟨b',arr,ty',hb,h1,h2,h3⟩:=hC.ok.hr.rep id _ _ hρ hcs;simp only[Value.pointer.injEq,aD,Addr.mk.injEq,ω]at hb;obtain⟨rfl,_⟩:=hb;cases m with
   |none=>
    simp only[get?_eq]at hk;split at hk
    .rename_i v hvv;have hol:off<arr.size:=by grind
     refine x9 hC hn ho hp hl (v':=arr[off]) (by rw[cz h1];grind) ?_ hk;have:=h3 off v hvv;simpa[aH,hol]using this
    grind
   |some k=>
    simp only[bn]at hk;have hlen:=kA hk.1;refine xc hC hn ho hp hl (U:=λj=>arr.getD (off+j) undef) hlen (λj y hy=>?_) hk.2;have hj:j<k:=by grind
    rw[bO,ζ hj,bY]at hy;have hol:off+j<arr.size:=by grind
    refine⟨?_,h3 (off+j) y hy⟩;rw[cz h1,aH,aS hol];rfl
  grind
 .skip
  rename_i row off hg;rw[hg]at hv;obtain⟨b,oo,U,hp,hGb,hU,hD⟩:=hv.el;cases m with
  |none=>
   simp only[get?_eq]at hk;split at hk
   .rename_i v hvv;exact x9 hC hn ho hp hl (hU off v hvv) (.k (.d (hD off v hvv))) hk
   grind
  |some k=>
   simp only[bn]at hk;have hlen:=kA hk.1;refine xc hC hn ho hp hl (U:=λj=>U (off+j)) hlen (λj y hy=>?_) hk.2;have hj:j<k:=by grind
   rw[aB,bO,ζ hj,bY]at hy;cases hr:row[off+j]? with
   |none=>grind
   |some y0=>
    rw[hr]at hy;cases hy;exact⟨by grind,.k (.d (hD _ _ hr))⟩
 .skip
  rename_i id z i off hg;rw[hg]at hv;obtain⟨b,nn,c,hp,hρ⟩:=hv.ql;have one:∀(z':Nat)(rs:List (List D)),cQ G w ρ (.slice (some ⟨b,0,none⟩) nn c) (.rows z' rs)->(Nat.beq z z'=true/\∃row,rs[i]?=some row/\(match m with
    |none=>(match get? row off with|some v=>K (.d v) t h|none=>False)
    |some n=>fl (((row.drop off).take n).map .d) λcs=>Nat.beq cs.length n=true/\K (.ag cs) t h))->o.wp P a w bS Q:=by
   rintro z' rs hrep ⟨hz,row,hrow,hk⟩
   obtain rfl:=kA hz;obtain⟨b',cap,arr,ty',hb,h1,h2,hle,h3⟩:=iy hrep hrow;simp only[Value.slice.injEq,aD,Addr.mk.injEq,ω]at hb;obtain⟨rfl,_,_⟩:=hb;cases m with
   |none=>
    simp only[get?_eq]at hk;split at hk
    .rename_i v hvv;exact x9 hC hn ho hp hl (h3 off v hvv).1 (.k (.d (h3 off v hvv).2)) hk
    grind
   |some k=>
    simp only[bn]at hk;have hlen:=kA hk.1;refine xc hC hn ho hp hl (U:=λj=>arr.getD (i*z+(off+j)) undef) hlen (λj y hy=>?_) hk.2;have hj:j<k:=by grind
    rw[aB,bO,ζ hj,bY]at hy;cases hr:row[off+j]? with
    |none=>grind
    |some y0=>
     rw[hr]at hy;cases hy;exact⟨by grind,.k (.d (h3 _ _ hr).2)⟩
  rw[get?_eq]at hk;split at hk
  .rename_i z' rs hrs;exact one z' rs (hC.ok.hr.rep id _ _ hρ hrs) (by cases m<;>exact hk)
  .rename_i z' rs hrs;have hq:=hC.ok.hr.rep id _ _ hρ hrs;exact one z' rs hq (by cases m<;>exact hk)
  .rename_i z' rs i' row hrs;obtain⟨⟨hz,rfl⟩,hk⟩:=hk;obtain rfl:=kA hz;obtain⟨b',cap,arr,ty',hb,h1,h2,h3,h4,⟨h0,hrz⟩,h5,h6⟩:=hC.ok.hr.rep id _ _ hρ hrs;simp only[Value.slice.injEq,aD,Addr.mk.injEq,ω]at hb;obtain⟨rfl,_,_⟩:=hb;cases m with
   |none=>
    simp only[get?_eq]at hk;split at hk
    .rename_i v hvv;have hol:off<row.length:=(aC.1 hvv).1;have hle:i*z+z<=arr.size:=by
      rw[h4];have:(i+1)*z<=cap*z:=bD _ (by omega)
      grind
     refine x9 hC hn ho hp hl (v':=arr.getD (i*z+off) undef) ?_ (h6 off v hvv) hk;rw[cz h1,aH,aS (by omega)];rfl
    grind
   |some k=>grind
  grind
 grind
theorem UL(hC:an E n G ρ t h a w)(hn:gq E n a o K bS){ty t1:TypeId}{x:Operand}{f:Nat}{fs:Array Field}{fd:Field}{ox:O}(ho:o.op=.fieldAddr ty x f)(hu:P.underlying ty=some (.struct fs))(hf:fs[f]?=some fd)
  (hz:P.cellsOf fd.type≠0) (hx:cO P t1 x=some ox) (hk:dV S ow (.fa ox fd.offset) t h K KP):o.wp P a w bS Q:=by
 have hv:=bG hC hx;have hrun:∀ad:Addr,a.eval x=.pointer (some ad)->(execOp a.eval o).run P w=.ok (.value (.pointer (some (ad.add fd.offset)))) w:=by
  intro ad had;unfold Program.cellsOf at hz;cases hi:P.info? fd.type with
  |none=>grind
  |some i=>
   rw[hi]at hz;simp at hz;simp[execOp,ho,had,Instr.fieldAt,run_underlying hu,hf,Instr.sureAddr,fieldPlace,sizeOf,typeInfo,hi,hz]
 simp only[dV,qv,qv]at hk;split at hk
 .rename_i id off hg;rw[hg]at hv;obtain⟨b,hp,hρ⟩:=hv.pt;rw[cP]at hk;refine au hC hn (hrun _ hp) ?_ hk;rw[dk];exact .k (.p id _ b hρ)
 .rename_i row off hg;rw[hg]at hv;obtain⟨b,oo,U,hp,hGb,hU,hD⟩:=hv.el;rw[cP]at hk;refine au hC hn (hrun _ hp) ?_ hk;rw[dk,Nat.add_assoc];exact .k (.e b oo _ row U hGb hU hD)
 .rename_i id z i off hg;rw[hg]at hv;obtain⟨b,nn,c,hp,hρ⟩:=hv.ql;rw[cP]at hk;refine au hC hn (hrun _ hp) ?_ hk;rw[dk,Nat.add_assoc];exact .k (.q id z i _ b nn c hρ)
 grind
theorem UK(hC:an E n G ρ t h a w)(hn:gq E n a o K bS){ty e t1 t2:TypeId}{x i:Operand}{ox oi:O}(ho:o.op=.indexAddr ty x i)(hu:P.underlying ty=some (.slice e))(hc0:P.cellsOf e≠0)(hx:cO P t1 x=some ox)(hi:cO P t2 i=some oi)
  (hk:dV S ow (.ia ox oi (P.cellsOf e)) t h K KP):o.wp P a w bS Q:=by
 have hvx:=bG hC hx;have hvi:=bG hC hi;have hrun:∀(b off len cap:Nat)(k:IntKind)(m:Int),a.eval x=.slice (some ⟨b,off,none⟩) len cap->a.eval i=.int k m->0<=m->m<len ->
   (execOp a.eval o).run P w=.ok (.value (.pointer (some ⟨b,off+m.toNat*P.cellsOf e,none⟩))) w:=by
  intro b off len cap k m h1 h2 h3 h4;unfold Program.cellsOf at hc0⊢;cases hie:P.info? e with
  |none=>grind
  |some ie=>
   simp[execOp,ho,h1,h2,Instr.indexAt,asIntOf,run_underlying hu,h3,h4,sizeOf,typeInfo,hie,dk]
 simp only[dV,qv,qv]at hk;split at hk
 .rename_i k m hgi;rw[hgi]at hvi;have hei:=hvi.int;have data:∀(z':Nat)(rows:List (List D)),bp G w (a.eval x) (.sl z' rows)->(∃row,(0<=m/\rows[m.toNat]?=some row/\Nat.beq z' (P.cellsOf e)=true)/\K (.e row 0) t h)->o.wp P a w bS Q:=by
   rintro z' rows hD ⟨row,⟨h0,hr,hz⟩,hk⟩
   obtain rfl:=kA hz;have hlt:m.toNat<rows.length:=(aC.1 hr).1;rcases hD.Q0 with⟨_,rfl⟩|⟨b,oo,cap,U,hv,g1,g2,g3,g4,g5,g6⟩
   grind
   .refine au hC hn (hrun b oo rows.length cap k m hv hei h0 (by omega)) ?_ hk;exact .k (.e b (oo+m.toNat*P.cellsOf e) 0 row (λj=>U m.toNat j) g3 (λj x hj=>by grind) (λj x hj=>g6 _ _ _ _ hr hj))
  split at hk
  .rename_i z' rows hgx;rw[hgx]at hvx;exact data z' rows hvx.rj hk
  .rename_i z' rows hgx;rw[hgx]at hvx;obtain⟨ad,nn,hv,hD⟩:=hvx.N6
   grind
  .rename_i id hgx;rw[hgx]at hvx;obtain⟨ad,nn,c,hv,hρ⟩:=hvx.PT;have one:∀(z':Nat)(rs:List (List D)),cQ G w ρ (.slice ad nn c) (.rows z' rs)->((0<=m/\m<rs.length/\Nat.beq z' (P.cellsOf e)=true)/\K (.q id (P.cellsOf e) m.toNat 0) t h)->o.wp P a w bS Q:=by
    rintro z' rs hrep ⟨⟨h0,hlt,hz⟩,hk⟩
    obtain rfl:=kA hz;have hlt':m.toNat<rs.length:=by omega
    obtain⟨b',cap,arr,ty',hb,h1,h2,hle,h3⟩:=iy hrep (aA hlt');simp only[Value.slice.injEq]at hb;obtain⟨rfl,rfl,rfl⟩:=hb;refine au hC hn (hrun b' 0 rs.length c k m hv hei h0 hlt) ?_ hk;rw[cE];exact .k (.q id _ _ 0 b' _ _ hρ)
   rw[get?_eq]at hk;split at hk
   .rename_i z' rs hrs;exact one z' rs (hC.ok.hr.rep id _ _ hρ hrs) hk
   .rename_i z' rs hrs;have hq:=hC.ok.hr.rep id _ _ hρ hrs;exact one z' rs hq hk
   grind
  grind
 grind
end
end
theorem jo{α:Type}:∀(cs:List α)(off:Nat)(vs:List α),(lay cs off vs).length=cs.length
 |cs,0,[]=>by cases cs<;>rfl
 |_::r,0,v::vs=>by simp[lay,jo r 0 vs]
 |[],0,_::_=>rfl
 |[],_+1,_=>rfl
 |c::r,n+1,vs=>by simp[lay,jo r n vs]
theorem ot{α:Type}:∀(cs:List α)(off:Nat)(vs:List α)(i:Nat),(lay cs off vs)[i]?=if i<off then cs[i]? else if i-off<vs.length/\i<cs.length then vs[i-off]? else cs[i]?
 |cs,0,[],i=>by cases cs<;>simp[lay]
 |c::r,0,v::vs,i=>by
  cases i with
  |zero=>rfl
  |succ i=>
   have:=ot r 0 vs i;simp only[lay,eX,this];simp
 |[],0,_::_,i=>by simp[lay]
 |[],n+1,_,i=>by simp[lay]
 |c::r,n+1,vs,i=>by
  cases i with
  |zero=>rfl
  |succ i=>
   have:=ot r n vs i;simp only[lay,eX,this]
   grind
theorem jv{α:Type}{l:List α}{i:Nat}{x:α}(h:l[i]?=some x):l.set i x=l:=by
 apply bz
 grind
section
variable{E:gG}{G:Nat->Prop}{w w':World}{ρ:List Value}{h:H}{n:Nat}{t:T}{a:Act}
theorem an.tJ(hC:an E n G ρ t h a w){id:Nat}{v0:Value}{x0 x1:B}(hv:ρ[id]?=some v0)(hx:h[id]?=some x0)(hn:x0≠.no)(hs:w.heap.size<=w'.heap.size)
  (same:∀b,b<w.heap.size->b∉fF v0 x0->w'.heap[b]?=w.heap[b]?) (ho:w'.os=w.os) (ht:w'.tape=w.tape) (hou:w'.output=w.output)
  (new:cQ G w' ρ v0 x1) (hg1:∀b∈gh x1,b∈fF v0 x0\/w.heap.size<=b) (hnl:∀z rs,x0≠.lk z rs:=by simp):an E n G ρ t (h.set id x1) a w':=by
 have hset:=jv hv;have hO:=hC.ok.TH (v1:=v0) (x1:=x1) (w':=w') hv hx hn hs same ho ht hou (by grind) (λb hb=>(bT.1 hb).elim (λh=>.inl (bT.2 (.inl h))) (hg1 b)) (λ_=>rfl) h rfl
  (λj y hy hj=>⟨y,hy,⟨Iff.rfl,λ_ _ _=>rfl⟩,rfl,λv hv' hr=>by grind⟩) hnl
 rw[hset]at hO;exact⟨hO,hC.df,hC.sz,λi=>(hC.tm i).mono (λ_ h=>h) (λb hb=>same b (hC.ok.hr.gl b hb) (λe=>hC.ok.hr.gd b hb ⟨id,v0,x0,hv,hx,hn,e⟩)) (λ_ _=>rfl)⟩
theorem an.GP(hC:an E n G ρ t h a w){id:Nat}{v0:Value}{x0 x1:B}(hv:ρ[id]?=some v0)(hx:h[id]?=some x0)(hn:x0≠.no)(hs:w'.heap.size=w.heap.size)
  (same:∀b,gB v0≠some b->w'.heap[b]?=w.heap[b]?) (ho:w'.os=w.os) (ht:w'.tape=w.tape) (hou:w'.output=w.output)
  (new:cQ G w' ρ v0 x1) (hgh:gh x1=[]:=by rfl) (hnl:∀z rs,x0≠.lk z rs:=by simp):an E n G ρ t (h.set id x1) a w':=
 hC.tJ hv hx hn (by omega) (λb _ hb=>same b λe=>hb (bT.2 (.inl e))) ho ht hou new (λb hb=>by grind) hnl
theorem an.QI(hC:an E n G ρ t h a w){id:Nat}{v0 v1:Value}{x0 x1:B}(hv:ρ[id]?=some v0)(hx:h[id]?=some x0)(hn:x0≠.no)(hsl:kZ v0=true)(hs:w.heap.size<=w'.heap.size)
  (same:∀b,b<w.heap.size->gB v0≠some b->w'.heap[b]?=w.heap[b]?) (ho:w'.os=w.os) (ht:w'.tape=w.tape) (hou:w'.output=w.output)
  (new:cQ G w' (ρ.set id v1) v1 x1) (hb1:∀b,gB v1=some b->gB v0=some b\/w.heap.size<=b) (hgh:gh x1=[]:=by rfl) (hnl:∀z rs,x0≠.lk z rs:=by simp) :
  an E n G (ρ.set id v1) (mK id t) ((h.map (jP id)).set id x1) a w':=by
 have hO:=hC.ok.YZ (v1:=v1) (x1:=x1) (w':=w') hv hx hn hs same ho ht hou new hb1 (λe=>by grind) (h.map (jP id)) (by simp)
  (λj y hy hj=>by
   rw[aB]at hy;cases hj':h[j]? with
   |none=>grind
   |some y0=>
    rw[hj']at hy;cases hy;exact⟨y0,rfl,⟨by cases y0<;>simp[jP],λz rs e=>by subst e;rfl⟩,pA _ _,λv hv' hr=>hr.uQ hv hsl⟩) (λb hb=>by grind) hnl
 refine⟨hO,hC.df,hC.sz,λi=>?_⟩;rw[mK,uY _ rfl];exact((hC.tm i).uQ (v1:=v1) hv hsl).mono (λ_ h=>h) (λb hb=>same b (hC.ok.hr.gl b hb) (λe=>hC.ok.hr.gd b hb ⟨id,v0,x0,hv,hx,hn,bT.2 (.inl e)⟩)) (λ_ _=>rfl)
theorem AM{G:Nat->Prop}{w:World}{ρ:List Value}:∀{c:List V}{ds:List D}{U:Nat->Value},wX c=some ds->(∀(i:Nat)(x:V),c[i]?=some x->dN G w ρ (U i) x)->ds.length=c.length/\∀(i:Nat)(x:D),ds[i]?=some x->bp G w (U i) x
 |[],ds,U,h,_=>by cases h;grind
 |x::r,ds,U,h,hr=>by
  unfold wX at h;split at h
  .rename_i a b ha hb;cases h;obtain⟨h1,h2⟩:=AM (U:=λi=>U (i+1)) hb λi x hx=>hr (i+1) x hx;refine⟨by grind,λi y hy=>?_⟩;cases i with
   |succ i=>grind
   |zero=>
    simp at hy;subst hy;have h0:=hr 0 x rfl;show bp G w (U 0) a;generalize U 0=u at h0;cases x<;>cases ha
    .cases h0 with|d h=>exact h
    .cases h0 with|e b o _ _ U1 h1 h2 h3=>exact .pt b o _ _ U1 h1 h2 h3
  grind
theorem Bv{K:List D->T->H->Prop}:∀(vs:List V)(G:Nat->Prop)(t:T)(h:H)(U:Nat->Value),an E n G ρ t h a w->(∀(i:Nat)(x:V),vs[i]?=some x->dO G w ρ (U i) x)->FP vs t h K ->
  ∃(G':Nat->Prop)(t':T)(h':H)(ds:List D),an E n G' ρ t' h' a w/\(∀b,G b->G' b)/\ds.length=vs.length/\(∀(i:Nat)(d:D),ds[i]?=some d->bp G' w (U i) d)/\K ds t' h':=by
 intro vs
 induction vs generalizing K with
 |nil=>intro G t h U hC _ hk;exact⟨G,t,h,[],hC,λ_ h=>h,rfl,by simp,hk⟩
 |cons v vs ih=>
  intro G t h U hC hU hk;have hv:=hU 0 v rfl;have go:∀(d:D)(G1:Nat->Prop)(t1:T)(h1:H),an E n G1 ρ t1 h1 a w->(∀b,G b->G1 b)->bp G1 w (U 0) d->FP vs t1 h1 (λxs t h=>K (d::xs) t h) ->
    ∃(G':Nat->Prop)(t':T)(h':H)(ds:List D),an E n G' ρ t' h' a w/\(∀b,G b->G' b)/\ds.length=(v::vs).length/\(∀(i:Nat)(d:D),ds[i]?=some d->bp G' w (U i) d)/\K ds t' h':=by
   intro d G1 t1 h1 hC1 hG1 hd hk1;obtain⟨G',t',h',ds,g1,g2,g3,g4,g5⟩:=ih G1 t1 h1 (λi=>U (i+1)) hC1 (λi x hi=>(hU (i+1) x (by grind)).mono hG1 (λ_ _=>rfl) (λ_ _=>rfl)) hk1;refine⟨G',t',h',d::ds,g1,λb hb=>g2 b (hG1 b hb),by grind,λi y hi=>?_,g5⟩;cases i with
   |zero=>simp at hi;subst hi;exact hd.mono g2 (λ_ _=>rfl)
   |succ i=>grind
  cases v with
  |d x=>
   exact go x G t h hC (λ_ h=>h) (az.c hv).rj hk
  |cl z rs=>
   have:bp G w (U 0) (.sl z rs):=by
    have:=(az.c hv).N6
    grind
   exact go _ G t h hC (λ_ h=>h) this hk
  |fc f caps=>
   cases caps with
   |nil=>
    have:bp G w (U 0) (.fn f):=by
     obtain⟨cs,h1,h2,_⟩:=(az.c hv).Pk;rw[xr h1 (by grind)];exact .fn f
    exact go _ G t h hC (λ_ h=>h) this hk
   |cons c cs=>
    simp only[iJ,uZ]at hk;split at hk
    .rename_i ds hD;have:bp G w (U 0) (.fc f ds):=by
      generalize U 0=u at hv;cases hv with
      |k h=>cases h
      |fc _ _ as _ h1 h2 h3=>
       obtain⟨h4,h5⟩:=AM hD (U:=λi=>as.getD i undef) h3;exact .fc f _ as ds h1 (h2.trans h4.symm) h5
     grind
    grind
  |os id=>
   simp only[iJ,uZ,get?_eq]at hk;split at hk
   .rename_i z rs hx;simp only[j6,fH]at hk;obtain⟨v0,hv0,hd,hC'⟩:=hC.free hx;obtain⟨a',n',c',h1,h2⟩:=(az.c hv).PT
    grind
   grind
  |un|ud|ag _|tu _|p _ _|e _ _|q _ _ _ _|nl _|mp _|ov _ _ _|it _ _=>exact hk.elim
end
section
variable{P:Program}{E:gG}{n:Nat}{G:Nat->Prop}{ρ:List Value}{t:T}{h:H}{a:Act}{w:World}{o:Oper}{bS:Act->World->Prop}{Q:Exit->Act->World->Prop}{K KP:V->T->H->Prop}
variable(S:Nat->List V->H->(Out->H->Prop)->Prop)(ow:Nat->Bool)
theorem BD{ty ty':TypeId}{b off m:Nat}{arr:Array Value}{v:Value}(hb:w.heap[b]?=some (.cells arr ty' (0,0)))(hm:(P.info? ty).map (·.size)=some m)(hs:v.cells.size=m)(hle:off+m<=arr.size)(h1:∀u∈v.cells.toList,u.oneCell'=true) :
  (storeVar ty ⟨b,off,none⟩ v).run P w=.ok () (w.setRow b (arr.toList.take off++v.cells.toList++arr.toList.drop (off+m)).toArray):=by
 cases hi:P.info? ty with
 |none=>grind
 |some i=>
  rw[hi]at hm;simp at hm;have:=run_storeCells_at (P:=P) b off ty' v.cells.toList 0 arr w hb (by grind) h1;simp only[eB,cq,hs]at this;simp[storeVar,sizeOf,typeInfo,hi,hm,hs,this]
theorem o7{arr:Array Value}{off m:Nat}{us:List Value}(hm:us.length=m)(hle:off+m<=arr.size)(i:Nat):(arr.toList.take off++us++arr.toList.drop (off+m)).toArray.getD i undef=if off<=i/\i<off+m then us.getD (i-off) undef else arr.getD i undef:=by
 simp only[aH,fO,aq]
 by_cases h1:i<off
 grind
 grind
theorem Tk (hC:an E n G ρ t h a w) (hn:gq E n a o K bS) {ty t1 t2:TypeId} {x v:Operand} {ox ov:O} {m:Nat} (ho:o.op = .store ty x v) (hx:cO P t1 x=some ox) (hv:cO P t2 v=some ov) (hm:(P.info? ty).map (·.size)=some m)
    (hk:dV S ow (.st ox ov m) t h K KP):o.wp P a w bS Q:=by
  have hvx:=bG hC hx
  have hvv:=bG hC hv
  simp only[dV]at hk
  split at hk
  · rename_i id off hg
    rw[hg]at hvx
    obtain⟨b,hp,hρ⟩:=hvx.pt
    rw[get?_eq]at hk
    split at hk
    · rename_i cs hcs
      simp only[bn]at hk
      obtain⟨⟨hl,hle,hst⟩,hk⟩:=hk
      have hl:=kA hl
      have hle:=bN hle
      obtain⟨c1,c2⟩:=jV hvv hst
      obtain⟨b',arr,ty',hb,h1,h2,h3⟩:=hC.ok.hr.rep id _ _ hρ hcs
      simp only[Value.pointer.injEq,aD,Addr.mk.injEq,ω]at hb
      obtain⟨rfl,_⟩:=hb
      have hone:∀u∈(a.eval v).cells.toList,u.oneCell'=true:=by
        intro u hu
        obtain⟨j,hj⟩:=ao.1 hu
        have hjl:j<(gv t ov).cs.length:=by
          grind
        have hr:=c2 j _ (aA hjl)
        have he:(a.eval v).cells.getD j undef=u:=by
          simp_all
        rw[he]at hr
        exact BO hr (aP.1 hst _ (dR hjl))
      have hrun:=BD (P:=P) (ty:=ty) (off:=off) (v:=a.eval v) h1 hm (by grind) (by omega) hone
      have hlt:b<w.heap.size:=(aW.1 h1).1
      have hC':=hC.GP (w':=w.setRow b (arr.toList.take off++(a.eval v).cells.toList++arr.toList.drop (off+m)).toArray) (x1:=.cells (lay cs off (gv t ov).cs)) hρ hcs (by simp) (by simp)
        (λc hc=>setRow_other w b c _ (by simp only[gB,ne_eq,aD]at hc;omega)) rfl rfl rfl
        ⟨b,_,ty',rfl,setRow_heap w b arr _ ty' _ h1,by simp[jo,c1,hl];omega,λi y hi=>by
          rw[o7 (by grind) (by omega)]
          rw[ot]at hi
          have hs':∀c,G c->(w.setRow b (arr.toList.take off++(a.eval v).cells.toList++arr.toList.drop (off+m)).toArray).heap[c]?=w.heap[c]?:=λc hc=>setRow_other w b c _ (λe=>by
            subst e;exact hC.ok.hr.gd c hc ⟨id,_,_,hρ,hcs,by simp,bT.2 (.inl rfl)⟩)
          by_cases hio:i<off
          · rw[ζ hio]at hi
            rw[η (by omega)]
            exact(h3 i y hi).mono (λ_ h=>h) hs' (λ_ _=>rfl)
          · rw[η hio]at hi
            by_cases him:i<off+m
            · rw[ζ ⟨by omega,by omega⟩]at hi
              rw[ζ ⟨by omega,him⟩]
              have:=c2 _ y hi
              rw[aH,<-cJ]at this
              rw[aq]
              exact this.mono (λ_ h=>h) hs' (λ_ _=>rfl)
            · rw[η (by omega)]at hi
              rw[η (by omega)]
              exact(h3 i y hi).mono (λ_ h=>h) hs' (λ_ _=>rfl)⟩
      refine ji ?_ (hn undef _ _ _ _ _ _ hC' (.k .ud) hk)
      simp[execOp,ho,hp,Instr.storeAt,Instr.sureAddr,hrun]
    grind
  · rename_i id z i off hg
    rw[hg]at hvx
    obtain⟨b,nn,c,hp,hρ⟩:=hvx.ql
    have hk2:(∃j,gv t ov=.os j/\stx id z i off m j h λh=>K .ud t h)\/Vm id z i off m (gv t ov).cs t h λt h=>K .ud t h:=by
      cases hgv:gv t ov with
      |os j=>rw[hgv]at hk;exact(Q8 hk).imp (λh=>⟨_,rfl,h⟩) (λh=>h)
      |_=>rw[hgv]at hk;exact .inr hk
    clear hk
    rcases hk2 with⟨j,hj,hk⟩|hk
    · skip
      rw[hj]at hvv
      obtain⟨aa,n2,c2,hval,hρj⟩:=hvv.PT
      unfold stx at hk
      rw[get?_eq]at hk
      split at hk
      · rename_i z' rs hrs
        obtain⟨row,hrow,⟨hz,hl,hle⟩,hk⟩:=hk
        simp only[ph,bn]at hk
        obtain rfl:=kA hz
        obtain rfl:=kA hl
        have hle:=bN hle
        have hcl:(a.eval v).cells=#[.slice aa n2 c2]:=by rw[hval];rfl
        obtain⟨b',cap,arr,ty',hb,h1,hrz,hle2,h3⟩:=iy (hC.ok.hr.rep id _ _ hρ hrs) hrow
        simp only[Value.slice.injEq,aD,Addr.mk.injEq,ω]at hb
        obtain⟨rfl,rfl,rfl⟩:=hb
        have hone:∀u∈(a.eval v).cells.toList,u.oneCell'=true:=by
          intro u hu
          rw[hcl]at hu
          simp only[aF]at hu
          rw[hu]
          rfl
        have hrun:=BD (P:=P) (ty:=ty) (off:=i*z+off) (v:=a.eval v) h1 hm (by grind) (by omega) hone
        rcases hC.ok.hr.rep id _ _ hρ hrs with⟨he,_⟩|⟨b2,cap2,arr2,ty2,he,k1,k2,k3,k4,k5⟩
        grind
        · simp only[Value.slice.injEq,aD,Addr.mk.injEq,ω]at he
          obtain⟨rfl,_,rfl⟩:=he
          rw[h1]at k1
          simp only[aD,Obj.cells.injEq,ω]at k1
          obtain⟨rfl,rfl⟩:=k1
          have hil:i<rs.length:=(aC.1 hrow).1
          have hs':∀b3,G b3->(w.setRow b (arr.toList.take (i*z+off)++(a.eval v).cells.toList++arr.toList.drop (i*z+off+1)).toArray).heap[b3]?=w.heap[b3]?:=λb3 hc=>setRow_other w b b3 _ (λe=>by
            subst e;exact hC.ok.hr.gd _ hc ⟨id,_,_,hρ,hrs,by simp,bT.2 (.inl rfl)⟩)
          have hC2:=hC.GP (w':=w.setRow b (arr.toList.take (i*z+off)++(a.eval v).cells.toList++arr.toList.drop (i*z+off+1)).toArray) (x1:=.rx z rs i (lay (row.map .d) off [V.os j])) hρ hrs (by simp) (by simp)
            (λc hc=>setRow_other w b c _ (by simp only[gB,ne_eq,aD]at hc;omega)) rfl rfl rfl
            ⟨b,c,_,ty',rfl,setRow_heap w b arr _ ty' _ h1,k2,k3,by
              grind,
              ⟨hil,by rw[jo,aI,hrz]⟩,λi' row' hi' hne=>by
              refine⟨(k5 i' row' hi').1,λjj x hj'=>?_⟩
              have hrl:=(k5 i' row' hi').1
              have hjl:jj<z:=by grind
              rw[o7 (m:=1) (by grind) (by omega)]
              rw [η (by
                intro hh
                rcases Nat.lt_or_gt_of_ne (λe=>hne e:i'≠i)with hlt|hgt
                · have:(i'+1)*z<=i*z:=bD _ hlt
                  grind
                · have:(i+1)*z<=i'*z:=bD _ hgt
                  grind)]
              exact((k5 i' row' hi').2 jj x hj').mono (λ_ h=>h) hs',λjj x hj'=>by
              rw[o7 (m:=1) (by grind) (by omega)]
              rw[ot]at hj'
              by_cases hjo:jj<off
              · rw[ζ hjo,aB]at hj'
                rw[η (by omega)]
                cases hr:row[jj]? with
                |none=>grind
                |some x0=>rw[hr]at hj';cases hj';exact .k (.d ((h3 jj x0 hr).2.mono (λ_ h=>h) hs'))
              · rw[η hjo]at hj'
                by_cases hjm:jj<off+1
                · rw[ζ ⟨by grind,by grind⟩]at hj'
                  rw[ζ ⟨by omega,by omega⟩]
                  obtain rfl:jj=off:=by omega
                  simp only[gM,dC,aD]at hj'
                  subst hj'
                  rw[hcl]
                  simp only[gM]
                  exact .k (.os j aa n2 c2 hρj)
                · rw[η (by grind),aB]at hj'
                  rw[η (by omega)]
                  cases hr:row[jj]? with
                  |none=>grind
                  |some x0=>rw[hr]at hj';cases hj';exact .k (.d ((h3 jj x0 hr).2.mono (λ_ h=>h) hs'))⟩
          refine ji ?_ (hn undef _ _ _ _ _ _ hC2 (.k .ud) hk)
          simp[execOp,ho,hp,Instr.storeAt,Instr.sureAddr,hrun]
      grind
    unfold Vm at hk
    by_cases hst:(gv t ov).cs.all fP=true
    · obtain ⟨c1, c2⟩ := jV hvv hst
      obtain⟨G',t',h',ds,hC1,hG',hdl,hds,hk⟩:=Bv (gv t ov).cs G t h (λi=>(a.eval v).cells.getD i undef) hC c2 hk
      rw[get?_eq]at hk
      split at hk
      · rename_i z' rs hrs
        simp only[bn]at hk
        obtain⟨row,hrow,⟨hz,hl,hle⟩,hk⟩:=hk
        obtain rfl:=kA hz
        have hl:=kA hl
        have hle:=bN hle
        obtain⟨b',cap,arr,ty',hb,h1,hrz,hle2,h3⟩:=iy (hC1.ok.hr.rep id _ _ hρ hrs) hrow
        simp only[Value.slice.injEq,aD,Addr.mk.injEq,ω]at hb
        obtain⟨rfl,rfl,rfl⟩:=hb
        have hone:∀u∈(a.eval v).cells.toList,u.oneCell'=true:=by
          intro u hu
          obtain⟨j,hj⟩:=ao.1 hu
          have hjl:j<(gv t ov).cs.length:=by
            grind
          have hr:=c2 j _ (aA hjl)
          have he:(a.eval v).cells.getD j undef=u:=by
            simp_all
          rw[he]at hr
          exact BO hr (aP.1 hst _ (dR hjl))
        have hrun:=BD (P:=P) (ty:=ty) (off:=i*z+off) (v:=a.eval v) h1 hm (by grind) (by omega) hone
        have hrep:=hC1.ok.hr.rep id _ _ hρ hrs
        rcases hrep with⟨he,_⟩|⟨b2,cap2,arr2,ty2,he,k1,k2,k3,k4,k5⟩
        grind
        · simp only[Value.slice.injEq,aD,Addr.mk.injEq,ω]at he
          obtain⟨rfl,_,rfl⟩:=he
          rw[h1]at k1
          simp only[aD,Obj.cells.injEq,ω]at k1
          obtain⟨rfl,rfl⟩:=k1
          have hil:i<rs.length:=(aC.1 hrow).1
          have hC2:=hC1.GP (w':=w.setRow b (arr.toList.take (i*z+off)++(a.eval v).cells.toList++arr.toList.drop (i*z+off+m)).toArray) (x1:=.rows z (rs.set i (lay row off ds))) hρ hrs (by simp) (by simp)
            (λc hc=>setRow_other w b c _ (by simp only[gB,ne_eq,aD]at hc;omega)) rfl rfl rfl
            (.inr ⟨b,c,_,ty',by simp,setRow_heap w b arr _ ty' _ h1,by grind,k3,by
              grind,λi' row' hi'=>by
              have hs':∀c,G' c->(w.setRow b (arr.toList.take (i*z+off)++(a.eval v).cells.toList++arr.toList.drop (i*z+off+m)).toArray).heap[c]?=w.heap[c]?:=λc hc=>setRow_other w b c _ (λe=>by
                subst e;exact hC1.ok.hr.gd c hc ⟨id,_,_,hρ,hrs,by simp,bT.2 (.inl rfl)⟩)
              rw[eE]at hi'
              split at hi'
              · rename_i hii
                subst hii
                cases hi'
                refine⟨by rw[jo,hrz],λj x hj=>?_⟩
                rw[o7 (by grind) (by omega)]
                rw[ot]at hj
                by_cases hjo:j<off
                · rw[ζ hjo]at hj
                  rw[η (by omega)]
                  exact(h3 j x hj).2.mono (λ_ h=>h) hs'
                · rw[η hjo]at hj
                  by_cases hjm:j<off+m
                  · rw[ζ ⟨by omega,by omega⟩]at hj
                    rw[ζ ⟨by omega,by omega⟩]
                    have:=hds _ x hj
                    rw[show i*z+j-(i*z+off)=j-off by omega]
                    rw[aH,<-cJ]at this
                    rw[aq]
                    exact this.mono (λ_ h=>h) hs'
                  · rw[η (by omega)]at hj
                    rw[η (by omega)]
                    exact(h3 j x hj).2.mono (λ_ h=>h) hs'
              · rename_i hii
                refine⟨(k5 i' row' hi').1,λj x hj=>?_⟩
                have hrl:=(k5 i' row' hi').1
                have hjl:j<z:=by grind
                rw[o7 (by grind) (by omega)]
                rw [η (by
                  intro hh
                  rcases Nat.lt_or_gt_of_ne (λe=>hii e:i≠i')with hlt|hgt
                  · have:(i+1)*z<=i'*z:=bD _ hlt
                    grind
                  · have:(i'+1)*z<=i*z:=bD _ hgt
                    grind)]
                exact((k5 i' row' hi').2 j x hj).mono (λ_ h=>h) hs'⟩)
          refine ji ?_ (hn undef _ _ _ _ _ _ hC2 (.k .ud) hk)
          simp[execOp,ho,hp,Instr.storeAt,Instr.sureAddr,hrun]
      grind
    · skip
      exfalso
      apply hst
      have:∀(vs:List V)(t:T)(h:H)(K:List D->T->H->Prop),FP vs t h K->vs.all fP=true:=by
        intro vs
        induction vs with
        |nil=>grind
        |cons v vs ih=>
          intro t h K hf
          cases v<;>first|exact hf.elim|skip
          · simpa[fP]using ih _ _ _ hf
          · rename_i id
            simp only[iJ,uZ]at hf
            split at hf
            · simp only[j6,fH]at hf
              simpa[fP]using ih _ _ _ hf
            grind
          · simpa[fP]using ih _ _ _ hf
          · rename_i f caps
            cases caps with
            |nil=>simpa[fP]using ih _ _ _ hf
            |cons=>
              simp only[iJ,uZ]at hf
              split at hf
              · simpa[fP]using ih _ _ _ hf
              grind
      grind
  grind
end
theorem LN{k:IntKind}{n:Int}(h:dB k n):k.wrap n=n:=by
 unfold IntKind.wrap;cases k<;>simp only[dB]at h<;>simp[IntKind.bits,IntKind.signed]<;>omega
theorem B_{G:Nat->Prop}{w:World}{v:Value}{f:Nat}(h:bp G w v (.fn f)):v=.func (.func f) #[] #[]:=by cases h;rfl
section
variable{P:Program}{E:gG}{n:Nat}{G:Nat->Prop}{ρ:List Value}{t:T}{h:H}{a:Act}{w:World}{o:Oper}{bS:Act->World->Prop}{Q:Exit->Act->World->Prop}{K KP:V->T->H->Prop}
variable(S:Nat->List V->H->(Out->H->Prop)->Prop)(ow:Nat->Bool)
theorem ra(hC:an E n G ρ t h a w)(hn:gq E n a o K bS){k:IntKind}{m:Int}(hr:(execOp a.eval o).run P w=.ok (.value (.int k (k.wrap m))) w)(hk:Nl k m λm=>K (.d (.int k m)) t h):o.wp P a w bS Q:=by
 rcases hk with⟨h1,h2⟩|h2
 .rw[LN h1]at hr;exact au hC hn hr (.d (.int k m)) h2
 .exact au hC hn hr (.d (.int k _)) h2
theorem Ho(hC:an E n G ρ t h a w)(hn:gq E n a o K bS){b:BinOp}{ty t1 t2 t3:TypeId}{x y:Operand}{ox oy:O}(ho:o.op=.binOp b ty x y t3)(hx:cO P t1 x=some ox)(hy:cO P t2 y=some oy)
  (hk:dV S ow (.bin b ox oy) t h K KP):o.wp P a w bS Q:=by
 have hvx:=bG hC hx;have hvy:=bG hC hy;simp only[dV,qv,qv]at hk;split at hk
 .rename_i p q hgx hgy;rw[hgx]at hvx;rw[hgy]at hvy;obtain⟨s1,e1,rfl,m1⟩:=hvx.str;obtain⟨s2,e2,rfl,m2⟩:=hvy.str;cases b<;>simp only at hk<;>try exact hk.elim
  have hsz:(s1++s2).size<=maxLen:=by
   have h1:=hk.1;rw[cq,cq]at h1;rw[ByteArray.size_append];exact h1
  have hadd:=run_string_add_sum (P:=P) (w:=w) s1 s2 (by
   simp_all)
  refine au hC hn (v':=.string (s1++s2)) ?_ (.d ?_) hk.2
  .simp[execOp,ho,e1,e2,eqGuard,binOp,hadd]
  .have:=bp.str (G:=G) (w:=w) (s1++s2) hsz;simp_all
 .rename_i k p k' q hgx hgy;rw[hgx]at hvx;rw[hgy]at hvy;have e1:=hvx.int;have e2:=hvy.int;cases hsh:TT b<;>rw[hsh]at hk;rotate_left
  .simp only[δ]at hk;obtain⟨h0,hk⟩:=hk;have hr:(execOp a.eval o).run P w=.ok (.value (.int k (A_ b k p q))) w:=by
    cases b<;>simp only[TT,cg]at hsh
    .simp[execOp,ho,e1,e2,eqGuard,binOp,Op.shift,A_,η (Int.not_lt.2 h0)]
    .simp[execOp,ho,e1,e2,eqGuard,binOp,Op.shift,A_,η (Int.not_lt.2 h0)]
   exact au hC hn hr (.d (.int _ _)) hk
  simp only[ε]at hk;cases hkn:Nat.beq (kn k) (kn k')<;>rw[hkn]at hk
  grind
  obtain rfl:k=k':=by revert hkn;cases k<;>cases k'<;>simp[kn]
  simp only[δ]at hk;cases b<;>simp only at hk<;>try (first|exact hk.elim|(simp[TT]at hsh;done))
  .exact ra hC hn (by simp[execOp,ho,e1,e2,eqGuard,binOp,Op.intArith]) hk
  .exact ra hC hn (by simp[execOp,ho,e1,e2,eqGuard,binOp,Op.intArith]) hk
  .exact ra hC hn (by simp[execOp,ho,e1,e2,eqGuard,binOp,Op.intArith]) hk
  .exact ra hC hn (by simp[execOp,ho,e1,e2,eqGuard,binOp,Op.intDiv,hk.1]) hk.2
  .exact au hC hn (v':=.int k (p.tmod q)) (by simp[execOp,ho,e1,e2,eqGuard,binOp,Op.intDiv,hk.1]) (.d (.int _ _)) hk.2
  .exact au hC hn (v':=.int k (jF .and k p q)) (by simp[execOp,ho,e1,e2,eqGuard,binOp,Op.intBits,jF]) (.d (.int _ _)) hk
  .exact au hC hn (v':=.int k (jF .or k p q)) (by simp[execOp,ho,e1,e2,eqGuard,binOp,Op.intBits,jF]) (.d (.int _ _)) hk
  .exact au hC hn (v':=.int k (jF .xor k p q)) (by simp[execOp,ho,e1,e2,eqGuard,binOp,Op.intBits,jF]) (.d (.int _ _)) hk
  .exact au hC hn (v':=.int k (jF .andNot k p q)) (by simp[execOp,ho,e1,e2,eqGuard,binOp,Op.intBits,jF]) (.d (.int _ _)) hk
  .exact au hC hn (v':=.bool (p==q)) (by simp[execOp,ho,e1,e2,eqGuard,binOp,Op.intCmp]) (.d (.bool _)) hk
  .exact au hC hn (v':=.bool (p != q)) (by simp[execOp,ho,e1,e2,eqGuard,binOp,Op.intCmp]) (.d (.bool _)) hk
  .exact au hC hn (v':=.bool (decide (p<q))) (by simp[execOp,ho,e1,e2,eqGuard,binOp,Op.intCmp]) (.d (.bool _)) hk
  .exact au hC hn (v':=.bool (decide (p<=q))) (by simp[execOp,ho,e1,e2,eqGuard,binOp,Op.intCmp]) (.d (.bool _)) hk
  .exact au hC hn (v':=.bool (decide (q<p))) (by simp[execOp,ho,e1,e2,eqGuard,binOp,Op.intCmp]) (.d (.bool _)) hk
  .exact au hC hn (v':=.bool (decide (q<=p))) (by simp[execOp,ho,e1,e2,eqGuard,binOp,Op.intCmp]) (.d (.bool _)) hk
 grind
theorem Tj(hC:an E n G ρ t h a w)(hn:gq E n a o K bS){u:UnOp}{ty t1:TypeId}{x:Operand}{ox:O}(ho:o.op=.unOp u ty x)(hx:cO P t1 x=some ox)(hk:dV S ow (.un u ox) t h K KP):o.wp P a w bS Q:=by
 have hvx:=bG hC hx;simp only[dV,qv,qv]at hk;split at hk
 .rename_i b hgx;rw[hgx]at hvx;have e1:=hvx.bool;exact au hC hn (v':=.bool (!b)) (by simp[execOp,ho,e1,Op.unary]) (.d (.bool _)) hk
 .rename_i k p hgx;rw[hgx]at hvx;have e1:=hvx.int;exact ra hC hn (by simp[execOp,ho,e1,Op.unary,Op.intArith]) hk
 grind
theorem UO(hC:an E n G ρ t h a w)(hn:gq E n a o K bS){s d t1:TypeId}{k ks:IntKind}{x:Operand}{ox:O}(ho:o.op=.convert s d x)(hs:P.underlying s=some (.int ks))(hd:P.underlying d=some (.int k))(hx:cO P t1 x=some ox)(hk:dV S ow (.cv k ox) t h K KP):o.wp P a w bS Q:=by
 have hvx:=bG hC hx;simp only[dV,qv,qv]at hk;split at hk
 .rename_i k' p hgx;rw[hgx]at hvx;have e1:=hvx.int;exact ra hC hn (by simp[execOp,ho,e1,Go.convert,run_underlying hs,run_underlying hd,Conv.intToInt]) hk
 grind
theorem UC(hC:an E n G ρ t h a w)(hn:gq E n a o K bS){ty t1 e:TypeId}{x:Operand}{ox:O}(ho:o.op=.call {callee:=.builtin .len,args:= #[x],argTypes:= #[ty]})
  (hu:P.underlying ty=some (.slice e)) (hx:cO P t1 x=some ox) (hk:dV S ow (.ln ox) t h K KP):o.wp P a w bS Q:=by
 have hvx:=Dg (bG hC hx);have sl:∀(ad:Option Addr)(m c:Nat),a.eval x=.slice ad m c->(execOp a.eval o).run P w=.ok (.value (.int .i64 m)) w:=by
  intro ad m c hv;simp[execOp,ho,resolve,invoke,builtin,Builtin.len_,hv,run_underlying hu,goInt]
 simp only[dV]at hk;split at hk
 .rename_i z r hg;rw[hg]at hvx;obtain⟨ad,c,hv,hl⟩:=hvx.rj.len;exact au hC hn (sl _ _ _ hv) (.d (.int _ _)) (hk hl)
 .rename_i z r hg;rw[hg]at hvx;obtain⟨ad,m,hv,hD⟩:=hvx.N6;obtain⟨ad',c,hv',hl⟩:=hD.len;rw[hv']at hv;exact au hC hn (sl _ _ _ hv) (.d (.int _ _)) (hk hl)
 .rename_i id hg;rw[hg]at hvx;obtain⟨ad,m,c,hv,hρ⟩:=hvx.PT;rw[get?_eq]at hk;split at hk
  iterate 2
   .rename_i z r hr;rcases hC.ok.hr.rep id _ _ hρ hr with⟨he,rfl⟩|⟨b,cap,arr,ty',he,_,hlc,hcm,_⟩
    .cases he;exact au hC hn (sl _ _ _ hv) (.d (.int _ _)) (hk (by simp))
    .cases he;exact au hC hn (sl _ _ _ hv) (.d (.int _ _)) (hk (aX hlc hcm))
  grind
 grind
theorem lS(s:ByteArray):s.size=s.data.toList.length:=(cq (xs:=s.data)).symm
theorem UB(hC:an E n G ρ t h a w)(hn:gq E n a o K bS){ty t1:TypeId}{x:Operand}{ox:O}(ho:o.op=.call {callee:=.builtin .len,args:= #[x],argTypes:= #[ty]})
  (hu:P.underlying ty=some .string) (hx:cO P t1 x=some ox) (hk:dV S ow (.ls ox) t h K KP):o.wp P a w bS Q:=by
 have hvx:=bG hC hx;simp only[dV]at hk;split at hk
 .rename_i s hg;rw[hg]at hvx;obtain⟨s',hv,rfl,hm⟩:=hvx.str;refine au hC hn (v':=.int .i64 s'.size) ?_ (.d ?_) (hk (by assumption))
  .simp[execOp,ho,resolve,invoke,builtin,Builtin.len_,hv,run_underlying hu,goInt]
  .rw[<-lS];exact .int _ _
 grind
theorem Tw(hC:an E n G ρ t h a w)(hn:gq E n a o K bS){ts:Array TypeId}{t1 t2:TypeId}{x y:Operand}{ox oy:O}(ho:o.op=.call {callee:=.builtin .min,args:= #[x,y],argTypes:=ts})
  (hx:cO P t1 x=some ox) (hy:cO P t2 y=some oy) (hk:dV S ow (.mn ox oy) t h K KP):o.wp P a w bS Q:=by
 have hvx:=bG hC hx;have hvy:=bG hC hy;simp only[dV,qv,qv]at hk;split at hk
 .rename_i k p k' q hgx hgy;rw[hgx]at hvx;rw[hgy]at hvy;have e1:=hvx.int;have e2:=hvy.int;refine au hC hn (v':=.int k (min p q)) ?_ (.d (.int _ _)) hk;have:(if q<p then q else p)=min p q:=by omega
  simp[execOp,ho,resolve,invoke,builtin,Builtin.min_,Builtin.min2,e1,e2,this]
 grind
theorem Tv(hC:an E n G ρ t h a w)(hn:gq E n a o K bS){ts:Array TypeId}{t1 t2:TypeId}{x y:Operand}{ox oy:O}(ho:o.op=.call {callee:=.builtin .max,args:= #[x,y],argTypes:=ts})
  (hx:cO P t1 x=some ox) (hy:cO P t2 y=some oy) (hk:dV S ow (.mx ox oy) t h K KP):o.wp P a w bS Q:=by
 have hvx:=bG hC hx;have hvy:=bG hC hy;simp only[dV,qv,qv]at hk;split at hk
 .rename_i k p k' q hgx hgy;rw[hgx]at hvx;rw[hgy]at hvy;have e1:=hvx.int;have e2:=hvy.int;refine au hC hn (v':=.int k (max p q)) ?_ (.d (.int _ _)) hk;have:(if q>p then q else p)=max p q:=by omega
  have h':(if p<q then q else p)=max p q:=by omega
  simp[execOp,ho,resolve,invoke,builtin,Builtin.max_,Builtin.max2,e1,e2,h']
 grind
theorem UM(hC:an E n G ρ t h a w)(hn:gq E n a o K bS){t1:TypeId}{x:Operand}{i:Nat}{ox:O}(ho:o.op=.extract x i)(hx:cO P t1 x=some ox)(hk:dV S ow (.ex ox i) t h K KP):o.wp P a w bS Q:=by
 have hvx:=bG hC hx;simp only[dV,qv,qv]at hk;split at hk
 .rename_i vs hg;rw[hg]at hvx;obtain⟨cs,hv,hs,hr⟩:=hvx.Vk;rw[get?_eq]at hk;split at hk
  .rename_i v hi;have hil:i<cs.size:=by grind
   refine au hC hn (v':=cs.getD i undef) ?_ (.o (hr i v hi)) hk;simp[execOp,ho,Instr.extract,hv,hil]
  grind
 grind
theorem Tu(hC:an E n G ρ t h a w)(hn:gq E n a o K bS){t1:TypeId}{x:Operand}{ox:O}(ho:o.op=.nilCheck x)(hx:cO P t1 x=some ox)(hk:dV S ow (.nc ox) t h K KP):o.wp P a w bS Q:=by
 have hvx:=bG hC hx;simp only[dV,qv,qv]at hk;split at hk
 .rename_i i oo hg;rw[hg]at hvx;obtain⟨b,hv,_⟩:=hvx.pt;exact au hC hn (v':=a.eval x) (by simp[execOp,ho,hv]) hvx hk
 .rename_i r oo hg;rw[hg]at hvx;obtain⟨b,_,_,hv,_⟩:=hvx.el;exact au hC hn (v':=a.eval x) (by simp[execOp,ho,hv]) hvx hk
 .rename_i i z j oo hg;rw[hg]at hvx;obtain⟨b,_,_,hv,_⟩:=hvx.ql;exact au hC hn (v':=a.eval x) (by simp[execOp,ho,hv]) hvx hk
 .rename_i f c hg;rw[hg]at hvx;obtain⟨cs,hv,_⟩:=hvx.Pk;cases hb:Nat.blt f 2000000<;>rw[hb]at hk
  grind
  have hlt:f<2000000:=by simp_all
  obtain⟨g,y1,y2,hv'⟩:=Dc hv hlt;exact au hC hn (v':=a.eval x) (by simp[execOp,ho,hv']) hvx hk
 .rename_i f hg;rw[hg]at hvx;have hv:a.eval x=.func (.func f) #[] #[]:=B_ hvx.rj;exact au hC hn (v':=a.eval x) (by simp[execOp,ho,hv]) hvx hk
 .rename_i row off hg;rw[hg]at hvx;have hv:=hvx.rj;generalize hav:a.eval x=av at hv;cases hv with
  |pt b o _ _ U h1 h2 h3=>exact au hC hn (v':=a.eval x) (by simp[execOp,ho,hav]) (by rw[hav];exact .k (.e b o off row U h1 h2 h3)) hk
 grind
end
end Go.Vx
