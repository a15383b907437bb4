/- Lemmas. Conditions: none. -/
import Derived.Test.YtjpgfgajkjhonaaGreatDoorQRAD
import Derived.Laws.StructEq
import Derived.Laws.Concat
namespace Go.Vx
section
variable{G:Nat->Prop}{w:World}{ρ:List Value}
theorem au.c{v:Value}{x:V}(h:dI G w ρ v x):au G w ρ v x:=.o (.c h)
theorem au.k{v:Value}{x:V}(h:dL G w ρ v x):au G w ρ v x:=.o (.c (.k h))
theorem au.d{v:Value}{x:D}(h:bp G w v x):au G w ρ v (.d x):=.o (.c (.k (.d h)))
theorem au.qu{v:Value}{x:D}(h:au G w ρ v (.d x)):bp G w v x:=by
 cases h with|o h=>cases h with|c h=>cases h with|k h=>cases h with|d h=>exact h
theorem au.int{v:Value}{k:IntKind}{n:Int}(h:au G w ρ v (.d (.int k n))):v=.int k n:=by cases h.qu;rfl
theorem au.bool{v:Value}{b:Bool}(h:au G w ρ v (.d (.bool b))):v=.bool b:=by cases h.qu;rfl
theorem au.str{v:Value}{b:List UInt8}(h:au G w ρ v (.d (.str b))):∃s:ByteArray,v=.string s/\s.data.toList=b/\s.size<=maxLen:=by
 cases h.qu;grind
theorem au.pt{v:Value}{id off:Nat}(h:au G w ρ v (.p id off)):∃b,v=.pointer (some ⟨b,off,none⟩)/\ρ[id]?=some (.pointer (some ⟨b,0,none⟩)):=by
 cases h with|o h=>cases h with|c h=>cases h with|k h=>cases h with|p _ _ b h=>grind
theorem au.el{v:Value}{row:List D}{off:Nat}(h:au G w ρ v (.e row off)):∃(b o:Nat)(U:Nat->Value),v=.pointer (some ⟨b,o+off,none⟩)/\G b /\
  (∀(j:Nat)(x:D),row[j]?=some x->w.cell? ⟨b,o+j,none⟩=some (U j))/\(∀(j:Nat)(x:D),row[j]?=some x->bp G w (U j) x):=by
 cases h with|o h=>cases h with|c h=>cases h with|k h=>cases h with|e b o _ _ U y z u=>exact⟨b,o,U,rfl,y,z,u⟩
theorem au.QG{v:Value}{id:Nat}(h:au G w ρ v (.os id)):∃a n c,v=.slice a n c/\ρ[id]?=some (.slice a n c):=by
 cases h with|o h=>cases h with|c h=>cases h with|k h=>cases h with|os _ a n c h=>grind
theorem au.ql{v:Value}{id z i off:Nat}(h:au G w ρ v (.q id z i off)):∃b n c,v=.pointer (some ⟨b,i*z+off,none⟩)/\ρ[id]?=some (.slice (some ⟨b,0,none⟩) n c):=by
 cases h with|o h=>cases h with|c h=>cases h with|k h=>cases h with|q _ _ _ _ b n c h=>grind
theorem au.PA{v:Value}{z:Nat}{rows:List (List D)}(h:au G w ρ v (.cl z rows)):∃a n,v=.slice a n n/\bp G w (.slice a n n) (.sl z rows):=by
 cases h with|o h=>cases h with|c h=>cases h with|k h=>cases h with|cl a n _ _ h=>grind
theorem au.Nv{v:Value}{f:Nat}{caps:List V}(h:au G w ρ v (.fc f caps)):∃cs:Array Value,JJ f v cs/\cs.size=caps.length/\∀(i:Nat)(x:V),caps[i]?=some x->dL G w ρ (cs.getD i undef) x:=by
 cases h with
 |o h=>cases h with
  |c h=>cases h with
   |k h=>cases h
   |fc _ _ cs _ y z u=>grind
theorem au.R9{v:Value}{vs:List V}(h:au G w ρ v (.ag vs)):∃cs:Array Value,v=.agg cs/\cs.size=vs.length/\∀(i:Nat)(x:V),vs[i]?=some x->dI G w ρ (cs.getD i undef) x:=by
 cases h with
 |o h=>cases h with
  |c h=>contradiction
  |ag cs _ y z=>grind
theorem au.Uh{v:Value}{vs:List V}(h:au G w ρ v (.tu vs)):∃cs:Array Value,v=.tuple cs/\cs.size=vs.length/\∀(i:Nat)(x:V),vs[i]?=some x->dM G w ρ (cs.getD i undef) x:=by
 cases h with
 |o h=>contradiction
 |tu cs _ y z=>grind
theorem Cr{v:Value}{x:V}(h:au G w ρ v x):au G w ρ v (dv x):=by
 by_cases y:∃z,x=.nl z
 .obtain⟨z,rfl⟩:=y;cases h with|o h=>cases h with|c h=>cases h with|k h=>cases h with|nl=>exact .d (.xg z)
 .have:dv x=x:=by cases x<;>first|rfl|exact absurd ⟨_,rfl⟩ y
  grind
theorem bp.Rp{v:Value}{z:Nat}{rows:List (List D)}(h:bp G w v (.sl z rows)):((∃a,v=.slice a 0 0)/\rows=[])\/∃(b o y:Nat)(U:Nat->Nat->Value),v=.slice (some ⟨b,o,none⟩) rows.length y/\rows.length<=y/\y<=maxLen/\G b /\
  (∀(i:Nat)(row:List D),rows[i]?=some row->row.length=z) /\
  (∀(i:Nat)(row:List D)(j:Nat)(x:D),rows[i]?=some row->row[j]?=some x->w.cell? ⟨b,o+(i*z+j),none⟩=some (U i j)) /\
  (∀(i:Nat)(row:List D)(j:Nat)(x:D),rows[i]?=some row->row[j]?=some x->bp G w (U i j) x):=by
 cases h with
 |xg=>grind
 |sle a=>grind
 |sl b o y z rows U u c d e f g=>exact .inr ⟨b,o,y,U,rfl,u,c,d,e,f,g⟩
theorem bp.len{v:Value}{z:Nat}{rows:List (List D)}(h:bp G w v (.sl z rows)):∃a c,v=.slice a rows.length c/\rows.length<=9223372036854775807:=by
 rcases h.Rp with⟨⟨a,rfl⟩,rfl⟩|⟨b,o,x,U,rfl,u,y,_⟩
 grind
 .exact⟨_,_,rfl,by simp[maxLen]at y;omega⟩
theorem B5{P:Program}{ty:TypeId}{v:Value}{x:V}(h:UU P ty v=some x):dL G w ρ v x/\fA x=true/\(∀cs,v≠.agg cs)/\ij x=[]:=by
 unfold UU at h;split at h<;>first|(cases h;done)|skip
 .cases h;exact⟨.d (.int _ _),rfl,by simp,rfl⟩
 .cases h;exact⟨.d (.bool _),rfl,by simp,rfl⟩
 .split at h<;>cases h;exact⟨.d (.str _ (by simp only[maxLen];omega)),rfl,by simp,rfl⟩
 .cases h;exact⟨.nl _,rfl,by simp,rfl⟩
 .cases h;exact⟨.d .np,rfl,by simp,rfl⟩
 .cases h;exact⟨.d .nf,rfl,by simp,rfl⟩
 .cases h;exact⟨.d .ni,rfl,by simp,rfl⟩
 .cases h;exact⟨.d .nm,rfl,by simp,rfl⟩
end
section
variable{P:Program}{E:gL}{n:Nat}{G:Nat->Prop}{ρ:List Value}{t:T}{h:H}{a:Act}{w:World}{o:Oper}{bV:Act->World->Prop}{Q:Exit->Act->World->Prop}{K KP:V->T->H->Prop}
theorem bG(c:ak E n G ρ t h a w){ty:TypeId}{x:Operand}{ox:O}(u:cX P ty x=some ox):au G w ρ (a.eval x) (gv t ox):=by
 cases x with
 |tmp i=>cases u;exact c.tm i
 |const v=>
  simp only[cX,aG]at u;obtain⟨y,l,rfl⟩:=u;have j:=(B5 (G:=G) (w:=w) (ρ := ρ) l).1
  by_cases b:∃z,y=.nl z
  .obtain⟨z,rfl⟩:=b;cases j;exact .k (.d (.xg z))
  .have:gv t (.k y)=y:=by cases y<;>first|rfl|exact absurd ⟨_,rfl⟩ b
   rw[this];exact .k j
 |func f=>cases u;exact .k (.d (.fn f))
 |global g=>
  cases u;show au G w ρ (.pointer (some ⟨g,0,none⟩)) (match AE UF g with|some row=>.e row 0|none=>.un);cases m:AE UF g with
  |none=>exact .k (.un _)
  |some row=>
   have⟨p,U,q,r⟩:=c.ok.hr.sF g row m;exact .k (.e g 0 0 row U p q r)
theorem Gu(c:ak E n G ρ t h a w){ty:TypeId}{x:Operand}{ox:O}(u:cX P ty x=some ox):au G w ρ (a.eval x) (KL t ox):=by
 have e:=bG c u
 by_cases b:∃z,ox=.k (.nl z)
 .obtain⟨z,rfl⟩:=b;cases x with
  |tmp i=>cases u
  |const v=>
   simp only[cX,aG]at u;have⟨y,d,he⟩:=u;cases he;exact .k (B5 (G:=G) (w:=w) (ρ := ρ) d).1
  |func f=>cases u
  |global g=>cases u
 .have:KL t ox=gv t ox:=by
   cases ox with
   |s i=>rfl
   |g i=>rfl
   |k v=>cases v<;>first|rfl|exact absurd ⟨_,rfl⟩ b
  grind
def iQ(E:gL)(n:Nat)(a:Act)(o:Oper)(K:V->T->H->Prop)(bV:Act->World->Prop):Prop:=
 ∀(v':Value)(w':World)(G':Nat->Prop)(ρ':List Value)(t':T)(x:H)(v:V),ak E n G' ρ' t' x a w'->au G' w' ρ' v' v->K v t' x->bV (a.put o.dst v') w'
theorem dU{v':Value}{w':World}(hr:(execOp a.eval o).run P w=.ok (.value v') w')(h:bV (a.put o.dst v') w'):o.wp P a w bV Q:=by
 unfold Oper.wp;rw[hr];exact h
theorem jZ{w':World}(hr:(execOp a.eval o).run P w=.ok .skip w')(h:bV (a.put o.dst undef) w'):o.wp P a w bV Q:=by
 unfold Oper.wp;rw[hr];exact h
theorem an(x:ak E n G ρ t h a w)(y:iQ E n a o K bV){v':Value}{v:V}(hr:(execOp a.eval o).run P w=.ok (.value v') w)(z:au G w ρ v' v)(u:K v t h):o.wp P a w bV Q:=
 dU hr (y v' w G ρ t h v x z u)
theorem cT{s:Sem Value}{v':Value}{w':World}(hs:s.run P w=.ok v' w'):((do pure (Next.value (<-s))):Sem Next).run P w=.ok (.value v') w':=by
 simp[hs]
theorem N7(z:ak E n G ρ t h a w)(u:iQ E n a o K bV){x:Operand}{ox:O}{ty:TypeId}(y:o.op=.move x\/o.op=.assign x)(v:cX P ty x=some ox)(b:K (gv t ox) t h):o.wp P a w bV Q:=by
 refine an z u (v':=a.eval x) ?_ (bG z v) b;rcases y with y|y<;>simp[execOp,y]
theorem Gf(u:ak E n G ρ t h a w)(v:iQ E n a o K bV){z:Nat}(x:o.op=.move (.const (.slice none 0 0))\/o.op=.assign (.const (.slice none 0 0)))(b:K (.os h.length) t (h++[.rows z []])):o.wp P a w bV Q:=by
 have y:=u.push (gK.refl w) (.slice none 0 0) (.rows z []) (by simp[fO]) (.inl ⟨rfl,rfl⟩);refine an y v (v':=.slice none 0 0) ?_ (.k (.os h.length none 0 0 ?_)) b
 .rcases x with x|x<;>simp[execOp,x,Act.eval]
 .rw[<-u.ok.hr.len];simp
theorem TA(z:ak E n G ρ t h a w)(u:iQ E n a o K bV){c x y:Operand}{v ox oy:O}{t1 t2 t3:TypeId}(e:o.op=.pick c x y)(i:cX P t1 c=some v)(j:cX P t2 x=some ox)(k:cX P t3 y=some oy)
  {b:Bool} (l:gv t v=.d (.bool b)) (f:sp b (K (gv t ox) t h) (K (gv t oy) t h)):o.wp P a w bV Q:=by
 have g:=(l ▸ bG z i).bool;cases b
 .exact an z u (v':=a.eval y) (by simp[execOp,e,g,asBool]) (bG z k) f
 .exact an z u (v':=a.eval x) (by simp[execOp,e,g,asBool]) (bG z j) f
theorem jE{v:Value}{x:V}(d:au G w ρ v x)(hs:x.cs.all fA=true):v.cells.size=x.cs.length/\(∀(i:Nat)(y:V),x.cs[i]?=some y->dI G w ρ (v.cells.getD i undef) y):=by
 by_cases z:∃vs,x=.ag vs
 .obtain⟨vs,rfl⟩:=z;obtain⟨cs,rfl,e,f⟩:=d.R9;exact⟨e,f⟩
 .have u:x.cs=[x]:=by cases x<;>first|rfl|exact absurd ⟨_,rfl⟩ z
  rw[u]at hs⊢;simp only[lA,List.all_nil,dz]at hs;have g:dI G w ρ v x:=by
   cases d with
   |o h=>cases h with
    |c h=>exact h
    |ag cs vs=>grind
   |tu=>contradiction
  have b:v.cells=#[v]:=by
   cases g with
   |k j=>cases j<;>first|rfl|(simp[fA]at hs;done)|exact bp.cells ‹_›|(rename_i hd;cases hd;rfl)
   |fc _ _ _ _ l=>exact vf l
  rw[b];refine⟨rfl,λi y m=>?_⟩;cases i with
  |zero=>simp_all
  |succ i=>grind
theorem Cm{F:Nat}{v:Value}{cs:Array Value}(h:JJ F v cs):v.oneCell'=true:=by
 rcases h with⟨_,rfl⟩|⟨_,⟨f,_,_,rfl⟩|⟨f,_,_,rfl⟩|⟨f,x,_,_,rfl,_⟩⟩<;>rfl
theorem bp.one{G:Nat->Prop}{w:World}{v:Value}{x:D}(h:bp G w v x):v.oneCell'=true:=by
 cases h<;>first|rfl|exact Cm ‹_›
theorem A9{v:Value}{x:V}(y:dI G w ρ v x)(hs:fA x=true):v.oneCell'=true:=by
 cases y with
 |k z=>cases z<;>first|rfl|(simp[fA]at hs;done)|exact bp.one ‹_›|(rename_i hd;cases hd;rfl)
 |fc _ _ _ _ u=>exact Cm u
theorem dI.alloc{v:Value}{x:V}{b:Obj}{hd:Value}(z:HR G w ρ h)(y:dI G w ρ v x):dI G (w.alloc b) (ρ++[hd]) v x:=
 y.mono (λ_ h=>h) (λc u=>(gK.alloc w b).iE c (z.gl c u)) (λi d=>aT (y.lt i d))
theorem Gg(x:ak E n G ρ t h a w)(c:iQ E n a o K bV){ty:TypeId}{arr:Array Value}{cs:List V}(hr:(execOp a.eval o).run P w=.ok (.value (.pointer (some ⟨w.heap.size,0,none⟩))) (w.alloc (.cells arr ty)))
  (hs:arr.size=cs.length) (z:∀(i:Nat)(y:V),cs[i]?=some y->dI G w ρ (arr.getD i undef) y) (d:K (.p h.length 0) t (h++[.cells cs])):o.wp P a w bV Q:=by
 have u:cY G (w.alloc (.cells arr ty)) (ρ++[.pointer (some ⟨w.heap.size,0,none⟩)]) (.pointer (some ⟨w.heap.size,0,none⟩)) (.cells cs):=
  ⟨w.heap.size,arr,ty,rfl,heap_alloc_new w _,hs,λi y e=>(z i y e).alloc x.ok.hr⟩
 have v:=x.push (gK.alloc w (.cells arr ty)) _ _ (by intro b u;simp only[fO,aE]at u;omega) u;refine dU hr (c _ _ _ _ _ _ _ v (.k (.p h.length 0 w.heap.size ?_)) d);rw[<-x.ok.hr.len];simp
theorem T1(y:ak E n G ρ t h a w)(u:iQ E n a o K bV){x:Operand}{ox:O}{ty t1:TypeId}(v:o.op=.box ty x)(b:cX P t1 x=some ox)
  (z:(gv t ox).cs.all fA=true/\K (.p h.length 0) t (h++[.cells (gv t ox).cs])):o.wp P a w bV Q:=by
 have⟨c,d⟩:=jE (bG y b) z.1;refine Gg y u (ty:=ty) (arr:=(a.eval x).cells) ?_ c d z.2;simp[execOp,v,Instr.box,newVar,newRow]
theorem jf{ty:TypeId}{zs:List V}(c:rM P ty=some zs):∃i z,P.info? ty=some i/\i.zero=some z/\z.cells.size=zs.length/\zs.all fA=true/\∀(j:Nat)(x:V),zs[j]?=some x->dL G w ρ (z.cells.getD j undef) x/\ij x=[]:=by
 simp only[rM,aI,aD]at c;have⟨i,e,z,y,d⟩:=c;split at d
 .rename_i f;refine⟨i,z,e,y,?_⟩;have key:∀(l:List Value)(ts:List TypeId)(zs:List V),ts.length=l.length->(l.zip ts).mapM (λp=>UU P p.2 p.1)=some zs->l.length=zs.length/\zs.all fA=true/\∀(j:Nat)(x:V),zs[j]?=some x->dL G w ρ (l.getD j undef) x/\ij x=[]:=by
   intro l
   induction l with
   |nil=>simp_all
   |cons v l g=>
    intro ts zs hl h;cases ts with
    |nil=>grind
    |cons ty ts=>
     simp only[List.zip_cons_cons,iU,aI,aD,jK,aE]at h;obtain⟨x,u,xs,b,rfl⟩:=h;have⟨q,i2,i3⟩:=g ts xs (by grind) b;have r:=B5 (G:=G) (w:=w) (ρ := ρ) u
     grind
  have⟨s,k,m⟩:=key _ _ _ (by grind) d;refine⟨by grind,k,λj x u=>?_⟩;have:=m j x u;simp_all
 grind
theorem T5(u:ak E n G ρ t h a w)(v:iQ E n a o K bV){ty:TypeId}{zs:List V}(b:o.op=.alloc ty)(c:rM P ty=some zs)(d:K (.p h.length 0) t (h++[.cells zs])):o.wp P a w bV Q:=by
 have⟨i,z,e,y,f,_,g⟩:=jf (G:=G) (w:=w) (ρ := ρ) c;refine Gg u v (ty:=ty) (arr:=z.cells) ?_ f (λj x l=>.k (g j x l).1) d;simp[execOp,b,Instr.alloc,zeroValue,typeInfo,e,y,newVar,newRow]
end
section
variable{P:Program}{E:gL}{n:Nat}{G:Nat->Prop}{ρ:List Value}{t:T}{h:H}{a:Act}{w:World}{o:Oper}{bV:Act->World->Prop}{Q:Exit->Act->World->Prop}{K KP:V->T->H->Prop}
theorem ib{ty:TypeId}{b:Bool}(x:kO P ty=some b):(isAgg ty).run P w=.ok b w:=by
 simp only[kO,aG]at x;obtain⟨d,hd,rfl⟩:=x;simp only[isAgg,Sem.run_bind,run_underlying hd,Result.andThen_ok];cases d<;>rfl
theorem tU{ty:TypeId}(hl:uj P ty=some none)(x:Addr):(loadVar ty x).run P w=(load x).run P w:=by
 simp only[uj,aI,aD]at hl;have⟨i,z,b,y,u⟩:=hl;cases b
 .simp[loadVar,ib y]
 grind
theorem tT{ty:TypeId}{k:Nat}(hl:uj P ty=some (some k))(x:Addr)(cs:List Value)(z:cs.length=k)(u:∀(j:Nat)(v:Value),cs[j]?=some v->w.cell? (x.add j)=some v) :
  (loadVar ty x).run P w=.ok (.agg cs.toArray) w:=by
 simp only[uj,aI,aD]at hl;have⟨i,c,b,d,y⟩:=hl;cases b
 grind
 .simp at y;subst y;have:=run_loadCells_list (P:=P) w x cs u;rw[z]at this;simp[loadVar,ib d,sizeOf,typeInfo,c,this]
theorem dx(b off j:Nat):(⟨b,off,none⟩:Addr).add j=⟨b,off+j,none⟩:=by
 unfold Addr.add;grind
theorem dC{b off:Nat}{arr:Array Value}{ty:TypeId}(x:w.heap[b]?=some (.cells arr ty (0,0))):w.cell? ⟨b,off,none⟩=arr[off]?:=by
 simp[World.cell?,x]
theorem w_(d:ak E n G ρ t h a w)(e:iQ E n a o K bV){ty:TypeId}{x:Operand}{b off k:Nat}{U:Nat->Value}{vs:List V}(f:o.op=.load ty x)(g:a.eval x=.pointer (some ⟨b,off,none⟩))(hl:uj P ty=some (some k))
  (u:vs.length=k) (s:∀(j:Nat)(y:V),vs[j]?=some y->w.cell? ⟨b,off+j,none⟩=some (U j)/\dI G w ρ (U j) y) (l:K (.ag vs) t h):o.wp P a w bV Q:=by
 have z:(loadVar ty ⟨b,off,none⟩).run P w=.ok (.agg ((List.range vs.length).map U).toArray) w:=by
  refine tT hl _ _ (by grind) (λj v c=>?_);rw[dx];simp only[aB,aG]at c;obtain⟨A,m,rfl⟩:=c;have p:j<vs.length:=by
   grind
  simp_all
 refine an d e (v':=.agg ((List.range vs.length).map U).toArray) ?_ (.o (.ag _ vs (by simp) (λi y q=>?_))) l
 .simp[execOp,f,g,Instr.loadAt,Instr.sureAddr,z]
 .have r:i<vs.length:=(aC.1 q).1;simp_all
theorem wz(z:ak E n G ρ t h a w)(u:iQ E n a o K bV){ty:TypeId}{x:Operand}{y:Addr}{v':Value}{v:V}(b:o.op=.load ty x)(d:a.eval x=.pointer (some y))(hl:uj P ty=some none)
  (e:w.cell? y=some v') (f:dI G w ρ v' v) (g:K v t h):o.wp P a w bV Q:=by
 refine an z u (v':=v') ?_ (.c f) g;simp[execOp,b,d,Instr.loadAt,Instr.sureAddr,tU hl,e]
theorem kH{i j:Nat}(h:Nat.beq i j=true):i=j:=eH h
theorem j9{hd:Value}{z:Nat}{rs:List (List D)}(hr:cY G w ρ hd (.rows z rs)){i:Nat}{row:List D}(v:rs[i]?=some row) :
  ∃b y arr ty,hd=.slice (some ⟨b,0,none⟩) rs.length y/\w.heap[b]?=some (.cells arr ty (0,0))/\row.length=z/\i*z+z<=arr.size /\
   ∀(j:Nat)(x:D),row[j]?=some x->w.cell? ⟨b,i*z+j,none⟩=some (arr.getD (i*z+j) undef)/\bp G w (arr.getD (i*z+j) undef) x:=by
 rcases hr with⟨_,rfl⟩|⟨b,y,arr,ty,rfl,c,p,q,e,f⟩
 grind
 .have⟨g,k⟩:=f i row v;have l:i<rs.length:=(aC.1 v).1;have u:i*z+z<=arr.size:=by
   rw[e];have:(i+1)*z<=y*z:=bB _ (by omega)
   grind
  refine⟨b,y,arr,ty,rfl,c,g,u,λj x d=>⟨?_,k j x d⟩⟩;have m:j<row.length:=(aC.1 d).1;rw[dC c,aF,aN (by omega)];rfl
section
variable(S:Nat->List V->H->(Out->H->Prop)->Prop)(ow:Nat->Bool)
theorem TN(g:ak E n G ρ t h a w)(s:iQ E n a o K bV){ty t1:TypeId}{x:Operand}{ox:O}{m:Option Nat}(A:o.op=.load ty x)(hx:cX P t1 x=some ox)(hl:uj P ty=some m)
  (u:bq S ow (.ld ox m) t h K KP):o.wp P a w bV Q:=by
 have D:=bG g hx;simp only[bq]at u;split at u
 .skip
  rename_i id off F;rw[F]at D;obtain⟨b,p,N⟩:=D.pt;rw[get?_eq]at u;split at u
  .rename_i cs R;obtain⟨Y,arr,ty',r,I,Z,B⟩:=g.ok.hr.rep id _ _ N R;simp only[Value.pointer.injEq,aE,Addr.mk.injEq,ω]at r;obtain⟨rfl,_⟩:=r;cases m with
   |none=>
    simp only[get?_eq]at u;split at u
    .rename_i v e;have q:off<arr.size:=by grind
     refine wz g s A p hl (v':=arr[off]) (by rw[dC I];grind) ?_ u;have:=B off v e;simpa[aF,q]using this
    grind
   |some k=>
    simp only[bf]at u;have f:=kH u.1;refine w_ g s A p hl (U:=λj=>arr.getD (off+j) undef) f (λj y l=>?_) u.2;have J:j<k:=by grind
    rw[ao,ζ J,bF]at l;have q:off+j<arr.size:=by grind
    refine⟨?_,B (off+j) y l⟩;rw[dC I,aF,aN q];rfl
  grind
 .skip
  rename_i row off F;rw[F]at D;obtain⟨b,oo,U,p,hGb,hU,hD⟩:=D.el;cases m with
  |none=>
   simp only[get?_eq]at u;split at u
   .rename_i v e;exact wz g s A p hl (hU off v e) (.k (.d (hD off v e))) u
   grind
  |some k=>
   simp only[bf]at u;have f:=kH u.1;refine w_ g s A p hl (U:=λj=>U (off+j)) f (λj y l=>?_) u.2;have J:j<k:=by grind
   rw[aB,ao,ζ J,bF]at l;cases hr:row[off+j]? with
   |none=>grind
   |some y0=>
    rw[hr]at l;cases l;exact⟨by grind,.k (.d (hD _ _ hr))⟩
 .skip
  rename_i id z i off F;rw[F]at D;obtain⟨b,nn,c,p,N⟩:=D.ql;rw[get?_eq]at u;split at u
  .rename_i z' rs C;obtain⟨W,row,L,u⟩:=u;obtain rfl:=kH W;obtain⟨Y,M,arr,ty',r,I,Z,X,B⟩:=j9 (g.ok.hr.rep id _ _ N C) L;simp only[Value.slice.injEq,aE,Addr.mk.injEq,ω]at r;obtain⟨rfl,_,_⟩:=r;cases m with
   |none=>
    simp only[get?_eq]at u;split at u
    .rename_i v e;exact wz g s A p hl (B off v e).1 (.k (.d (B off v e).2)) u
    grind
   |some k=>
    simp only[bf]at u;have f:=kH u.1;refine w_ g s A p hl (U:=λj=>arr.getD (i*z+(off+j)) undef) f (λj y l=>?_) u.2;have J:j<k:=by grind
    rw[aB,ao,ζ J,bF]at l;cases hr:row[off+j]? with
    |none=>grind
    |some y0=>
     rw[hr]at l;cases l;exact⟨by grind,.k (.d (B _ _ hr).2)⟩
  .rename_i z' rs i' row C;obtain⟨⟨W,rfl⟩,u⟩:=u;obtain rfl:=kH W;obtain⟨Y,M,arr,ty',r,I,Z,B,h4,⟨h0,hrz⟩,h5,h6⟩:=g.ok.hr.rep id _ _ N C;simp only[Value.slice.injEq,aE,Addr.mk.injEq,ω]at r;obtain⟨rfl,_,_⟩:=r;cases m with
   |none=>
    simp only[get?_eq]at u;split at u
    .rename_i v e;have q:off<row.length:=(aC.1 e).1;have X:i*z+z<=arr.size:=by
      rw[h4];have:(i+1)*z<=M*z:=bB _ (by omega)
      grind
     refine wz g s A p hl (v':=arr.getD (i*z+off) undef) ?_ (h6 off v e) u;rw[dC I,aF,aN (by omega)];rfl
    grind
   |some k=>grind
  grind
 grind
theorem TU(j:ak E n G ρ t h a w)(m:iQ E n a o K bV){ty t1:TypeId}{x:Operand}{f:Nat}{fs:Array Field}{fd:Field}{ox:O}(D:o.op=.fieldAddr ty x f)(F:P.underlying ty=some (.struct fs))(I:fs[f]?=some fd)
  (l:P.cellsOf fd.type≠0) (J:cX P t1 x=some ox) (u:bq S ow (.fa ox fd.offset) t h K KP):o.wp P a w bV Q:=by
 have v:=bG j J;have y:∀r:Addr,a.eval x=.pointer (some r)->(execOp a.eval o).run P w=.ok (.value (.pointer (some (r.add fd.offset)))) w:=by
  intro r s;unfold Program.cellsOf at l;cases C:P.info? fd.type with
  |none=>grind
  |some i=>
   rw[C]at l;simp at l;simp[execOp,D,s,Instr.fieldAt,run_underlying F,I,Instr.sureAddr,fieldPlace,sizeOf,typeInfo,C,l]
 simp only[bq]at u;split at u
 .rename_i id off d;rw[d]at v;have⟨b,g,A⟩:=v.pt;rw[cZ]at u;refine an j m (y _ g) ?_ u;rw[dx];exact .k (.p id _ b A)
 .rename_i row off d;rw[d]at v;have⟨b,oo,U,g,B,L,M⟩:=v.el;rw[cZ]at u;refine an j m (y _ g) ?_ u;rw[dx,jI];exact .k (.e b oo _ row U B L M)
 .rename_i id z i off d;rw[d]at v;have⟨b,N,c,g,A⟩:=v.ql;rw[cZ]at u;refine an j m (y _ g) ?_ u;rw[dx,jI];exact .k (.q id z i _ b N c A)
 grind
theorem TT(f:ak E n G ρ t h a w)(L:iQ E n a o K bV){ty e t1 t2:TypeId}{x i:Operand}{ox M:O}(ho:o.op=.indexAddr ty x i)(hu:P.underlying ty=some (.slice e))(A:P.cellsOf e≠0)(hx:cX P t1 x=some ox)(hi:cX P t2 i=some M)
  (z:bq S ow (.ia ox M (P.cellsOf e)) t h K KP):o.wp P a w bV Q:=by
 have y:=bG f hx;have g:=bG f hi;have v:∀(b off len u:Nat)(k:IntKind)(m:Int),a.eval x=.slice (some ⟨b,off,none⟩) len u->a.eval i=.int k m->0<=m->m<len ->
   (execOp a.eval o).run P w=.ok (.value (.pointer (some ⟨b,off+m.toNat*P.cellsOf e,none⟩))) w:=by
  intro b off len u k m N R W h4;unfold Program.cellsOf at A⊢;cases B:P.info? e with
  |none=>grind
  |some ie=>
   simp[execOp,ho,N,R,Instr.indexAt,asIntOf,run_underlying hu,W,h4,sizeOf,typeInfo,B,dx]
 simp only[bq]at z;split at z
 .rename_i k m C;rw[C]at g;have l:=g.int;have data:∀(d:Nat)(rows:List (List D)),bp G w (a.eval x) (.sl d rows)->(∃row,(0<=m/\rows[m.toNat]?=some row/\Nat.beq d (P.cellsOf e)=true)/\K (.e row 0) t h)->o.wp P a w bV Q:=by
   rintro d rows X ⟨row,⟨F,hr,I⟩,z⟩
   obtain rfl:=kH I;have p:m.toNat<rows.length:=(aC.1 hr).1;rcases X.Rp with⟨_,rfl⟩|⟨b,oo,u,U,s,g1,g2,g3,g4,g5,g6⟩
   grind
   .refine an f L (v b oo rows.length u k m s l F (by omega)) ?_ z;exact .k (.e b (oo+m.toNat*P.cellsOf e) 0 row (λj=>U m.toNat j) g3 (λj x Y=>by grind) (λj x Y=>g6 _ _ _ _ hr Y))
  split at z
  .rename_i d rows hgx;rw[hgx]at y;exact data d rows y.qu z
  .rename_i d rows hgx;rw[hgx]at y;obtain⟨ad,nn,s,X⟩:=y.PA
   grind
  .rename_i id hgx;rw[hgx]at y;obtain⟨ad,nn,c,s,Z⟩:=y.QG;rw[get?_eq]at z;split at z
   .rename_i d rs J;obtain⟨⟨F,p,I⟩,z⟩:=z;obtain rfl:=kH I;have r:m.toNat<rs.length:=by omega
    obtain⟨b',u,arr,ty',hb,N,R,hle,W⟩:=j9 (f.ok.hr.rep id _ _ Z J) (aA r);simp only[Value.slice.injEq]at hb;obtain⟨rfl,rfl,rfl⟩:=hb;refine an f L (v b' 0 rs.length c k m s l F p) ?_ z;rw[cF];exact .k (.q id _ _ 0 b' _ _ Z)
   grind
  grind
 grind
end
end
theorem j4{α:Type}:∀(cs:List α)(off:Nat)(vs:List α),(lay cs off vs).length=cs.length
 |cs,0,[]=>by cases cs<;>rfl
 |_::r,0,v::vs=>by simp[lay,j4 r 0 vs]
 |[],0,_::_=>rfl
 |[],_+1,_=>rfl
 |c::r,n+1,vs=>by simp[lay,j4 r n vs]
theorem nr{α:Type}:∀(cs:List α)(off:Nat)(vs:List α)(i:Nat),(lay cs off vs)[i]?=if i<off then cs[i]? else if i-off<vs.length/\i<cs.length then vs[i-off]? else cs[i]?
 |cs,0,[],i=>by cases cs<;>simp[lay]
 |c::r,0,v::vs,i=>by
  cases i with
  |zero=>rfl
  |succ i=>
   have:=nr r 0 vs i;simp only[lay,eY,this];simp
 |[],0,_::_,i=>by simp[lay]
 |[],n+1,_,i=>by simp[lay]
 |c::r,n+1,vs,i=>by
  cases i with
  |zero=>rfl
  |succ i=>
   have:=nr r n vs i;simp only[lay,eY,this]
   grind
theorem mh{α:Type}{l:List α}{i:Nat}{x:α}(h:l[i]?=some x):l.set i x=l:=by
 apply cR
 grind
section
variable{E:gL}{G:Nat->Prop}{w w':World}{ρ:List Value}{h:H}{n:Nat}{t:T}{a:Act}
theorem ak.sP(x:ak E n G ρ t h a w){id:Nat}{v0:Value}{x0 x1:B}(c:ρ[id]?=some v0)(g:h[id]?=some x0)(k:x0≠.no)(hs:w.heap.size<=w'.heap.size)
  (same:∀b,b<w.heap.size->b∉eU v0 x0->w'.heap[b]?=w.heap[b]?) (m:w'.os=w.os) (p:w'.tape=w.tape) (d:w'.output=w.output)
  (new:cY G w' ρ v0 x1) (f:∀b∈gh x1,b∈eU v0 x0\/w.heap.size<=b):ak E n G ρ t (h.set id x1) a w':=by
 have z:=mh c;have l:=x.ok.SL (v1:=v0) (x1:=x1) (w':=w') c g k hs same m p d (by grind) (λb u=>(bR.1 u).elim (λh=>.inl (bR.2 (.inl h))) (f b)) (λ_=>rfl) h rfl
  (λj y q s=>⟨y,q,Iff.rfl,rfl,λv r hr=>by grind⟩)
 rw[z]at l;exact⟨l,x.df,x.sz,λi=>(x.tm i).mono (λ_ h=>h) (λb u=>same b (x.ok.hr.gl b u) (λe=>x.ok.hr.gd b u ⟨id,v0,x0,c,g,k,e⟩)) (λ_ _=>rfl)⟩
theorem ak.F3(z:ak E n G ρ t h a w){id:Nat}{v0:Value}{x0 x1:B}(u:ρ[id]?=some v0)(v:h[id]?=some x0)(c:x0≠.no)(hs:w'.heap.size=w.heap.size)
  (same:∀b,fO v0≠some b->w'.heap[b]?=w.heap[b]?) (d:w'.os=w.os) (f:w'.tape=w.tape) (x:w'.output=w.output)
  (new:cY G w' ρ v0 x1) (g:gh x1=[]:=by rfl):ak E n G ρ t (h.set id x1) a w':=
 z.sP u v c (by omega) (λb _ y=>same b λe=>y (bR.2 (.inl e))) d f x new (λb y=>by grind)
theorem ak.PW(hC:ak E n G ρ t h a w){id:Nat}{v0 v1:Value}{x0 x1:B}(hv:ρ[id]?=some v0)(hx:h[id]?=some x0)(hn:x0≠.no)(hsl:kN v0=true)(hs:w.heap.size<=w'.heap.size)
  (same:∀b,b<w.heap.size->fO v0≠some b->w'.heap[b]?=w.heap[b]?) (ho:w'.os=w.os) (ht:w'.tape=w.tape) (hou:w'.output=w.output)
  (new:cY G w' (ρ.set id v1) v1 x1) (hb1:∀b,fO v1=some b->fO v0=some b\/w.heap.size<=b) (hgh:gh x1=[]:=by rfl) :
  ak E n G (ρ.set id v1) (ju id t) ((h.map (gV id)).set id x1) a w':=by
 have hO:=hC.ok.XW (v1:=v1) (x1:=x1) (w':=w') hv hx hn hs same ho ht hou new hb1 (λe=>by grind) (h.map (gV id)) (by simp)
  (λj y hy hj=>by
   rw[aB]at hy;cases hj':h[j]? with
   |none=>grind
   |some y0=>
    rw[hj']at hy;cases hy;exact⟨y0,rfl,by cases y0<;>simp[gV],ny _ _,λv hv' hr=>hr.tX hv hsl⟩) (λb hb=>by grind)
 refine⟨hO,hC.df,hC.sz,λi=>?_⟩;rw[ju,q6 _ rfl];exact((hC.tm i).tX (v1:=v1) hv hsl).mono (λ_ h=>h) (λb hb=>same b (hC.ok.hr.gl b hb) (λe=>hC.ok.hr.gd b hb ⟨id,v0,x0,hv,hx,hn,bR.2 (.inl e)⟩)) (λ_ _=>rfl)
theorem zI{G:Nat->Prop}{w:World}{ρ:List Value}:∀{c:List V}{ds:List D}{U:Nat->Value},vp c=some ds->(∀(i:Nat)(x:V),c[i]?=some x->dL G w ρ (U i) x)->ds.length=c.length/\∀(i:Nat)(x:D),ds[i]?=some x->bp G w (U i) x
 |[],ds,U,h,_=>by cases h;grind
 |x::r,ds,U,h,hr=>by
  unfold vp at h;split at h
  .rename_i a b j k;cases h;have⟨v,f⟩:=zI (U:=λi=>U (i+1)) k λi x l=>hr (i+1) x l;refine⟨by grind,λi y g=>?_⟩;cases i with
   |succ i=>grind
   |zero=>
    simp at g;subst g;have z:=hr 0 x rfl;show bp G w (U 0) a;generalize U 0=u at z;cases x<;>cases j
    .cases z with|d h=>exact h
    .cases z with|e b o _ _ m v f p=>exact .pt b o _ _ m v f p
  grind
theorem BO{K:List D->T->H->Prop}:∀(vs:List V)(G:Nat->Prop)(t:T)(h:H)(U:Nat->Value),ak E n G ρ t h a w->(∀(i:Nat)(x:V),vs[i]?=some x->dI G w ρ (U i) x)->BP vs t h K ->
  ∃(G':Nat->Prop)(t':T)(l:H)(ds:List D),ak E n G' ρ t' l a w/\(∀b,G b->G' b)/\ds.length=vs.length/\(∀(i:Nat)(d:D),ds[i]?=some d->bp G' w (U i) d)/\K ds t' l:=by
 intro vs
 induction vs generalizing K with
 |nil=>intro G t h U m _ g;exact⟨G,t,h,[],m,λ_ h=>h,rfl,by simp,g⟩
 |cons v vs M=>
  intro G t h U m J g;have r:=J 0 v rfl;have go:∀(d:D)(s:Nat->Prop)(t1:T)(j:H),ak E n s ρ t1 j a w->(∀b,G b->s b)->bp s w (U 0) d->BP vs t1 j (λxs t h=>K (d::xs) t h) ->
    ∃(G':Nat->Prop)(t':T)(l:H)(ds:List D),ak E n G' ρ t' l a w/\(∀b,G b->G' b)/\ds.length=(v::vs).length/\(∀(i:Nat)(d:D),ds[i]?=some d->bp G' w (U i) d)/\K ds t' l:=by
   intro d s t1 j B A hd C;have⟨G',t',l,ds,g1,L,g3,g4,N⟩:=M s t1 j (λi=>U (i+1)) B (λi x F=>(J (i+1) x (by grind)).mono A (λ_ _=>rfl) (λ_ _=>rfl)) C;refine⟨G',t',l,d::ds,g1,λb O=>L b (A b O),by grind,λi y F=>?_,N⟩;cases i with
   |zero=>simp at F;subst F;exact hd.mono L (λ_ _=>rfl)
   |succ i=>grind
  cases v with
  |d x=>
   exact go x G t h m (λ_ h=>h) (au.c r).qu g
  |cl z rs=>
   have:bp G w (U 0) (.sl z rs):=by
    have:=(au.c r).PA
    grind
   exact go _ G t h m (λ_ h=>h) this g
  |fc f caps=>
   cases caps with
   |nil=>
    have:bp G w (U 0) (.fn f):=by
     have⟨cs,j,I,_⟩:=(au.c r).Nv;rw[xL j (by grind)];exact .fn f
    exact go _ G t h m (λ_ h=>h) this g
   |cons c cs=>
    simp only[iP,tv]at g;split at g
    .rename_i ds R;have:bp G w (U 0) (.fc f ds):=by
      generalize U 0=u at r;cases r with
      |k h=>cases h
      |fc _ _ as _ j I W=>
       have⟨X,Y⟩:=zI R (U:=λi=>as.getD i undef) W;exact .fc f _ as ds j (I.trans X.symm) Y
     grind
    grind
  |os id=>
   simp only[iP,tv,get?_eq]at g;split at g
   .rename_i z rs Z;simp only[jR,f_]at g;have⟨v0,hv0,hd,hC'⟩:=m.free Z;have⟨a',n',c',j,I⟩:=(au.c r).QG
    grind
   grind
  |un|ud|ag _|tu _|p _ _|e _ _|q _ _ _ _|nl _|mp _|ov _ _ _|it _ _=>exact g.elim
end
section
variable{P:Program}{E:gL}{n:Nat}{G:Nat->Prop}{ρ:List Value}{t:T}{h:H}{a:Act}{w:World}{o:Oper}{bV:Act->World->Prop}{Q:Exit->Act->World->Prop}{K KP:V->T->H->Prop}
variable(S:Nat->List V->H->(Out->H->Prop)->Prop)(ow:Nat->Bool)
theorem AV{ty ty':TypeId}{b off m:Nat}{arr:Array Value}{v:Value}(z:w.heap[b]?=some (.cells arr ty' (0,0)))(x:(P.info? ty).map (·.size)=some m)(hs:v.cells.size=m)(c:off+m<=arr.size)(d:∀u∈v.cells.toList,u.oneCell'=true) :
  (storeVar ty ⟨b,off,none⟩ v).run P w=.ok () (w.setRow b (arr.toList.take off++v.cells.toList++arr.toList.drop (off+m)).toArray):=by
 cases y:P.info? ty with
 |none=>grind
 |some i=>
  rw[y]at x;simp at x;have:=run_storeCells_at (P:=P) b off ty' v.cells.toList 0 arr w z (by grind) d;simp only[eQ,dW,hs]at this;simp[storeVar,sizeOf,typeInfo,y,x,hs,this]
theorem nh{arr:Array Value}{off m:Nat}{x:List Value}(z:x.length=m)(y:off+m<=arr.size)(i:Nat):(arr.toList.take off++x++arr.toList.drop (off+m)).toArray.getD i undef=if off<=i/\i<off+m then x.getD (i-off) undef else arr.getD i undef:=by
 simp only[aF,fJ,a8]
 by_cases u:i<off
 grind
 grind
theorem Sv (hC:ak E n G ρ t h a w) (hn:iQ E n a o K bV) {ty t1 t2:TypeId} {x v:Operand} {ox ov:O} {m:Nat} (ho:o.op = .store ty x v) (hx:cX P t1 x=some ox) (hv:cX P t2 v=some ov) (hm:(P.info? ty).map (·.size)=some m)
    (hk:bq S ow (.st ox ov m) t h K KP):o.wp P a w bV Q:=by
  have hvx:=bG hC hx
  have hvv:=bG hC hv
  simp only[bq]at hk
  split at hk
  · rename_i id off hg
    rw[hg]at hvx
    obtain⟨b,hp,hρ⟩:=hvx.pt
    rw[get?_eq]at hk
    split at hk
    · rename_i cs hcs
      simp only[bf]at hk
      obtain⟨⟨hl,hle,hst⟩,hk⟩:=hk
      have hl:=kH hl
      have hle:=bA hle
      obtain⟨c1,c2⟩:=jE hvv hst
      obtain⟨b',arr,ty',hb,h1,h2,h3⟩:=hC.ok.hr.rep id _ _ hρ hcs
      simp only[Value.pointer.injEq,aE,Addr.mk.injEq,ω]at hb
      obtain⟨rfl,_⟩:=hb
      have hone:∀u∈(a.eval v).cells.toList,u.oneCell'=true:=by
        intro u hu
        obtain⟨j,hj⟩:=aj.1 hu
        have hjl:j<(gv t ov).cs.length:=by
          grind
        have hr:=c2 j _ (aA hjl)
        have he:(a.eval v).cells.getD j undef=u:=by
          simp_all
        rw[he]at hr
        exact A9 hr (aS.1 hst _ (cP hjl))
      have hrun:=AV (P:=P) (ty:=ty) (off:=off) (v:=a.eval v) h1 hm (by grind) (by omega) hone
      have hlt:b<w.heap.size:=(aQ.1 h1).1
      have hC':=hC.F3 (w':=w.setRow b (arr.toList.take off++(a.eval v).cells.toList++arr.toList.drop (off+m)).toArray) (x1:=.cells (lay cs off (gv t ov).cs)) hρ hcs (by simp) (by simp)
        (λc hc=>setRow_other w b c _ (by simp only[fO,ne_eq,aE]at hc;omega)) rfl rfl rfl
        ⟨b,_,ty',rfl,setRow_heap w b arr _ ty' _ h1,by simp[j4,c1,hl];omega,λi y hi=>by
          rw[nh (by grind) (by omega)]
          rw[nr]at hi
          have hs':∀c,G c->(w.setRow b (arr.toList.take off++(a.eval v).cells.toList++arr.toList.drop (off+m)).toArray).heap[c]?=w.heap[c]?:=λc hc=>setRow_other w b c _ (λe=>by
            subst e;exact hC.ok.hr.gd c hc ⟨id,_,_,hρ,hcs,by simp,bR.2 (.inl rfl)⟩)
          by_cases hio:i<off
          · rw[ζ hio]at hi
            rw[η (by omega)]
            exact(h3 i y hi).mono (λ_ h=>h) hs' (λ_ _=>rfl)
          · rw[η hio]at hi
            by_cases him:i<off+m
            · rw[ζ ⟨by omega,by omega⟩]at hi
              rw[ζ ⟨by omega,him⟩]
              have:=c2 _ y hi
              rw[aF,<-bt]at this
              rw[a8]
              exact this.mono (λ_ h=>h) hs' (λ_ _=>rfl)
            · rw[η (by omega)]at hi
              rw[η (by omega)]
              exact(h3 i y hi).mono (λ_ h=>h) hs' (λ_ _=>rfl)⟩
      refine jZ ?_ (hn undef _ _ _ _ _ _ hC' (.k .ud) hk)
      simp[execOp,ho,hp,Instr.storeAt,Instr.sureAddr,hrun]
    grind
  · rename_i id z i off hg
    rw[hg]at hvx
    obtain⟨b,nn,c,hp,hρ⟩:=hvx.ql
    have hk2:(∃j,gv t ov=.os j/\stx id z i off m j h λh=>K .ud t h)\/Ui id z i off m (gv t ov).cs t h λt h=>K .ud t h:=by
      cases hgv:gv t ov with
      |os j=>rw[hgv]at hk;exact(Pj hk).imp (λh=>⟨_,rfl,h⟩) (λh=>h)
      |_=>rw[hgv]at hk;exact .inr hk
    clear hk
    rcases hk2 with⟨j,hj,hk⟩|hk
    · skip
      rw[hj]at hvv
      obtain⟨aa,n2,c2,hval,hρj⟩:=hvv.QG
      unfold stx at hk
      rw[get?_eq]at hk
      split at hk
      · rename_i z' rs hrs
        obtain⟨row,hrow,⟨hz,hl,hle⟩,hk⟩:=hk
        simp only[pC,bf]at hk
        obtain rfl:=kH hz
        obtain rfl:=kH hl
        have hle:=bA hle
        have jb:(a.eval v).cells=#[.slice aa n2 c2]:=by rw[hval];rfl
        obtain⟨b',cap,arr,ty',hb,h1,hrz,hle2,h3⟩:=j9 (hC.ok.hr.rep id _ _ hρ hrs) hrow
        simp only[Value.slice.injEq,aE,Addr.mk.injEq,ω]at hb
        obtain⟨rfl,rfl,rfl⟩:=hb
        have hone:∀u∈(a.eval v).cells.toList,u.oneCell'=true:=by
          intro u hu
          rw[jb]at hu
          simp only[aL]at hu
          rw[hu]
          rfl
        have hrun:=AV (P:=P) (ty:=ty) (off:=i*z+off) (v:=a.eval v) h1 hm (by grind) (by omega) hone
        rcases hC.ok.hr.rep id _ _ hρ hrs with⟨he,_⟩|⟨b2,cap2,arr2,ty2,he,k1,k2,k3,k4,k5⟩
        grind
        · simp only[Value.slice.injEq,aE,Addr.mk.injEq,ω]at he
          obtain⟨rfl,_,rfl⟩:=he
          rw[h1]at k1
          simp only[aE,Obj.cells.injEq,ω]at k1
          obtain⟨rfl,rfl⟩:=k1
          have hil:i<rs.length:=(aC.1 hrow).1
          have hs':∀b3,G b3->(w.setRow b (arr.toList.take (i*z+off)++(a.eval v).cells.toList++arr.toList.drop (i*z+off+1)).toArray).heap[b3]?=w.heap[b3]?:=λb3 hc=>setRow_other w b b3 _ (λe=>by
            subst e;exact hC.ok.hr.gd _ hc ⟨id,_,_,hρ,hrs,by simp,bR.2 (.inl rfl)⟩)
          have hC2:=hC.F3 (w':=w.setRow b (arr.toList.take (i*z+off)++(a.eval v).cells.toList++arr.toList.drop (i*z+off+1)).toArray) (x1:=.rx z rs i (lay (row.map .d) off [V.os j])) hρ hrs (by simp) (by simp)
            (λc hc=>setRow_other w b c _ (by simp only[fO,ne_eq,aE]at hc;omega)) rfl rfl rfl
            ⟨b,c,_,ty',rfl,setRow_heap w b arr _ ty' _ h1,k2,k3,by
              grind,
              ⟨hil,by rw[j4,aH,hrz]⟩,λi' row' hi' hne=>by
              refine⟨(k5 i' row' hi').1,λjj x hj'=>?_⟩
              have hrl:=(k5 i' row' hi').1
              have hjl:jj<z:=by grind
              rw[nh (m:=1) (by grind) (by omega)]
              rw [η (by
                intro hh
                rcases Nat.lt_or_gt_of_ne (λe=>hne e:i'≠i)with hlt|hgt
                · have:(i'+1)*z<=i*z:=bB _ hlt
                  grind
                · have:(i+1)*z<=i'*z:=bB _ hgt
                  grind)]
              exact((k5 i' row' hi').2 jj x hj').mono (λ_ h=>h) hs',λjj x hj'=>by
              rw[nh (m:=1) (by grind) (by omega)]
              rw[nr]at hj'
              by_cases hjo:jj<off
              · rw[ζ hjo,aB]at hj'
                rw[η (by omega)]
                cases hr:row[jj]? with
                |none=>grind
                |some x0=>rw[hr]at hj';cases hj';exact .k (.d ((h3 jj x0 hr).2.mono (λ_ h=>h) hs'))
              · rw[η hjo]at hj'
                by_cases hjm:jj<off+1
                · rw[ζ ⟨by grind,by grind⟩]at hj'
                  rw[ζ ⟨by omega,by omega⟩]
                  obtain rfl:jj=off:=by omega
                  simp only[qm,gE,aE]at hj'
                  subst hj'
                  rw[jb]
                  simp only[qm]
                  exact .k (.os j aa n2 c2 hρj)
                · rw[η (by grind),aB]at hj'
                  rw[η (by omega)]
                  cases hr:row[jj]? with
                  |none=>grind
                  |some x0=>rw[hr]at hj';cases hj';exact .k (.d ((h3 jj x0 hr).2.mono (λ_ h=>h) hs'))⟩
          refine jZ ?_ (hn undef _ _ _ _ _ _ hC2 (.k .ud) hk)
          simp[execOp,ho,hp,Instr.storeAt,Instr.sureAddr,hrun]
      grind
    unfold Ui at hk
    by_cases hst:(gv t ov).cs.all fA=true
    · obtain ⟨c1, c2⟩ := jE hvv hst
      obtain⟨G',t',h',ds,hC1,hG',hdl,hds,hk⟩:=BO (gv t ov).cs G t h (λi=>(a.eval v).cells.getD i undef) hC c2 hk
      rw[get?_eq]at hk
      split at hk
      · rename_i z' rs hrs
        simp only[bf]at hk
        obtain⟨row,hrow,⟨hz,hl,hle⟩,hk⟩:=hk
        obtain rfl:=kH hz
        have hl:=kH hl
        have hle:=bA hle
        obtain⟨b',cap,arr,ty',hb,h1,hrz,hle2,h3⟩:=j9 (hC1.ok.hr.rep id _ _ hρ hrs) hrow
        simp only[Value.slice.injEq,aE,Addr.mk.injEq,ω]at hb
        obtain⟨rfl,rfl,rfl⟩:=hb
        have hone:∀u∈(a.eval v).cells.toList,u.oneCell'=true:=by
          intro u hu
          obtain⟨j,hj⟩:=aj.1 hu
          have hjl:j<(gv t ov).cs.length:=by
            grind
          have hr:=c2 j _ (aA hjl)
          have he:(a.eval v).cells.getD j undef=u:=by
            simp_all
          rw[he]at hr
          exact A9 hr (aS.1 hst _ (cP hjl))
        have hrun:=AV (P:=P) (ty:=ty) (off:=i*z+off) (v:=a.eval v) h1 hm (by grind) (by omega) hone
        have hrep:=hC1.ok.hr.rep id _ _ hρ hrs
        rcases hrep with⟨he,_⟩|⟨b2,cap2,arr2,ty2,he,k1,k2,k3,k4,k5⟩
        grind
        · simp only[Value.slice.injEq,aE,Addr.mk.injEq,ω]at he
          obtain⟨rfl,_,rfl⟩:=he
          rw[h1]at k1
          simp only[aE,Obj.cells.injEq,ω]at k1
          obtain⟨rfl,rfl⟩:=k1
          have hil:i<rs.length:=(aC.1 hrow).1
          have hC2:=hC1.F3 (w':=w.setRow b (arr.toList.take (i*z+off)++(a.eval v).cells.toList++arr.toList.drop (i*z+off+m)).toArray) (x1:=.rows z (rs.set i (lay row off ds))) hρ hrs (by simp) (by simp)
            (λc hc=>setRow_other w b c _ (by simp only[fO,ne_eq,aE]at hc;omega)) rfl rfl rfl
            (.inr ⟨b,c,_,ty',by simp,setRow_heap w b arr _ ty' _ h1,by grind,k3,by
              grind,λi' row' hi'=>by
              have hs':∀c,G' c->(w.setRow b (arr.toList.take (i*z+off)++(a.eval v).cells.toList++arr.toList.drop (i*z+off+m)).toArray).heap[c]?=w.heap[c]?:=λc hc=>setRow_other w b c _ (λe=>by
                subst e;exact hC1.ok.hr.gd c hc ⟨id,_,_,hρ,hrs,by simp,bR.2 (.inl rfl)⟩)
              rw[dE]at hi'
              split at hi'
              · rename_i hii
                subst hii
                cases hi'
                refine⟨by rw[j4,hrz],λj x hj=>?_⟩
                rw[nh (by grind) (by omega)]
                rw[nr]at hj
                by_cases hjo:j<off
                · rw[ζ hjo]at hj
                  rw[η (by omega)]
                  exact(h3 j x hj).2.mono (λ_ h=>h) hs'
                · rw[η hjo]at hj
                  by_cases hjm:j<off+m
                  · rw[ζ ⟨by omega,by omega⟩]at hj
                    rw[ζ ⟨by omega,by omega⟩]
                    have:=hds _ x hj
                    rw[show i*z+j-(i*z+off)=j-off by omega]
                    rw[aF,<-bt]at this
                    rw[a8]
                    exact this.mono (λ_ h=>h) hs'
                  · rw[η (by omega)]at hj
                    rw[η (by omega)]
                    exact(h3 j x hj).2.mono (λ_ h=>h) hs'
              · rename_i hii
                refine⟨(k5 i' row' hi').1,λj x hj=>?_⟩
                have hrl:=(k5 i' row' hi').1
                have hjl:j<z:=by grind
                rw[nh (by grind) (by omega)]
                rw [η (by
                  intro hh
                  rcases Nat.lt_or_gt_of_ne (λe=>hii e:i≠i')with hlt|hgt
                  · have:(i+1)*z<=i'*z:=bB _ hlt
                    grind
                  · have:(i'+1)*z<=i*z:=bB _ hgt
                    grind)]
                exact((k5 i' row' hi').2 j x hj).mono (λ_ h=>h) hs'⟩)
          refine jZ ?_ (hn undef _ _ _ _ _ _ hC2 (.k .ud) hk)
          simp[execOp,ho,hp,Instr.storeAt,Instr.sureAddr,hrun]
      grind
    · skip
      exfalso
      apply hst
      have:∀(vs:List V)(t:T)(h:H)(K:List D->T->H->Prop),BP vs t h K->vs.all fA=true:=by
        intro vs
        induction vs with
        |nil=>grind
        |cons v vs ih=>
          intro t h K hf
          cases v<;>first|exact hf.elim|skip
          · simpa[fA]using ih _ _ _ hf
          · rename_i id
            simp only[iP,tv]at hf
            split at hf
            · simp only[jR,f_]at hf
              simpa[fA]using ih _ _ _ hf
            grind
          · simpa[fA]using ih _ _ _ hf
          · rename_i f caps
            cases caps with
            |nil=>simpa[fA]using ih _ _ _ hf
            |cons=>
              simp only[iP,tv]at hf
              split at hf
              · simpa[fA]using ih _ _ _ hf
              grind
      grind
  grind
end
theorem KY{k:IntKind}{n:Int}(h:eK k n):k.wrap n=n:=by
 unfold IntKind.wrap;cases k<;>simp only[eK]at h<;>simp[IntKind.bits,IntKind.signed]<;>omega
theorem BR{G:Nat->Prop}{w:World}{v:Value}{f:Nat}(h:bp G w v (.fn f)):v=.func (.func f) #[] #[]:=by cases h;rfl
section
variable{P:Program}{E:gL}{n:Nat}{G:Nat->Prop}{ρ:List Value}{t:T}{h:H}{a:Act}{w:World}{o:Oper}{bV:Act->World->Prop}{Q:Exit->Act->World->Prop}{K KP:V->T->H->Prop}
variable(S:Nat->List V->H->(Out->H->Prop)->Prop)(ow:Nat->Bool)
theorem qf(y:ak E n G ρ t h a w)(z:iQ E n a o K bV){k:IntKind}{m:Int}(hr:(execOp a.eval o).run P w=.ok (.value (.int k (k.wrap m))) w)(u:xX k m λm=>K (.d (.int k m)) t h):o.wp P a w bV Q:=by
 rcases u with⟨v,x⟩|x
 .rw[KY v]at hr;exact an y z hr (.d (.int k m)) x
 .exact an y z hr (.d (.int k _)) x
theorem Gk(u:ak E n G ρ t h a w)(f:iQ E n a o K bV){b:BinOp}{ty t1 t2 t3:TypeId}{x y:Operand}{ox oy:O}(e:o.op=.binOp b ty x y t3)(D:cX P t1 x=some ox)(F:cX P t2 y=some oy)
  (z:bq S ow (.bin b ox oy) t h K KP):o.wp P a w bV Q:=by
 have g:=bG u D;have i:=bG u F;simp only[bq]at z;split at z
 .rename_i p q hgx j;rw[hgx]at g;rw[j]at i;obtain⟨s1,v,rfl,m1⟩:=g.str;obtain⟨s2,c,rfl,m2⟩:=i.str;cases b<;>simp only at z<;>try exact z.elim
  have s:(s1++s2).size<=maxLen:=by
   have B:=z.1;rw[dW,dW]at B;rw[ByteArray.size_append];exact B
  have m:=run_string_add_sum (P:=P) (w:=w) s1 s2 (by
   simp_all)
  refine an u f (v':=.string (s1++s2)) ?_ (.d ?_) z.2
  .simp[execOp,e,v,c,eqGuard,binOp,m]
  .have:=bp.str (G:=G) (w:=w) (s1++s2) s;simp_all
 .rename_i k p A q hgx j;rw[hgx]at g;rw[j]at i;have v:=g.int;have c:=i.int;cases l:S5 b<;>rw[l]at z;rotate_left
  .simp only[δ]at z;have⟨C,z⟩:=z;have hr:(execOp a.eval o).run P w=.ok (.value (.int k (AS b k p q))) w:=by
    cases b<;>simp only[S5,cj]at l
    .simp[execOp,e,v,c,eqGuard,binOp,Op.shift,AS,η (Int.not_lt.2 C)]
    .simp[execOp,e,v,c,eqGuard,binOp,Op.shift,AS,η (Int.not_lt.2 C)]
   exact an u f hr (.d (.int _ _)) z
  simp only[ε]at z;cases r:Nat.beq (kn k) (kn A)<;>rw[r]at z
  grind
  obtain rfl:k=A:=by revert r;cases k<;>cases A<;>simp[kn]
  simp only[δ]at z;cases b<;>simp only at z<;>try (first|exact z.elim|(simp[S5]at l;done))
  .exact qf u f (by simp[execOp,e,v,c,eqGuard,binOp,Op.intArith]) z
  .exact qf u f (by simp[execOp,e,v,c,eqGuard,binOp,Op.intArith]) z
  .exact qf u f (by simp[execOp,e,v,c,eqGuard,binOp,Op.intArith]) z
  .exact qf u f (by simp[execOp,e,v,c,eqGuard,binOp,Op.intDiv,z.1]) z.2
  .exact an u f (v':=.int k (p.tmod q)) (by simp[execOp,e,v,c,eqGuard,binOp,Op.intDiv,z.1]) (.d (.int _ _)) z.2
  .exact an u f (v':=.int k (jG .and k p q)) (by simp[execOp,e,v,c,eqGuard,binOp,Op.intBits,jG]) (.d (.int _ _)) z
  .exact an u f (v':=.int k (jG .or k p q)) (by simp[execOp,e,v,c,eqGuard,binOp,Op.intBits,jG]) (.d (.int _ _)) z
  .exact an u f (v':=.int k (jG .xor k p q)) (by simp[execOp,e,v,c,eqGuard,binOp,Op.intBits,jG]) (.d (.int _ _)) z
  .exact an u f (v':=.int k (jG .andNot k p q)) (by simp[execOp,e,v,c,eqGuard,binOp,Op.intBits,jG]) (.d (.int _ _)) z
  .exact an u f (v':=.bool (p==q)) (by simp[execOp,e,v,c,eqGuard,binOp,Op.intCmp]) (.d (.bool _)) z
  .exact an u f (v':=.bool (p != q)) (by simp[execOp,e,v,c,eqGuard,binOp,Op.intCmp]) (.d (.bool _)) z
  .exact an u f (v':=.bool (decide (p<q))) (by simp[execOp,e,v,c,eqGuard,binOp,Op.intCmp]) (.d (.bool _)) z
  .exact an u f (v':=.bool (decide (p<=q))) (by simp[execOp,e,v,c,eqGuard,binOp,Op.intCmp]) (.d (.bool _)) z
  .exact an u f (v':=.bool (decide (q<p))) (by simp[execOp,e,v,c,eqGuard,binOp,Op.intCmp]) (.d (.bool _)) z
  .exact an u f (v':=.bool (decide (q<=p))) (by simp[execOp,e,v,c,eqGuard,binOp,Op.intCmp]) (.d (.bool _)) z
 grind
theorem Su(v:ak E n G ρ t h a w)(e:iQ E n a o K bV){u:UnOp}{ty t1:TypeId}{x:Operand}{ox:O}(f:o.op=.unOp u ty x)(g:cX P t1 x=some ox)(z:bq S ow (.un u ox) t h K KP):o.wp P a w bV Q:=by
 have y:=bG v g;simp only[bq]at z;split at z
 .rename_i b hgx;rw[hgx]at y;have c:=y.bool;exact an v e (v':=.bool (!b)) (by simp[execOp,f,c,Op.unary]) (.d (.bool _)) z
 .rename_i k p hgx;rw[hgx]at y;have c:=y.int;exact qf v e (by simp[execOp,f,c,Op.unary,Op.intArith]) z
 grind
theorem TX(u:ak E n G ρ t h a w)(v:iQ E n a o K bV){s d t1:TypeId}{k ks:IntKind}{x:Operand}{ox:O}(b:o.op=.convert s d x)(hs:P.underlying s=some (.int ks))(hd:P.underlying d=some (.int k))(c:cX P t1 x=some ox)(z:bq S ow (.cv k ox) t h K KP):o.wp P a w bV Q:=by
 have y:=bG u c;simp only[bq]at z;split at z
 .rename_i f p hgx;rw[hgx]at y;have e:=y.int;exact qf u v (by simp[execOp,b,e,Go.convert,run_underlying hs,run_underlying hd,Conv.intToInt]) z
 grind
theorem TL(f:ak E n G ρ t h a w)(j:iQ E n a o K bV){ty t1 e:TypeId}{x:Operand}{ox:O}(q:o.op=.call {callee:=.builtin .len,args:= #[x],argTypes:= #[ty]})
  (s:P.underlying ty=some (.slice e)) (A:cX P t1 x=some ox) (v:bq S ow (.ln ox) t h K KP):o.wp P a w bV Q:=by
 have y:=Cr (bG f A);have sl:∀(g:Option Addr)(m c:Nat),a.eval x=.slice g m c->(execOp a.eval o).run P w=.ok (.value (.int .i64 m)) w:=by
  intro g m c u;simp[execOp,q,resolve,invoke,builtin,Builtin.len_,u,run_underlying s,goInt]
 simp only[bq]at v;split at v
 .rename_i z r i;rw[i]at y;have⟨g,c,u,hl⟩:=y.qu.len;exact an f j (sl _ _ _ u) (.d (.int _ _)) (v hl)
 .rename_i z r i;rw[i]at y;have⟨g,m,u,B⟩:=y.PA;have⟨C,c,k,hl⟩:=B.len;rw[k]at u;exact an f j (sl _ _ _ u) (.d (.int _ _)) (v hl)
 .rename_i id i;rw[i]at y;have⟨g,m,c,u,D⟩:=y.QG;rw[get?_eq]at v;split at v
  .rename_i z r hr;rcases f.ok.hr.rep id _ _ D hr with⟨he,rfl⟩|⟨b,F,arr,ty',he,_,l,p,_⟩
   .cases he;exact an f j (sl _ _ _ u) (.d (.int _ _)) (v (by simp))
   .cases he;exact an f j (sl _ _ _ u) (.d (.int _ _)) (v (aV l p))
  grind
 grind
theorem lF(s:ByteArray):s.size=s.data.toList.length:=(dW (xs:=s.data)).symm
theorem TK(u:ak E n G ρ t h a w)(v:iQ E n a o K bV){ty t1:TypeId}{x:Operand}{ox:O}(b:o.op=.call {callee:=.builtin .len,args:= #[x],argTypes:= #[ty]})
  (c:P.underlying ty=some .string) (e:cX P t1 x=some ox) (z:bq S ow (.ls ox) t h K KP):o.wp P a w bV Q:=by
 have y:=bG u e;simp only[bq]at z;split at z
 .rename_i s f;rw[f]at y;obtain⟨s',g,rfl,i⟩:=y.str;refine an u v (v':=.int .i64 s'.size) ?_ (.d ?_) (z (by assumption))
  .simp[execOp,b,resolve,invoke,builtin,Builtin.len_,g,run_underlying c,goInt]
  .rw[<-lF];exact .int _ _
 grind
theorem TF(v:ak E n G ρ t h a w)(e:iQ E n a o K bV){ts:Array TypeId}{t1 t2:TypeId}{x y:Operand}{ox oy:O}(f:o.op=.call {callee:=.builtin .min,args:= #[x,y],argTypes:=ts})
  (g:cX P t1 x=some ox) (i:cX P t2 y=some oy) (b:bq S ow (.mn ox oy) t h K KP):o.wp P a w bV Q:=by
 have z:=bG v g;have u:=bG v i;simp only[bq]at b;split at b
 .rename_i k p m q hgx c;rw[hgx]at z;rw[c]at u;have j:=z.int;have l:=u.int;refine an v e (v':=.int k (min p q)) ?_ (.d (.int _ _)) b;have:(if q<p then q else p)=min p q:=by omega
  simp[execOp,f,resolve,invoke,builtin,Builtin.min_,Builtin.min2,j,l,this]
 grind
theorem TE(v:ak E n G ρ t h a w)(e:iQ E n a o K bV){ts:Array TypeId}{t1 t2:TypeId}{x y:Operand}{ox oy:O}(f:o.op=.call {callee:=.builtin .max,args:= #[x,y],argTypes:=ts})
  (g:cX P t1 x=some ox) (i:cX P t2 y=some oy) (b:bq S ow (.mx ox oy) t h K KP):o.wp P a w bV Q:=by
 have z:=bG v g;have u:=bG v i;simp only[bq]at b;split at b
 .rename_i k p r q hgx c;rw[hgx]at z;rw[c]at u;have j:=z.int;have l:=u.int;refine an v e (v':=.int k (max p q)) ?_ (.d (.int _ _)) b;have:(if q>p then q else p)=max p q:=by omega
  have m:(if p<q then q else p)=max p q:=by omega
  simp[execOp,f,resolve,invoke,builtin,Builtin.max_,Builtin.max2,j,l,m]
 grind
theorem TV(b:ak E n G ρ t h a w)(c:iQ E n a o K bV){t1:TypeId}{x:Operand}{i:Nat}{ox:O}(d:o.op=.extract x i)(e:cX P t1 x=some ox)(y:bq S ow (.ex ox i) t h K KP):o.wp P a w bV Q:=by
 have z:=bG b e;simp only[bq]at y;split at y
 .rename_i vs f;rw[f]at z;have⟨cs,g,hs,hr⟩:=z.Uh;rw[get?_eq]at y;split at y
  .rename_i v j;have u:i<cs.size:=by grind
   refine an b c (v':=cs.getD i undef) ?_ (.o (hr i v j)) y;simp[execOp,d,Instr.extract,g,u]
  grind
 grind
theorem TD(l:ak E n G ρ t h a w)(p:iQ E n a o K bV){t1:TypeId}{x:Operand}{ox:O}(q:o.op=.nilCheck x)(D:cX P t1 x=some ox)(d:bq S ow (.nc ox) t h K KP):o.wp P a w bV Q:=by
 have y:=bG l D;simp only[bq]at d;split at d
 .rename_i i oo v;rw[v]at y;have⟨b,u,_⟩:=y.pt;exact an l p (v':=a.eval x) (by simp[execOp,q,u]) y d
 .rename_i r oo v;rw[v]at y;have⟨b,_,_,u,_⟩:=y.el;exact an l p (v':=a.eval x) (by simp[execOp,q,u]) y d
 .rename_i i z j oo v;rw[v]at y;have⟨b,_,_,u,_⟩:=y.ql;exact an l p (v':=a.eval x) (by simp[execOp,q,u]) y d
 .rename_i f c v;rw[v]at y;have⟨cs,u,_⟩:=y.Nv;cases F:Nat.blt f 2000000<;>rw[F]at d
  grind
  have B:f<2000000:=by simp_all
  have m:∃g C y2,a.eval x=.func (.func g) C y2:=by
   by_cases A:f<1000000
   .exact⟨_,_,_,uB u A⟩
   .exact⟨_,_,_,BX u A B⟩
  have⟨g,C,y2,m⟩:=m;exact an l p (v':=a.eval x) (by simp[execOp,q,m]) y d
 .rename_i f v;rw[v]at y;have u:a.eval x=.func (.func f) #[] #[]:=BR y.qu;exact an l p (v':=a.eval x) (by simp[execOp,q,u]) y d
 .rename_i row off v;rw[v]at y;have u:=y.qu;generalize s:a.eval x=L at u;cases u with
  |pt b o _ _ U A I J=>exact an l p (v':=a.eval x) (by simp[execOp,q,s]) (by rw[s];exact .k (.e b o off row U A I J)) d
 grind
end
end Go.Vx
