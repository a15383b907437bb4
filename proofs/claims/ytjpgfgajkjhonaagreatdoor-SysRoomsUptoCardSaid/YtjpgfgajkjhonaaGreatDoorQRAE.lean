/- Lemmas. Conditions: none. -/
import Derived.Test.YtjpgfgajkjhonaaGreatDoorQRAD
import Derived.Laws.StructEq
import Derived.Laws.Concat
namespace Go.Vx
section
variable {G:Nat→Prop} {w:World} {ρ:List Value}
theorem au.c {v:Value} {x:V} (h:dI G w ρ v x):au G w ρ v x:=.o (.c h)
theorem au.k {v:Value} {x:V} (h:dL G w ρ v x):au G w ρ v x:=.o (.c (.k h))
theorem au.d {v:Value} {x:D} (h:bp G w v x):au G w ρ v (.d x):=.o (.c (.k (.d h)))
theorem au.qu {v:Value} {x:D} (h:au G w ρ v (.d x)):bp G w v x:=by
 cases h with | o h=>cases h with | c h=>cases h with | k h=>cases h with | d h=>exact h
theorem au.int {v:Value} {k:IntKind} {n:Int} (h:au G w ρ v (.d (.int k n))):v = .int k n:=by cases h.qu;rfl
theorem au.bool {v:Value} {b:Bool} (h:au G w ρ v (.d (.bool b))):v = .bool b:=by cases h.qu;rfl
theorem au.str {v:Value} {b:List UInt8} (h:au G w ρ v (.d (.str b))):∃s:ByteArray,v = .string s∧s.data.toList=b∧s.size≤maxLen:=by
 cases h.qu;grind
theorem au.pt {v:Value} {id off:Nat} (h:au G w ρ v (.p id off)):∃b,v = .pointer (some ⟨b,off,none⟩)∧ρ[id]? = some (.pointer (some ⟨b,0,none⟩)):=by
 cases h with | o h=>cases h with | c h=>cases h with | k h=>cases h with | p _ _ b h=>grind
theorem au.el {v:Value} {row:List D} {off:Nat} (h:au G w ρ v (.e row off)):∃(b o:Nat) (U:Nat→Value),v = .pointer (some ⟨b,o+off,none⟩)∧G b ∧
  (∀(j:Nat) (x:D),row[j]? = some x→w.cell? ⟨b,o+j,none⟩=some (U j))∧(∀(j:Nat) (x:D),row[j]? = some x→bp G w (U j) x):=by
 cases h with | o h=>cases h with | c h=>cases h with | k h=>cases h with | e b o _ _ U h1 h2 h3=>exact ⟨b,o,U,rfl,h1,h2,h3⟩
theorem au.QG {v:Value} {id:Nat} (h:au G w ρ v (.os id)):∃a n c,v = .slice a n c∧ρ[id]? = some (.slice a n c):=by
 cases h with | o h=>cases h with | c h=>cases h with | k h=>cases h with | os _ a n c h=>grind
theorem au.ql {v:Value} {id z i off:Nat} (h:au G w ρ v (.q id z i off)):∃b n c,v = .pointer (some ⟨b,i*z+off,none⟩)∧ρ[id]? = some (.slice (some ⟨b,0,none⟩) n c):=by
 cases h with | o h=>cases h with | c h=>cases h with | k h=>cases h with | q _ _ _ _ b n c h=>grind
theorem au.PA {v:Value} {z:Nat} {rows:List (List D)} (h:au G w ρ v (.cl z rows)):∃a n,v = .slice a n n∧bp G w (.slice a n n) (.sl z rows):=by
 cases h with | o h=>cases h with | c h=>cases h with | k h=>cases h with | cl a n _ _ h=>grind
theorem au.Nv {v:Value} {f:Nat} {caps:List V} (h:au G w ρ v (.fc f caps)):∃cs:Array Value,JJ f v cs∧cs.size=caps.length∧∀(i:Nat) (x:V),caps[i]? = some x→dL G w ρ (cs.getD i undef) x:=by
 cases h with
 |o h=>cases h with
  |c h=>cases h with
   |k h=>cases h
   |fc _ _ cs _ h0 h1 h2=>grind
theorem au.R9 {v:Value} {vs:List V} (h:au G w ρ v (.ag vs)):∃cs:Array Value,v = .agg cs∧cs.size=vs.length∧∀(i:Nat) (x:V),vs[i]? = some x→dI G w ρ (cs.getD i undef) x:=by
 cases h with
 |o h=>cases h with
  |c h=>contradiction
  |ag cs _ h1 h2=>grind
theorem au.Uh {v:Value} {vs:List V} (h:au G w ρ v (.tu vs)):∃cs:Array Value,v = .tuple cs∧cs.size=vs.length∧∀(i:Nat) (x:V),vs[i]? = some x→dM G w ρ (cs.getD i undef) x:=by
 cases h with
 |o h=>contradiction
 |tu cs _ h1 h2=>grind
theorem Cr {v:Value} {x:V} (h:au G w ρ v x):au G w ρ v (dv x):=by
 by_cases hx:∃z,x = .nl z
 ·obtain ⟨z,rfl⟩:=hx;cases h with | o h=>cases h with | c h=>cases h with | k h=>cases h with | nl=>exact .d (.xg z)
 ·have:dv x=x:=by cases x<;>first | rfl | exact absurd ⟨_,rfl⟩ hx
  grind
theorem bp.emp (a:Option Addr) (z:Nat):bp G w (.slice a 0 0) (.sl z []):=by
 cases a with
 |none=>exact .xg z
 |some a=>exact .sle a z
theorem bp.Rp {v:Value} {z:Nat} {rows:List (List D)} (h:bp G w v (.sl z rows)):((∃a,v = .slice a 0 0)∧rows = [])∨∃(b o cap:Nat) (U:Nat→Nat→Value),v = .slice (some ⟨b,o,none⟩) rows.length cap∧rows.length≤cap∧cap≤maxLen∧G b ∧
  (∀(i:Nat) (row:List D),rows[i]? = some row→row.length=z) ∧
  (∀(i:Nat) (row:List D) (j:Nat) (x:D),rows[i]? = some row→row[j]? = some x→w.cell? ⟨b,o+(i*z+j),none⟩=some (U i j)) ∧
  (∀(i:Nat) (row:List D) (j:Nat) (x:D),rows[i]? = some row→row[j]? = some x→bp G w (U i j) x):=by
 cases h with
 |xg=>grind
 |sle a=>grind
 |sl b o cap z rows U h1 h2 h3 h4 h5 h6=>exact .inr ⟨b,o,cap,U,rfl,h1,h2,h3,h4,h5,h6⟩
theorem bp.len {v:Value} {z:Nat} {rows:List (List D)} (h:bp G w v (.sl z rows)):∃a c,v = .slice a rows.length c∧rows.length≤9223372036854775807:=by
 rcases h.Rp with ⟨⟨a,rfl⟩,rfl⟩ | ⟨b,o,cap,U,rfl,h1,h2,_⟩
 grind
 ·exact ⟨_,_,rfl,by simp [maxLen] at h2;omega⟩
theorem B5 {P:Program} {ty:TypeId} {v:Value} {x:V} (h:UU P ty v=some x):dL G w ρ v x∧fA x=true∧(∀cs,v≠.agg cs)∧ij x = []:=by
 unfold UU at h;split at h<;>first | (cases h;done) | skip
 ·cases h;exact ⟨.d (.int _ _),rfl,by simp,rfl⟩
 ·cases h;exact ⟨.d (.bool _),rfl,by simp,rfl⟩
 ·split at h<;>cases h;exact ⟨.d (.str _ (by simp only [maxLen];omega)),rfl,by simp,rfl⟩
 ·cases h;exact ⟨.nl _,rfl,by simp,rfl⟩
 ·cases h;exact ⟨.d .np,rfl,by simp,rfl⟩
 ·cases h;exact ⟨.d .nf,rfl,by simp,rfl⟩
 ·cases h;exact ⟨.d .ni,rfl,by simp,rfl⟩
 ·cases h;exact ⟨.d .nm,rfl,by simp,rfl⟩
end
section
variable {P:Program} {E:gL} {n:Nat} {G:Nat→Prop} {ρ:List Value} {t:T} {h:H} {a:Act} {w:World} {o:Oper} {bV:Act→World→Prop} {Q:Exit→Act→World→Prop} {K KP:V→T→H→Prop}
theorem bG (hC:ak E n G ρ t h a w) {ty:TypeId} {x:Operand} {ox:O} (hx:cX P ty x=some ox):au G w ρ (a.eval x) (gv t ox):=by
 cases x with
 |tmp i=>cases hx;exact hC.tm i
 |const v=>
  simp only [cX,aG] at hx;obtain ⟨y,hy,rfl⟩:=hx;have hk:=(B5 (G:=G) (w:=w) (ρ := ρ) hy).1
  by_cases hnl:∃z,y = .nl z
  ·obtain ⟨z,rfl⟩:=hnl;cases hk;exact .k (.d (.xg z))
  ·have:gv t (.k y)=y:=by cases y<;>first | rfl | exact absurd ⟨_,rfl⟩ hnl
   rw [this];exact .k hk
 |func f=>cases hx;exact .k (.d (.fn f))
 |global g=>
  cases hx;show au G w ρ (.pointer (some ⟨g,0,none⟩)) (match AE UF g with | some row=>.e row 0 | none=>.un);cases hg:AE UF g with
  |none=>exact .k (.un _)
  |some row=>
   obtain ⟨h1,U,h2,h3⟩:=hC.ok.hr.sF g row hg;exact .k (.e g 0 0 row U h1 h2 h3)
theorem Gu (hC:ak E n G ρ t h a w) {ty:TypeId} {x:Operand} {ox:O} (hx:cX P ty x=some ox):au G w ρ (a.eval x) (KL t ox):=by
 have h0:=bG hC hx
 by_cases hn:∃z,ox = .k (.nl z)
 ·obtain ⟨z,rfl⟩:=hn;cases x with
  |tmp i=>cases hx
  |const v=>
   simp only [cX,aG] at hx;obtain ⟨y,hy,he⟩:=hx;cases he;exact .k (B5 (G:=G) (w:=w) (ρ := ρ) hy).1
  |func f=>cases hx
  |global g=>cases hx
 ·have:KL t ox=gv t ox:=by
   cases ox with
   |s i=>rfl
   |g i=>rfl
   |k v=>cases v<;>first | rfl | exact absurd ⟨_,rfl⟩ hn
  grind
def iQ (E:gL) (n:Nat) (a:Act) (o:Oper) (K:V→T→H→Prop) (bV:Act→World→Prop):Prop:=
 ∀(v':Value) (w':World) (G':Nat→Prop) (ρ':List Value) (t':T) (h':H) (v:V),ak E n G' ρ' t' h' a w'→au G' w' ρ' v' v→K v t' h'→bV (a.put o.dst v') w'
theorem dU {v':Value} {w':World} (hr:(execOp a.eval o).run P w = .ok (.value v') w') (h:bV (a.put o.dst v') w'):o.wp P a w bV Q:=by
 unfold Oper.wp;rw [hr];exact h
theorem jZ {w':World} (hr:(execOp a.eval o).run P w = .ok .skip w') (h:bV (a.put o.dst undef) w'):o.wp P a w bV Q:=by
 unfold Oper.wp;rw [hr];exact h
theorem an (hC:ak E n G ρ t h a w) (hn:iQ E n a o K bV) {v':Value} {v:V} (hr:(execOp a.eval o).run P w = .ok (.value v') w) (hv:au G w ρ v' v) (hk:K v t h):o.wp P a w bV Q:=
 dU hr (hn v' w G ρ t h v hC hv hk)
theorem cT {s:Sem Value} {v':Value} {w':World} (hs:s.run P w = .ok v' w'):((do pure (Next.value (←s))):Sem Next).run P w = .ok (.value v') w':=by
 simp [hs]
theorem N7 (hC:ak E n G ρ t h a w) (hn:iQ E n a o K bV) {x:Operand} {ox:O} {ty:TypeId} (ho:o.op = .move x∨o.op = .assign x) (hx:cX P ty x=some ox) (hk:K (gv t ox) t h):o.wp P a w bV Q:=by
 refine an hC hn (v':=a.eval x) ?_ (bG hC hx) hk;rcases ho with ho | ho<;>simp [execOp,ho]
theorem Gf (hC:ak E n G ρ t h a w) (hn:iQ E n a o K bV) {z:Nat} (ho:o.op = .move (.const (.slice none 0 0))∨o.op = .assign (.const (.slice none 0 0))) (hk:K (.os h.length) t (h ++ [.rows z []])):o.wp P a w bV Q:=by
 have hC':=hC.push (gK.refl w) (.slice none 0 0) (.rows z []) (by simp [fO]) (.inl ⟨rfl,rfl⟩);refine an hC' hn (v':=.slice none 0 0) ?_ (.k (.os h.length none 0 0 ?_)) hk
 ·rcases ho with ho | ho<;>simp [execOp,ho,Act.eval]
 ·rw [←hC.ok.hr.len];simp
theorem TA (hC:ak E n G ρ t h a w) (hn:iQ E n a o K bV) {c x y:Operand} {oc ox oy:O} {t1 t2 t3:TypeId} (ho:o.op = .pick c x y) (hc:cX P t1 c=some oc) (hx:cX P t2 x=some ox) (hy:cX P t3 y=some oy)
  {b:Bool} (hb:gv t oc = .d (.bool b)) (hk:sp b (K (gv t ox) t h) (K (gv t oy) t h)):o.wp P a w bV Q:=by
 have hv:=(hb ▸ bG hC hc).bool;cases b
 ·exact an hC hn (v':=a.eval y) (by simp [execOp,ho,hv,asBool]) (bG hC hy) hk
 ·exact an hC hn (v':=a.eval x) (by simp [execOp,ho,hv,asBool]) (bG hC hx) hk
theorem jE {v:Value} {x:V} (hv:au G w ρ v x) (hs:x.cs.all fA=true):v.cells.size=x.cs.length∧(∀(i:Nat) (y:V),x.cs[i]? = some y→dI G w ρ (v.cells.getD i undef) y):=by
 by_cases hag:∃vs,x = .ag vs
 ·obtain ⟨vs,rfl⟩:=hag;obtain ⟨cs,rfl,h1,h2⟩:=hv.R9;exact ⟨h1,h2⟩
 ·have hcs:x.cs = [x]:=by cases x<;>first | rfl | exact absurd ⟨_,rfl⟩ hag
  rw [hcs] at hs ⊢;simp only [lA,List.all_nil,dz] at hs;have hc:dI G w ρ v x:=by
   cases hv with
   |o h=>cases h with
    |c h=>exact h
    |ag cs vs=>grind
   |tu=>contradiction
  have hvc:v.cells = #[v]:=by
   cases hc with
   |k hk=>cases hk<;>first | rfl | (simp [fA] at hs;done) | exact bp.cells ‹_› | (rename_i hd;cases hd;rfl)
   |fc _ _ _ _ h0=>exact vf h0
  rw [hvc];refine ⟨rfl,λi y hi=>?_⟩;cases i with
  |zero=>simp_all
  |succ i=>grind
theorem Cm {F:Nat} {v:Value} {cs:Array Value} (h:JJ F v cs):v.oneCell'=true:=by
 rcases h with ⟨_,rfl⟩ | ⟨_,⟨f,_,_,rfl⟩ | ⟨f,_,_,rfl⟩ | ⟨f,x,_,_,rfl,_⟩⟩<;>rfl
theorem bp.one {G:Nat→Prop} {w:World} {v:Value} {x:D} (h:bp G w v x):v.oneCell'=true:=by
 cases h<;>first | rfl | exact Cm ‹_›
theorem A9 {v:Value} {x:V} (hv:dI G w ρ v x) (hs:fA x=true):v.oneCell'=true:=by
 cases hv with
 |k hk=>cases hk<;>first | rfl | (simp [fA] at hs;done) | exact bp.one ‹_› | (rename_i hd;cases hd;rfl)
 |fc _ _ _ _ h0=>exact Cm h0
theorem dI.alloc {v:Value} {x:V} {b:Obj} {hd:Value} (hC:HR G w ρ h) (hv:dI G w ρ v x):dI G (w.alloc b) (ρ ++ [hd]) v x:=
 hv.mono (λ_ h=>h) (λc hc=>(gK.alloc w b).iE c (hC.gl c hc)) (λi hi=>aT (hv.lt i hi))
theorem Gg (hC:ak E n G ρ t h a w) (hn:iQ E n a o K bV) {ty:TypeId} {arr:Array Value} {cs:List V} (hr:(execOp a.eval o).run P w = .ok (.value (.pointer (some ⟨w.heap.size,0,none⟩))) (w.alloc (.cells arr ty)))
  (hs:arr.size=cs.length) (hcs:∀(i:Nat) (y:V),cs[i]? = some y→dI G w ρ (arr.getD i undef) y) (hk:K (.p h.length 0) t (h ++ [.cells cs])):o.wp P a w bV Q:=by
 have hb:cY G (w.alloc (.cells arr ty)) (ρ ++ [.pointer (some ⟨w.heap.size,0,none⟩)]) (.pointer (some ⟨w.heap.size,0,none⟩)) (.cells cs):=
  ⟨w.heap.size,arr,ty,rfl,heap_alloc_new w _,hs,λi y hi=>(hcs i y hi).alloc hC.ok.hr⟩
 have hC':=hC.push (gK.alloc w (.cells arr ty)) _ _ (by intro b hb;simp only [fO,aE] at hb;omega) hb;refine dU hr (hn _ _ _ _ _ _ _ hC' (.k (.p h.length 0 w.heap.size ?_)) hk);rw [←hC.ok.hr.len];simp
theorem T1 (hC:ak E n G ρ t h a w) (hn:iQ E n a o K bV) {x:Operand} {ox:O} {ty t1:TypeId} (ho:o.op = .box ty x) (hx:cX P t1 x=some ox)
  (hk:(gv t ox).cs.all fA=true∧K (.p h.length 0) t (h ++ [.cells (gv t ox).cs])):o.wp P a w bV Q:=by
 obtain ⟨h1,h2⟩:=jE (bG hC hx) hk.1;refine Gg hC hn (ty:=ty) (arr:=(a.eval x).cells) ?_ h1 h2 hk.2;simp [execOp,ho,Instr.box,newVar,newRow]
theorem jf {ty:TypeId} {zs:List V} (hz:rM P ty=some zs):∃i z,P.info? ty=some i∧i.zero=some z∧z.cells.size=zs.length∧zs.all fA=true∧∀(j:Nat) (x:V),zs[j]? = some x→dL G w ρ (z.cells.getD j undef) x∧ij x = []:=by
 simp only [rM,aI,aD] at hz;obtain ⟨i,hi,z,hz0,hm⟩:=hz;split at hm
 ·rename_i hts;refine ⟨i,z,hi,hz0,?_⟩;have key:∀(l:List Value) (ts:List TypeId) (zs:List V),ts.length=l.length→(l.zip ts).mapM (λp=>UU P p.2 p.1)=some zs→l.length=zs.length∧zs.all fA=true∧∀(j:Nat) (x:V),zs[j]? = some x→dL G w ρ (l.getD j undef) x∧ij x = []:=by
   intro l
   induction l with
   |nil=>simp_all
   |cons v l ih=>
    intro ts zs hl h;cases ts with
    |nil=>grind
    |cons ty ts=>
     simp only [List.zip_cons_cons,iU,aI,aD,jK,aE] at h;obtain ⟨x,hx,xs,hxs,rfl⟩:=h;obtain ⟨i1,i2,i3⟩:=ih ts xs (by grind) hxs;have hc:=B5 (G:=G) (w:=w) (ρ := ρ) hx
     grind
  obtain ⟨h1,h2,h3⟩:=key _ _ _ (by grind) hm;refine ⟨by grind,h2,λj x hx=>?_⟩;have:=h3 j x hx;simp_all
 grind
theorem T5 (hC:ak E n G ρ t h a w) (hn:iQ E n a o K bV) {ty:TypeId} {zs:List V} (ho:o.op = .alloc ty) (hz:rM P ty=some zs) (hk:K (.p h.length 0) t (h ++ [.cells zs])):o.wp P a w bV Q:=by
 obtain ⟨i,z,hi,hz0,h1,_,h3⟩:=jf (G:=G) (w:=w) (ρ := ρ) hz;refine Gg hC hn (ty:=ty) (arr:=z.cells) ?_ h1 (λj x hx=>.k (h3 j x hx).1) hk;simp [execOp,ho,Instr.alloc,zeroValue,typeInfo,hi,hz0,newVar,newRow]
end
section
variable {P:Program} {E:gL} {n:Nat} {G:Nat→Prop} {ρ:List Value} {t:T} {h:H} {a:Act} {w:World} {o:Oper} {bV:Act→World→Prop} {Q:Exit→Act→World→Prop} {K KP:V→T→H→Prop}
theorem ib {ty:TypeId} {b:Bool} (hb:kO P ty=some b):(isAgg ty).run P w = .ok b w:=by
 simp only [kO,aG] at hb;obtain ⟨d,hd,rfl⟩:=hb;simp only [isAgg,Sem.run_bind,run_underlying hd,Result.andThen_ok];cases d<;>rfl
theorem tU {ty:TypeId} (hl:uj P ty=some none) (ad:Addr):(loadVar ty ad).run P w=(load ad).run P w:=by
 simp only [uj,aI,aD] at hl;obtain ⟨i,hi,b,hb,hx⟩:=hl;cases b
 ·simp [loadVar,ib hb]
 grind
theorem tT {ty:TypeId} {k:Nat} (hl:uj P ty=some (some k)) (ad:Addr) (cs:List Value) (hk:cs.length=k) (hc:∀(j:Nat) (v:Value),cs[j]? = some v→w.cell? (ad.add j)=some v) :
  (loadVar ty ad).run P w = .ok (.agg cs.toArray) w:=by
 simp only [uj,aI,aD] at hl;obtain ⟨i,hi,b,hb,hx⟩:=hl;cases b
 grind
 ·simp at hx;subst hx;have:=run_loadCells_list (P:=P) w ad cs hc;rw [hk] at this;simp [loadVar,ib hb,sizeOf,typeInfo,hi,this]
theorem dx (b off j:Nat):(⟨b,off,none⟩:Addr).add j=⟨b,off+j,none⟩:=by
 unfold Addr.add;grind
theorem dC {b off:Nat} {arr:Array Value} {ty:TypeId} (hw:w.heap[b]? = some (.cells arr ty (0,0))):w.cell? ⟨b,off,none⟩=arr[off]?:=by
 simp [World.cell?,hw]
theorem w_ (hC:ak E n G ρ t h a w) (hn:iQ E n a o K bV) {ty:TypeId} {x:Operand} {b off k:Nat} {U:Nat→Value} {vs:List V} (ho:o.op = .load ty x) (hp:a.eval x = .pointer (some ⟨b,off,none⟩)) (hl:uj P ty=some (some k))
  (hlen:vs.length=k) (hU:∀(j:Nat) (y:V),vs[j]? = some y→w.cell? ⟨b,off+j,none⟩=some (U j)∧dI G w ρ (U j) y) (hk:K (.ag vs) t h):o.wp P a w bV Q:=by
 have hrun:(loadVar ty ⟨b,off,none⟩).run P w = .ok (.agg ((List.range vs.length).map U).toArray) w:=by
  refine tT hl _ _ (by grind) (λj v hv=>?_);rw [dx];simp only [aB,aG] at hv;obtain ⟨j',hj',rfl⟩:=hv;have hjl:j<vs.length:=by
   grind
  simp_all
 refine an hC hn (v':=.agg ((List.range vs.length).map U).toArray) ?_ (.o (.ag _ vs (by simp) (λi y hi=>?_))) hk
 ·simp [execOp,ho,hp,Instr.loadAt,Instr.sureAddr,hrun]
 ·have hil:i<vs.length:=(aC.1 hi).1;simp_all
theorem wz (hC:ak E n G ρ t h a w) (hn:iQ E n a o K bV) {ty:TypeId} {x:Operand} {ad:Addr} {v':Value} {v:V} (ho:o.op = .load ty x) (hp:a.eval x = .pointer (some ad)) (hl:uj P ty=some none)
  (hc:w.cell? ad=some v') (hv:dI G w ρ v' v) (hk:K v t h):o.wp P a w bV Q:=by
 refine an hC hn (v':=v') ?_ (.c hv) hk;simp [execOp,ho,hp,Instr.loadAt,Instr.sureAddr,tU hl,hc]
theorem kH {i j:Nat} (h:Nat.beq i j=true):i=j:=eH h
theorem j9 {hd:Value} {z:Nat} {rs:List (List D)} (hr:cY G w ρ hd (.rows z rs)) {i:Nat} {row:List D} (hi:rs[i]? = some row) :
  ∃b cap arr ty,hd = .slice (some ⟨b,0,none⟩) rs.length cap∧w.heap[b]? = some (.cells arr ty (0,0))∧row.length=z∧i*z+z≤arr.size ∧
   ∀(j:Nat) (x:D),row[j]? = some x→w.cell? ⟨b,i*z+j,none⟩=some (arr.getD (i*z+j) undef)∧bp G w (arr.getD (i*z+j) undef) x:=by
 rcases hr with ⟨_,rfl⟩ | ⟨b,cap,arr,ty,rfl,h1,h2,h3,h4,h5⟩
 grind
 ·obtain ⟨hz,hx⟩:=h5 i row hi;have hil:i<rs.length:=(aC.1 hi).1;have hle:i*z+z≤arr.size:=by
   rw [h4];have:(i+1)*z≤cap*z:=bB _ (by omega)
   grind
  refine ⟨b,cap,arr,ty,rfl,h1,hz,hle,λj x hj=>⟨?_,hx j x hj⟩⟩;have hjl:j<row.length:=(aC.1 hj).1;rw [dC h1,aF,aN (by omega)];rfl
section
variable (S:Nat→List V→H→(Out→H→Prop)→Prop) (ow:Nat→Bool)
theorem TN (hC:ak E n G ρ t h a w) (hn:iQ E n a o K bV) {ty t1:TypeId} {x:Operand} {ox:O} {m:Option Nat} (ho:o.op = .load ty x) (hx:cX P t1 x=some ox) (hl:uj P ty=some m)
  (hk:bq S ow (.ld ox m) t h K KP):o.wp P a w bV Q:=by
 have hv:=bG hC hx;simp only [bq] at hk;split at hk
 ·skip
  rename_i id off hg;rw [hg] at hv;obtain ⟨b,hp,hρ⟩:=hv.pt;rw [get?_eq] at hk;split at hk
  ·rename_i cs hcs;obtain ⟨b',arr,ty',hb,h1,h2,h3⟩:=hC.ok.hr.rep id _ _ hρ hcs;simp only [Value.pointer.injEq,aE,Addr.mk.injEq,ω] at hb;obtain ⟨rfl,_⟩:=hb;cases m with
   |none=>
    simp only [get?_eq] at hk;split at hk
    ·rename_i v hvv;have hol:off<arr.size:=by grind
     refine wz hC hn ho hp hl (v':=arr[off]) (by rw [dC h1];grind) ?_ hk;have:=h3 off v hvv;simpa [aF,hol] using this
    grind
   |some k=>
    simp only [bf] at hk;have hlen:=kH hk.1;refine w_ hC hn ho hp hl (U:=λj=>arr.getD (off+j) undef) hlen (λj y hy=>?_) hk.2;have hj:j<k:=by grind
    rw [ao,ζ hj,bF] at hy;have hol:off+j<arr.size:=by grind
    refine ⟨?_,h3 (off+j) y hy⟩;rw [dC h1,aF,aN hol];rfl
  grind
 ·skip
  rename_i row off hg;rw [hg] at hv;obtain ⟨b,oo,U,hp,hGb,hU,hD⟩:=hv.el;cases m with
  |none=>
   simp only [get?_eq] at hk;split at hk
   ·rename_i v hvv;exact wz hC hn ho hp hl (hU off v hvv) (.k (.d (hD off v hvv))) hk
   grind
  |some k=>
   simp only [bf] at hk;have hlen:=kH hk.1;refine w_ hC hn ho hp hl (U:=λj=>U (off+j)) hlen (λj y hy=>?_) hk.2;have hj:j<k:=by grind
   rw [aB,ao,ζ hj,bF] at hy;cases hr:row[off+j]? with
   |none=>grind
   |some y0=>
    rw [hr] at hy;cases hy;exact ⟨by grind,.k (.d (hD _ _ hr))⟩
 ·skip
  rename_i id z i off hg;rw [hg] at hv;obtain ⟨b,nn,c,hp,hρ⟩:=hv.ql;rw [get?_eq] at hk;split at hk
  ·rename_i z' rs hrs;obtain ⟨hz,row,hrow,hk⟩:=hk;obtain rfl:=kH hz;obtain ⟨b',cap,arr,ty',hb,h1,h2,hle,h3⟩:=j9 (hC.ok.hr.rep id _ _ hρ hrs) hrow;simp only [Value.slice.injEq,aE,Addr.mk.injEq,ω] at hb;obtain ⟨rfl,_,_⟩:=hb;cases m with
   |none=>
    simp only [get?_eq] at hk;split at hk
    ·rename_i v hvv;exact wz hC hn ho hp hl (h3 off v hvv).1 (.k (.d (h3 off v hvv).2)) hk
    grind
   |some k=>
    simp only [bf] at hk;have hlen:=kH hk.1;refine w_ hC hn ho hp hl (U:=λj=>arr.getD (i*z+(off+j)) undef) hlen (λj y hy=>?_) hk.2;have hj:j<k:=by grind
    rw [aB,ao,ζ hj,bF] at hy;cases hr:row[off+j]? with
    |none=>grind
    |some y0=>
     rw [hr] at hy;cases hy;exact ⟨by grind,.k (.d (h3 _ _ hr).2)⟩
  ·rename_i z' rs i' row hrs;obtain ⟨⟨hz,rfl⟩,hk⟩:=hk;obtain rfl:=kH hz;obtain ⟨b',cap,arr,ty',hb,h1,h2,h3,h4,⟨h0,hrz⟩,h5,h6⟩:=hC.ok.hr.rep id _ _ hρ hrs;simp only [Value.slice.injEq,aE,Addr.mk.injEq,ω] at hb;obtain ⟨rfl,_,_⟩:=hb;cases m with
   |none=>
    simp only [get?_eq] at hk;split at hk
    ·rename_i v hvv;have hol:off<row.length:=(aC.1 hvv).1;have hle:i*z+z≤arr.size:=by
      rw [h4];have:(i+1)*z≤cap*z:=bB _ (by omega)
      grind
     refine wz hC hn ho hp hl (v':=arr.getD (i*z+off) undef) ?_ (h6 off v hvv) hk;rw [dC h1,aF,aN (by omega)];rfl
    grind
   |some k=>grind
  grind
 grind
theorem TU (hC:ak E n G ρ t h a w) (hn:iQ E n a o K bV) {ty t1:TypeId} {x:Operand} {f:Nat} {fs:Array Field} {fd:Field} {ox:O} (ho:o.op = .fieldAddr ty x f) (hu:P.underlying ty=some (.struct fs)) (hf:fs[f]? = some fd)
  (hz:P.cellsOf fd.type≠0) (hx:cX P t1 x=some ox) (hk:bq S ow (.fa ox fd.offset) t h K KP):o.wp P a w bV Q:=by
 have hv:=bG hC hx;have hrun:∀ad:Addr,a.eval x = .pointer (some ad)→(execOp a.eval o).run P w = .ok (.value (.pointer (some (ad.add fd.offset)))) w:=by
  intro ad had;unfold Program.cellsOf at hz;cases hi:P.info? fd.type with
  |none=>grind
  |some i=>
   rw [hi] at hz;simp at hz;simp [execOp,ho,had,Instr.fieldAt,run_underlying hu,hf,Instr.sureAddr,fieldPlace,sizeOf,typeInfo,hi,hz]
 simp only [bq] at hk;split at hk
 ·rename_i id off hg;rw [hg] at hv;obtain ⟨b,hp,hρ⟩:=hv.pt;rw [cZ] at hk;refine an hC hn (hrun _ hp) ?_ hk;rw [dx];exact .k (.p id _ b hρ)
 ·rename_i row off hg;rw [hg] at hv;obtain ⟨b,oo,U,hp,hGb,hU,hD⟩:=hv.el;rw [cZ] at hk;refine an hC hn (hrun _ hp) ?_ hk;rw [dx,jI];exact .k (.e b oo _ row U hGb hU hD)
 ·rename_i id z i off hg;rw [hg] at hv;obtain ⟨b,nn,c,hp,hρ⟩:=hv.ql;rw [cZ] at hk;refine an hC hn (hrun _ hp) ?_ hk;rw [dx,jI];exact .k (.q id z i _ b nn c hρ)
 grind
theorem TT (hC:ak E n G ρ t h a w) (hn:iQ E n a o K bV) {ty e t1 t2:TypeId} {x i:Operand} {ox oi:O} (ho:o.op = .indexAddr ty x i) (hu:P.underlying ty=some (.slice e)) (hc0:P.cellsOf e≠0) (hx:cX P t1 x=some ox) (hi:cX P t2 i=some oi)
  (hk:bq S ow (.ia ox oi (P.cellsOf e)) t h K KP):o.wp P a w bV Q:=by
 have hvx:=bG hC hx;have hvi:=bG hC hi;have hrun:∀(b off len cap:Nat) (k:IntKind) (m:Int),a.eval x = .slice (some ⟨b,off,none⟩) len cap→a.eval i = .int k m→0≤m→m<len →
   (execOp a.eval o).run P w = .ok (.value (.pointer (some ⟨b,off+m.toNat*P.cellsOf e,none⟩))) w:=by
  intro b off len cap k m h1 h2 h3 h4;unfold Program.cellsOf at hc0 ⊢;cases hie:P.info? e with
  |none=>grind
  |some ie=>
   simp [execOp,ho,h1,h2,Instr.indexAt,asIntOf,run_underlying hu,h3,h4,sizeOf,typeInfo,hie,dx]
 simp only [bq] at hk;split at hk
 ·rename_i k m hgi;rw [hgi] at hvi;have hei:=hvi.int;have data:∀(z':Nat) (rows:List (List D)),bp G w (a.eval x) (.sl z' rows)→(∃row,(0≤m∧rows[m.toNat]? = some row∧Nat.beq z' (P.cellsOf e)=true)∧K (.e row 0) t h)→o.wp P a w bV Q:=by
   rintro z' rows hD ⟨row,⟨h0,hr,hz⟩,hk⟩
   obtain rfl:=kH hz;have hlt:m.toNat<rows.length:=(aC.1 hr).1;rcases hD.Rp with ⟨_,rfl⟩ | ⟨b,oo,cap,U,hv,g1,g2,g3,g4,g5,g6⟩
   grind
   ·refine an hC hn (hrun b oo rows.length cap k m hv hei h0 (by omega)) ?_ hk;exact .k (.e b (oo+m.toNat*P.cellsOf e) 0 row (λj=>U m.toNat j) g3 (λj x hj=>by grind) (λj x hj=>g6 _ _ _ _ hr hj))
  split at hk
  ·rename_i z' rows hgx;rw [hgx] at hvx;exact data z' rows hvx.qu hk
  ·rename_i z' rows hgx;rw [hgx] at hvx;obtain ⟨ad,nn,hv,hD⟩:=hvx.PA
   grind
  ·rename_i id hgx;rw [hgx] at hvx;obtain ⟨ad,nn,c,hv,hρ⟩:=hvx.QG;rw [get?_eq] at hk;split at hk
   ·rename_i z' rs hrs;obtain ⟨⟨h0,hlt,hz⟩,hk⟩:=hk;obtain rfl:=kH hz;have hlt':m.toNat<rs.length:=by omega
    obtain ⟨b',cap,arr,ty',hb,h1,h2,hle,h3⟩:=j9 (hC.ok.hr.rep id _ _ hρ hrs) (aA hlt');simp only [Value.slice.injEq] at hb;obtain ⟨rfl,rfl,rfl⟩:=hb;refine an hC hn (hrun b' 0 rs.length c k m hv hei h0 hlt) ?_ hk;rw [cF];exact .k (.q id _ _ 0 b' _ _ hρ)
   grind
  grind
 grind
end
end
theorem j4 {α:Type}:∀(cs:List α) (off:Nat) (vs:List α),(lay cs off vs).length=cs.length
 |cs,0,[]=>by cases cs<;>rfl
 |_ :: r,0,v :: vs=>by simp [lay,j4 r 0 vs]
 |[],0,_ :: _=>rfl
 |[],_+1,_=>rfl
 |c :: r,n+1,vs=>by simp [lay,j4 r n vs]
theorem nr {α:Type}:∀(cs:List α) (off:Nat) (vs:List α) (i:Nat),(lay cs off vs)[i]? = if i<off then cs[i]? else if i - off<vs.length∧i<cs.length then vs[i - off]? else cs[i]?
 |cs,0,[],i=>by cases cs<;>simp [lay]
 |c :: r,0,v :: vs,i=>by
  cases i with
  |zero=>rfl
  |succ i=>
   have:=nr r 0 vs i;simp only [lay,eY,this];simp
 |[],0,_ :: _,i=>by simp [lay]
 |[],n+1,_,i=>by simp [lay]
 |c :: r,n+1,vs,i=>by
  cases i with
  |zero=>rfl
  |succ i=>
   have:=nr r n vs i;simp only [lay,eY,this]
   grind
theorem mh {α:Type} {l:List α} {i:Nat} {x:α} (h:l[i]? = some x):l.set i x=l:=by
 apply cR
 grind
section
variable {E:gL} {G:Nat→Prop} {w w':World} {ρ:List Value} {h:H} {n:Nat} {t:T} {a:Act}
theorem ak.sP (hC:ak E n G ρ t h a w) {id:Nat} {v0:Value} {x0 x1:B} (hv:ρ[id]? = some v0) (hx:h[id]? = some x0) (hn:x0≠.no) (hs:w.heap.size≤w'.heap.size)
  (same:∀b,b<w.heap.size→b∉eU v0 x0→w'.heap[b]? = w.heap[b]?) (ho:w'.os=w.os) (ht:w'.tape=w.tape) (hou:w'.output=w.output)
  (new:cY G w' ρ v0 x1) (hg1:∀b∈gh x1,b∈eU v0 x0∨w.heap.size≤b):ak E n G ρ t (h.set id x1) a w':=by
 have hset:=mh hv;have hO:=hC.ok.SL (v1:=v0) (x1:=x1) (w':=w') hv hx hn hs same ho ht hou (by grind) (λb hb=>(bR.1 hb).elim (λh=>.inl (bR.2 (.inl h))) (hg1 b)) (λ_=>rfl) h rfl
  (λj y hy hj=>⟨y,hy,Iff.rfl,rfl,λv hv' hr=>by grind⟩)
 rw [hset] at hO;exact ⟨hO,hC.df,hC.sz,λi=>(hC.tm i).mono (λ_ h=>h) (λb hb=>same b (hC.ok.hr.gl b hb) (λe=>hC.ok.hr.gd b hb ⟨id,v0,x0,hv,hx,hn,e⟩)) (λ_ _=>rfl)⟩
theorem ak.F3 (hC:ak E n G ρ t h a w) {id:Nat} {v0:Value} {x0 x1:B} (hv:ρ[id]? = some v0) (hx:h[id]? = some x0) (hn:x0≠.no) (hs:w'.heap.size=w.heap.size)
  (same:∀b,fO v0≠some b→w'.heap[b]? = w.heap[b]?) (ho:w'.os=w.os) (ht:w'.tape=w.tape) (hou:w'.output=w.output)
  (new:cY G w' ρ v0 x1) (hgh:gh x1 = []:=by rfl):ak E n G ρ t (h.set id x1) a w':=
 hC.sP hv hx hn (by omega) (λb _ hb=>same b λe=>hb (bR.2 (.inl e))) ho ht hou new (λb hb=>by grind)
theorem ak.PW (hC:ak E n G ρ t h a w) {id:Nat} {v0 v1:Value} {x0 x1:B} (hv:ρ[id]? = some v0) (hx:h[id]? = some x0) (hn:x0≠.no) (hsl:kN v0=true) (hs:w.heap.size≤w'.heap.size)
  (same:∀b,b<w.heap.size→fO v0≠some b→w'.heap[b]? = w.heap[b]?) (ho:w'.os=w.os) (ht:w'.tape=w.tape) (hou:w'.output=w.output)
  (new:cY G w' (ρ.set id v1) v1 x1) (hb1:∀b,fO v1=some b→fO v0=some b∨w.heap.size≤b) (hgh:gh x1 = []:=by rfl) :
  ak E n G (ρ.set id v1) (ju id t) ((h.map (gV id)).set id x1) a w':=by
 have hO:=hC.ok.XW (v1:=v1) (x1:=x1) (w':=w') hv hx hn hs same ho ht hou new hb1 (λe=>by grind) (h.map (gV id)) (by simp)
  (λj y hy hj=>by
   rw [aB] at hy;cases hj':h[j]? with
   |none=>grind
   |some y0=>
    rw [hj'] at hy;cases hy;exact ⟨y0,rfl,by cases y0<;>simp [gV],ny _ _,λv hv' hr=>hr.tX hv hsl⟩) (λb hb=>by grind)
 refine ⟨hO,hC.df,hC.sz,λi=>?_⟩;rw [ju,q6 _ rfl];exact ((hC.tm i).tX (v1:=v1) hv hsl).mono (λ_ h=>h) (λb hb=>same b (hC.ok.hr.gl b hb) (λe=>hC.ok.hr.gd b hb ⟨id,v0,x0,hv,hx,hn,bR.2 (.inl e)⟩)) (λ_ _=>rfl)
theorem zI {G:Nat→Prop} {w:World} {ρ:List Value}:∀{c:List V} {ds:List D} {U:Nat→Value},vp c=some ds→(∀(i:Nat) (x:V),c[i]? = some x→dL G w ρ (U i) x)→ds.length=c.length∧∀(i:Nat) (x:D),ds[i]? = some x→bp G w (U i) x
 |[],ds,U,h,_=>by cases h;grind
 |x :: r,ds,U,h,hr=>by
  unfold vp at h;split at h
  ·rename_i a b ha hb;cases h;obtain ⟨h1,h2⟩:=zI (U:=λi=>U (i+1)) hb λi x hx=>hr (i+1) x hx;refine ⟨by grind,λi y hy=>?_⟩;cases i with
   |succ i=>grind
   |zero=>
    simp at hy;subst hy;have h0:=hr 0 x rfl;show bp G w (U 0) a;generalize U 0=u at h0;cases x<;>cases ha
    ·cases h0 with | d h=>exact h
    ·cases h0 with | e b o _ _ U1 h1 h2 h3=>exact .pt b o _ _ U1 h1 h2 h3
  grind
theorem BO {K:List D→T→H→Prop}:∀(vs:List V) (G:Nat→Prop) (t:T) (h:H) (U:Nat→Value),ak E n G ρ t h a w→(∀(i:Nat) (x:V),vs[i]? = some x→dI G w ρ (U i) x)→BP vs t h K →
  ∃(G':Nat→Prop) (t':T) (h':H) (ds:List D),ak E n G' ρ t' h' a w∧(∀b,G b→G' b)∧ds.length=vs.length∧(∀(i:Nat) (d:D),ds[i]? = some d→bp G' w (U i) d)∧K ds t' h':=by
 intro vs
 induction vs generalizing K with
 |nil=>intro G t h U hC _ hk;exact ⟨G,t,h,[],hC,λ_ h=>h,rfl,by simp,hk⟩
 |cons v vs ih=>
  intro G t h U hC hU hk;have hv:=hU 0 v rfl;have go:∀(d:D) (G1:Nat→Prop) (t1:T) (h1:H),ak E n G1 ρ t1 h1 a w→(∀b,G b→G1 b)→bp G1 w (U 0) d→BP vs t1 h1 (λxs t h=>K (d :: xs) t h) →
    ∃(G':Nat→Prop) (t':T) (h':H) (ds:List D),ak E n G' ρ t' h' a w∧(∀b,G b→G' b)∧ds.length=(v :: vs).length∧(∀(i:Nat) (d:D),ds[i]? = some d→bp G' w (U i) d)∧K ds t' h':=by
   intro d G1 t1 h1 hC1 hG1 hd hk1;obtain ⟨G',t',h',ds,g1,g2,g3,g4,g5⟩:=ih G1 t1 h1 (λi=>U (i+1)) hC1 (λi x hi=>(hU (i+1) x (by grind)).mono hG1 (λ_ _=>rfl) (λ_ _=>rfl)) hk1;refine ⟨G',t',h',d :: ds,g1,λb hb=>g2 b (hG1 b hb),by grind,λi y hi=>?_,g5⟩;cases i with
   |zero=>simp at hi;subst hi;exact hd.mono g2 (λ_ _=>rfl)
   |succ i=>grind
  cases v with
  |d x=>
   exact go x G t h hC (λ_ h=>h) (au.c hv).qu hk
  |cl z rs=>
   have:bp G w (U 0) (.sl z rs):=by
    have:=(au.c hv).PA
    grind
   exact go _ G t h hC (λ_ h=>h) this hk
  |fc f caps=>
   cases caps with
   |nil=>
    have:bp G w (U 0) (.fn f):=by
     obtain ⟨cs,h1,h2,_⟩:=(au.c hv).Nv;rw [xL h1 (by grind)];exact .fn f
    exact go _ G t h hC (λ_ h=>h) this hk
   |cons c cs=>
    simp only [iP,tv] at hk;split at hk
    ·rename_i ds hD;have:bp G w (U 0) (.fc f ds):=by
      generalize U 0=u at hv;cases hv with
      |k h=>cases h
      |fc _ _ as _ h1 h2 h3=>
       obtain ⟨h4,h5⟩:=zI hD (U:=λi=>as.getD i undef) h3;exact .fc f _ as ds h1 (h2.trans h4.symm) h5
     grind
    grind
  |os id=>
   simp only [iP,tv,get?_eq] at hk;split at hk
   ·rename_i z rs hx;simp only [jR,f_] at hk;obtain ⟨v0,hv0,hd,hC'⟩:=hC.free hx;obtain ⟨a',n',c',h1,h2⟩:=(au.c hv).QG
    grind
   grind
  |un | ud | ag _ | tu _ | p _ _ | e _ _ | q _ _ _ _ | nl _ | mp _ | ov _ _ _ | it _ _=>exact hk.elim
end
section
variable {P:Program} {E:gL} {n:Nat} {G:Nat→Prop} {ρ:List Value} {t:T} {h:H} {a:Act} {w:World} {o:Oper} {bV:Act→World→Prop} {Q:Exit→Act→World→Prop} {K KP:V→T→H→Prop}
variable (S:Nat→List V→H→(Out→H→Prop)→Prop) (ow:Nat→Bool)
theorem AV {ty ty':TypeId} {b off m:Nat} {arr:Array Value} {v:Value} (hb:w.heap[b]? = some (.cells arr ty' (0,0))) (hm:(P.info? ty).map (·.size)=some m) (hs:v.cells.size=m) (hle:off+m≤arr.size) (h1:∀u∈v.cells.toList,u.oneCell'=true) :
  (storeVar ty ⟨b,off,none⟩ v).run P w = .ok () (w.setRow b (arr.toList.take off++v.cells.toList++arr.toList.drop (off+m)).toArray):=by
 cases hi:P.info? ty with
 |none=>grind
 |some i=>
  rw [hi] at hm;simp at hm;have:=run_storeCells_at (P:=P) b off ty' v.cells.toList 0 arr w hb (by grind) h1;simp only [eQ,dW,hs] at this;simp [storeVar,sizeOf,typeInfo,hi,hm,hs,this]
theorem nh {arr:Array Value} {off m:Nat} {us:List Value} (hm:us.length=m) (hle:off+m≤arr.size) (i:Nat):(arr.toList.take off++us++arr.toList.drop (off+m)).toArray.getD i undef=if off≤i∧i<off+m then us.getD (i - off) undef else arr.getD i undef:=by
 simp only [aF,fJ,a8]
 by_cases h1:i<off
 grind
 grind
theorem Sv (hC:ak E n G ρ t h a w) (hn:iQ E n a o K bV) {ty t1 t2:TypeId} {x v:Operand} {ox ov:O} {m:Nat} (ho:o.op = .store ty x v) (hx:cX P t1 x=some ox) (hv:cX P t2 v=some ov) (hm:(P.info? ty).map (·.size)=some m)
    (hk:bq S ow (.st ox ov m) t h K KP):o.wp P a w bV Q:=by
  have hvx:=bG hC hx
  have hvv:=bG hC hv
  simp only [bq] at hk
  split at hk
  · rename_i id off hg
    rw [hg] at hvx
    obtain ⟨b,hp,hρ⟩:=hvx.pt
    rw [get?_eq] at hk
    split at hk
    · rename_i cs hcs
      simp only [bf] at hk
      obtain ⟨⟨hl,hle,hst⟩,hk⟩:=hk
      have hl:=kH hl
      have hle:=bA hle
      obtain ⟨c1,c2⟩:=jE hvv hst
      obtain ⟨b',arr,ty',hb,h1,h2,h3⟩:=hC.ok.hr.rep id _ _ hρ hcs
      simp only [Value.pointer.injEq,aE,Addr.mk.injEq,ω] at hb
      obtain ⟨rfl,_⟩:=hb
      have hone:∀u∈(a.eval v).cells.toList,u.oneCell'=true:=by
        intro u hu
        obtain ⟨j,hj⟩:=aj.1 hu
        have hjl:j<(gv t ov).cs.length:=by
          grind
        have hr:=c2 j _ (aA hjl)
        have he:(a.eval v).cells.getD j undef=u:=by
          simp_all
        rw [he] at hr
        exact A9 hr (aS.1 hst _ (cP hjl))
      have hrun:=AV (P:=P) (ty:=ty) (off:=off) (v:=a.eval v) h1 hm (by grind) (by omega) hone
      have hlt:b<w.heap.size:=(aQ.1 h1).1
      have hC':=hC.F3 (w':=w.setRow b (arr.toList.take off++(a.eval v).cells.toList++arr.toList.drop (off+m)).toArray) (x1:=.cells (lay cs off (gv t ov).cs)) hρ hcs (by simp) (by simp)
        (λc hc=>setRow_other w b c _ (by simp only [fO,ne_eq,aE] at hc;omega)) rfl rfl rfl
        ⟨b,_,ty',rfl,setRow_heap w b arr _ ty' _ h1,by simp [j4,c1,hl];omega,λi y hi=>by
          rw [nh (by grind) (by omega)]
          rw [nr] at hi
          have hs':∀c,G c→(w.setRow b (arr.toList.take off++(a.eval v).cells.toList++arr.toList.drop (off+m)).toArray).heap[c]? = w.heap[c]?:=λc hc=>setRow_other w b c _ (λe=>by
            subst e;exact hC.ok.hr.gd c hc ⟨id,_,_,hρ,hcs,by simp,bR.2 (.inl rfl)⟩)
          by_cases hio:i<off
          · rw [ζ hio] at hi
            rw [η (by omega)]
            exact (h3 i y hi).mono (λ_ h=>h) hs' (λ_ _=>rfl)
          · rw [η hio] at hi
            by_cases him:i<off+m
            · rw [ζ ⟨by omega,by omega⟩] at hi
              rw [ζ ⟨by omega,him⟩]
              have:=c2 _ y hi
              rw [aF,←bt] at this
              rw [a8]
              exact this.mono (λ_ h=>h) hs' (λ_ _=>rfl)
            · rw [η (by omega)] at hi
              rw [η (by omega)]
              exact (h3 i y hi).mono (λ_ h=>h) hs' (λ_ _=>rfl)⟩
      refine jZ ?_ (hn undef _ _ _ _ _ _ hC' (.k .ud) hk)
      simp [execOp,ho,hp,Instr.storeAt,Instr.sureAddr,hrun]
    grind
  · rename_i id z i off hg
    rw [hg] at hvx
    obtain ⟨b,nn,c,hp,hρ⟩:=hvx.ql
    have hk2:(∃j,gv t ov = .os j∧stx id z i off m j h λh=>K .ud t h)∨Ui id z i off m (gv t ov).cs t h λt h=>K .ud t h:=by
      cases hgv:gv t ov with
      |os j=>rw [hgv] at hk;exact (Pj hk).imp (λh=>⟨_,rfl,h⟩) (λh=>h)
      |_=>rw [hgv] at hk;exact .inr hk
    clear hk
    rcases hk2 with ⟨j,hj,hk⟩ | hk
    · skip
      rw [hj] at hvv
      obtain ⟨aa,n2,c2,hval,hρj⟩:=hvv.QG
      unfold stx at hk
      rw [get?_eq] at hk
      split at hk
      · rename_i z' rs hrs
        obtain ⟨row,hrow,⟨hz,hl,hle⟩,hk⟩:=hk
        simp only [pC,bf] at hk
        obtain rfl:=kH hz
        obtain rfl:=kH hl
        have hle:=bA hle
        have jb:(a.eval v).cells = #[.slice aa n2 c2]:=by rw [hval];rfl
        obtain ⟨b',cap,arr,ty',hb,h1,hrz,hle2,h3⟩:=j9 (hC.ok.hr.rep id _ _ hρ hrs) hrow
        simp only [Value.slice.injEq,aE,Addr.mk.injEq,ω] at hb
        obtain ⟨rfl,rfl,rfl⟩:=hb
        have hone:∀u∈(a.eval v).cells.toList,u.oneCell'=true:=by
          intro u hu
          rw [jb] at hu
          simp only [aL] at hu
          rw [hu]
          rfl
        have hrun:=AV (P:=P) (ty:=ty) (off:=i*z+off) (v:=a.eval v) h1 hm (by grind) (by omega) hone
        rcases hC.ok.hr.rep id _ _ hρ hrs with ⟨he,_⟩ | ⟨b2,cap2,arr2,ty2,he,k1,k2,k3,k4,k5⟩
        grind
        · simp only [Value.slice.injEq,aE,Addr.mk.injEq,ω] at he
          obtain ⟨rfl,_,rfl⟩:=he
          rw [h1] at k1
          simp only [aE,Obj.cells.injEq,ω] at k1
          obtain ⟨rfl,rfl⟩:=k1
          have hil:i<rs.length:=(aC.1 hrow).1
          have hs':∀b3,G b3→(w.setRow b (arr.toList.take (i*z+off)++(a.eval v).cells.toList++arr.toList.drop (i*z+off+1)).toArray).heap[b3]? = w.heap[b3]?:=λb3 hc=>setRow_other w b b3 _ (λe=>by
            subst e;exact hC.ok.hr.gd _ hc ⟨id,_,_,hρ,hrs,by simp,bR.2 (.inl rfl)⟩)
          have hC2:=hC.F3 (w':=w.setRow b (arr.toList.take (i*z+off)++(a.eval v).cells.toList++arr.toList.drop (i*z+off+1)).toArray) (x1:=.rx z rs i (lay (row.map .d) off [V.os j])) hρ hrs (by simp) (by simp)
            (λc hc=>setRow_other w b c _ (by simp only [fO,ne_eq,aE] at hc;omega)) rfl rfl rfl
            ⟨b,c,_,ty',rfl,setRow_heap w b arr _ ty' _ h1,k2,k3,by
              grind,
              ⟨hil,by rw [j4,aH,hrz]⟩,λi' row' hi' hne=>by
              refine ⟨(k5 i' row' hi').1,λjj x hj'=>?_⟩
              have hrl:=(k5 i' row' hi').1
              have hjl:jj<z:=by grind
              rw [nh (m:=1) (by grind) (by omega)]
              rw [η (by
                intro hh
                rcases Nat.lt_or_gt_of_ne (λe=>hne e:i'≠i) with hlt | hgt
                · have:(i'+1)*z≤i*z:=bB _ hlt
                  grind
                · have:(i+1)*z≤i'*z:=bB _ hgt
                  grind)]
              exact ((k5 i' row' hi').2 jj x hj').mono (λ_ h=>h) hs',λjj x hj'=>by
              rw [nh (m:=1) (by grind) (by omega)]
              rw [nr] at hj'
              by_cases hjo:jj<off
              · rw [ζ hjo,aB] at hj'
                rw [η (by omega)]
                cases hr:row[jj]? with
                |none=>grind
                |some x0=>rw [hr] at hj';cases hj';exact .k (.d ((h3 jj x0 hr).2.mono (λ_ h=>h) hs'))
              · rw [η hjo] at hj'
                by_cases hjm:jj<off+1
                · rw [ζ ⟨by grind,by grind⟩] at hj'
                  rw [ζ ⟨by omega,by omega⟩]
                  obtain rfl:jj=off:=by omega
                  simp only [qm,gE,aE] at hj'
                  subst hj'
                  rw [jb]
                  simp only [qm]
                  exact .k (.os j aa n2 c2 hρj)
                · rw [η (by grind),aB] at hj'
                  rw [η (by omega)]
                  cases hr:row[jj]? with
                  |none=>grind
                  |some x0=>rw [hr] at hj';cases hj';exact .k (.d ((h3 jj x0 hr).2.mono (λ_ h=>h) hs'))⟩
          refine jZ ?_ (hn undef _ _ _ _ _ _ hC2 (.k .ud) hk)
          simp [execOp,ho,hp,Instr.storeAt,Instr.sureAddr,hrun]
      grind
    unfold Ui at hk
    by_cases hst:(gv t ov).cs.all fA=true
    · obtain ⟨c1, c2⟩ := jE hvv hst
      obtain ⟨G',t',h',ds,hC1,hG',hdl,hds,hk⟩:=BO (gv t ov).cs G t h (λi=>(a.eval v).cells.getD i undef) hC c2 hk
      rw [get?_eq] at hk
      split at hk
      · rename_i z' rs hrs
        simp only [bf] at hk
        obtain ⟨row,hrow,⟨hz,hl,hle⟩,hk⟩:=hk
        obtain rfl:=kH hz
        have hl:=kH hl
        have hle:=bA hle
        obtain ⟨b',cap,arr,ty',hb,h1,hrz,hle2,h3⟩:=j9 (hC1.ok.hr.rep id _ _ hρ hrs) hrow
        simp only [Value.slice.injEq,aE,Addr.mk.injEq,ω] at hb
        obtain ⟨rfl,rfl,rfl⟩:=hb
        have hone:∀u∈(a.eval v).cells.toList,u.oneCell'=true:=by
          intro u hu
          obtain ⟨j,hj⟩:=aj.1 hu
          have hjl:j<(gv t ov).cs.length:=by
            grind
          have hr:=c2 j _ (aA hjl)
          have he:(a.eval v).cells.getD j undef=u:=by
            simp_all
          rw [he] at hr
          exact A9 hr (aS.1 hst _ (cP hjl))
        have hrun:=AV (P:=P) (ty:=ty) (off:=i*z+off) (v:=a.eval v) h1 hm (by grind) (by omega) hone
        have hrep:=hC1.ok.hr.rep id _ _ hρ hrs
        rcases hrep with ⟨he,_⟩ | ⟨b2,cap2,arr2,ty2,he,k1,k2,k3,k4,k5⟩
        grind
        · simp only [Value.slice.injEq,aE,Addr.mk.injEq,ω] at he
          obtain ⟨rfl,_,rfl⟩:=he
          rw [h1] at k1
          simp only [aE,Obj.cells.injEq,ω] at k1
          obtain ⟨rfl,rfl⟩:=k1
          have hil:i<rs.length:=(aC.1 hrow).1
          have hC2:=hC1.F3 (w':=w.setRow b (arr.toList.take (i*z+off)++(a.eval v).cells.toList++arr.toList.drop (i*z+off+m)).toArray) (x1:=.rows z (rs.set i (lay row off ds))) hρ hrs (by simp) (by simp)
            (λc hc=>setRow_other w b c _ (by simp only [fO,ne_eq,aE] at hc;omega)) rfl rfl rfl
            (.inr ⟨b,c,_,ty',by simp,setRow_heap w b arr _ ty' _ h1,by grind,k3,by
              grind,λi' row' hi'=>by
              have hs':∀c,G' c→(w.setRow b (arr.toList.take (i*z+off)++(a.eval v).cells.toList++arr.toList.drop (i*z+off+m)).toArray).heap[c]? = w.heap[c]?:=λc hc=>setRow_other w b c _ (λe=>by
                subst e;exact hC1.ok.hr.gd c hc ⟨id,_,_,hρ,hrs,by simp,bR.2 (.inl rfl)⟩)
              rw [dE] at hi'
              split at hi'
              · rename_i hii
                subst hii
                cases hi'
                refine ⟨by rw [j4,hrz],λj x hj=>?_⟩
                rw [nh (by grind) (by omega)]
                rw [nr] at hj
                by_cases hjo:j<off
                · rw [ζ hjo] at hj
                  rw [η (by omega)]
                  exact (h3 j x hj).2.mono (λ_ h=>h) hs'
                · rw [η hjo] at hj
                  by_cases hjm:j<off+m
                  · rw [ζ ⟨by omega,by omega⟩] at hj
                    rw [ζ ⟨by omega,by omega⟩]
                    have:=hds _ x hj
                    rw [show i*z+j - (i*z+off)=j - off by omega]
                    rw [aF,←bt] at this
                    rw [a8]
                    exact this.mono (λ_ h=>h) hs'
                  · rw [η (by omega)] at hj
                    rw [η (by omega)]
                    exact (h3 j x hj).2.mono (λ_ h=>h) hs'
              · rename_i hii
                refine ⟨(k5 i' row' hi').1,λj x hj=>?_⟩
                have hrl:=(k5 i' row' hi').1
                have hjl:j<z:=by grind
                rw [nh (by grind) (by omega)]
                rw [η (by
                  intro hh
                  rcases Nat.lt_or_gt_of_ne (λe=>hii e:i≠i') with hlt | hgt
                  · have:(i+1)*z≤i'*z:=bB _ hlt
                    grind
                  · have:(i'+1)*z≤i*z:=bB _ hgt
                    grind)]
                exact ((k5 i' row' hi').2 j x hj).mono (λ_ h=>h) hs'⟩)
          refine jZ ?_ (hn undef _ _ _ _ _ _ hC2 (.k .ud) hk)
          simp [execOp,ho,hp,Instr.storeAt,Instr.sureAddr,hrun]
      grind
    · skip
      exfalso
      apply hst
      have:∀(vs:List V) (t:T) (h:H) (K:List D→T→H→Prop),BP vs t h K→vs.all fA=true:=by
        intro vs
        induction vs with
        |nil=>grind
        |cons v vs ih=>
          intro t h K hf
          cases v<;>first | exact hf.elim | skip
          · simpa [fA] using ih _ _ _ hf
          · rename_i id
            simp only [iP,tv] at hf
            split at hf
            · simp only [jR,f_] at hf
              simpa [fA] using ih _ _ _ hf
            grind
          · simpa [fA] using ih _ _ _ hf
          · rename_i f caps
            cases caps with
            |nil=>simpa [fA] using ih _ _ _ hf
            |cons=>
              simp only [iP,tv] at hf
              split at hf
              · simpa [fA] using ih _ _ _ hf
              grind
      grind
  grind
end
theorem KY {k:IntKind} {n:Int} (h:eK k n):k.wrap n=n:=by
 unfold IntKind.wrap;cases k<;>simp only [eK] at h<;>simp [IntKind.bits,IntKind.signed]<;>omega
theorem BR {G:Nat→Prop} {w:World} {v:Value} {f:Nat} (h:bp G w v (.fn f)):v = .func (.func f) #[] #[]:=by cases h;rfl
section
variable {P:Program} {E:gL} {n:Nat} {G:Nat→Prop} {ρ:List Value} {t:T} {h:H} {a:Act} {w:World} {o:Oper} {bV:Act→World→Prop} {Q:Exit→Act→World→Prop} {K KP:V→T→H→Prop}
variable (S:Nat→List V→H→(Out→H→Prop)→Prop) (ow:Nat→Bool)
theorem qf (hC:ak E n G ρ t h a w) (hn:iQ E n a o K bV) {k:IntKind} {m:Int} (hr:(execOp a.eval o).run P w = .ok (.value (.int k (k.wrap m))) w) (hk:xX k m λm=>K (.d (.int k m)) t h):o.wp P a w bV Q:=by
 rcases hk with ⟨h1,h2⟩ | h2
 ·rw [KY h1] at hr;exact an hC hn hr (.d (.int k m)) h2
 ·exact an hC hn hr (.d (.int k _)) h2
theorem Gk (hC:ak E n G ρ t h a w) (hn:iQ E n a o K bV) {b:BinOp} {ty t1 t2 t3:TypeId} {x y:Operand} {ox oy:O} (ho:o.op = .binOp b ty x y t3) (hx:cX P t1 x=some ox) (hy:cX P t2 y=some oy)
  (hk:bq S ow (.bin b ox oy) t h K KP):o.wp P a w bV Q:=by
 have hvx:=bG hC hx;have hvy:=bG hC hy;simp only [bq] at hk;split at hk
 ·rename_i p q hgx hgy;rw [hgx] at hvx;rw [hgy] at hvy;obtain ⟨s1,e1,rfl,m1⟩:=hvx.str;obtain ⟨s2,e2,rfl,m2⟩:=hvy.str;cases b<;>simp only at hk<;>try exact hk.elim
  have hsz:(s1++s2).size≤maxLen:=by
   have h1:=hk.1;rw [dW,dW] at h1;rw [ByteArray.size_append];exact h1
  have hadd:=run_string_add_sum (P:=P) (w:=w) s1 s2 (by
   simp_all)
  refine an hC hn (v':=.string (s1++s2)) ?_ (.d ?_) hk.2
  ·simp [execOp,ho,e1,e2,eqGuard,binOp,hadd]
  ·have:=bp.str (G:=G) (w:=w) (s1++s2) hsz;simp_all
 ·rename_i k p k' q hgx hgy;rw [hgx] at hvx;rw [hgy] at hvy;have e1:=hvx.int;have e2:=hvy.int;cases hsh:S5 b<;>rw [hsh] at hk;rotate_left
  ·simp only [δ] at hk;obtain ⟨h0,hk⟩:=hk;have hr:(execOp a.eval o).run P w = .ok (.value (.int k (AS b k p q))) w:=by
    cases b<;>simp only [S5,cj] at hsh
    ·simp [execOp,ho,e1,e2,eqGuard,binOp,Op.shift,AS,η (Int.not_lt.2 h0)]
    ·simp [execOp,ho,e1,e2,eqGuard,binOp,Op.shift,AS,η (Int.not_lt.2 h0)]
   exact an hC hn hr (.d (.int _ _)) hk
  simp only [ε] at hk;cases hkn:Nat.beq (kn k) (kn k')<;>rw [hkn] at hk
  grind
  obtain rfl:k=k':=by revert hkn;cases k<;>cases k'<;>simp [kn]
  simp only [δ] at hk;cases b<;>simp only at hk<;>try (first | exact hk.elim | (simp [S5] at hsh;done))
  ·exact qf hC hn (by simp [execOp,ho,e1,e2,eqGuard,binOp,Op.intArith]) hk
  ·exact qf hC hn (by simp [execOp,ho,e1,e2,eqGuard,binOp,Op.intArith]) hk
  ·exact qf hC hn (by simp [execOp,ho,e1,e2,eqGuard,binOp,Op.intArith]) hk
  ·exact qf hC hn (by simp [execOp,ho,e1,e2,eqGuard,binOp,Op.intDiv,hk.1]) hk.2
  ·exact an hC hn (v':=.int k (p.tmod q)) (by simp [execOp,ho,e1,e2,eqGuard,binOp,Op.intDiv,hk.1]) (.d (.int _ _)) hk.2
  ·exact an hC hn (v':=.int k (jG .and k p q)) (by simp [execOp,ho,e1,e2,eqGuard,binOp,Op.intBits,jG]) (.d (.int _ _)) hk
  ·exact an hC hn (v':=.int k (jG .or k p q)) (by simp [execOp,ho,e1,e2,eqGuard,binOp,Op.intBits,jG]) (.d (.int _ _)) hk
  ·exact an hC hn (v':=.int k (jG .xor k p q)) (by simp [execOp,ho,e1,e2,eqGuard,binOp,Op.intBits,jG]) (.d (.int _ _)) hk
  ·exact an hC hn (v':=.int k (jG .andNot k p q)) (by simp [execOp,ho,e1,e2,eqGuard,binOp,Op.intBits,jG]) (.d (.int _ _)) hk
  ·exact an hC hn (v':=.bool (p==q)) (by simp [execOp,ho,e1,e2,eqGuard,binOp,Op.intCmp]) (.d (.bool _)) hk
  ·exact an hC hn (v':=.bool (p != q)) (by simp [execOp,ho,e1,e2,eqGuard,binOp,Op.intCmp]) (.d (.bool _)) hk
  ·exact an hC hn (v':=.bool (decide (p<q))) (by simp [execOp,ho,e1,e2,eqGuard,binOp,Op.intCmp]) (.d (.bool _)) hk
  ·exact an hC hn (v':=.bool (decide (p≤q))) (by simp [execOp,ho,e1,e2,eqGuard,binOp,Op.intCmp]) (.d (.bool _)) hk
  ·exact an hC hn (v':=.bool (decide (q<p))) (by simp [execOp,ho,e1,e2,eqGuard,binOp,Op.intCmp]) (.d (.bool _)) hk
  ·exact an hC hn (v':=.bool (decide (q≤p))) (by simp [execOp,ho,e1,e2,eqGuard,binOp,Op.intCmp]) (.d (.bool _)) hk
 grind
theorem Su (hC:ak E n G ρ t h a w) (hn:iQ E n a o K bV) {u:UnOp} {ty t1:TypeId} {x:Operand} {ox:O} (ho:o.op = .unOp u ty x) (hx:cX P t1 x=some ox) (hk:bq S ow (.un u ox) t h K KP):o.wp P a w bV Q:=by
 have hvx:=bG hC hx;simp only [bq] at hk;split at hk
 ·rename_i b hgx;rw [hgx] at hvx;have e1:=hvx.bool;exact an hC hn (v':=.bool (!b)) (by simp [execOp,ho,e1,Op.unary]) (.d (.bool _)) hk
 ·rename_i k p hgx;rw [hgx] at hvx;have e1:=hvx.int;exact qf hC hn (by simp [execOp,ho,e1,Op.unary,Op.intArith]) hk
 grind
theorem TX (hC:ak E n G ρ t h a w) (hn:iQ E n a o K bV) {s d t1:TypeId} {k ks:IntKind} {x:Operand} {ox:O} (ho:o.op = .convert s d x) (hs:P.underlying s=some (.int ks)) (hd:P.underlying d=some (.int k)) (hx:cX P t1 x=some ox) (hk:bq S ow (.cv k ox) t h K KP):o.wp P a w bV Q:=by
 have hvx:=bG hC hx;simp only [bq] at hk;split at hk
 ·rename_i k' p hgx;rw [hgx] at hvx;have e1:=hvx.int;exact qf hC hn (by simp [execOp,ho,e1,Go.convert,run_underlying hs,run_underlying hd,Conv.intToInt]) hk
 grind
theorem TL (hC:ak E n G ρ t h a w) (hn:iQ E n a o K bV) {ty t1 e:TypeId} {x:Operand} {ox:O} (ho:o.op = .call { callee:=.builtin .len,args:= #[x],argTypes:= #[ty] })
  (hu:P.underlying ty=some (.slice e)) (hx:cX P t1 x=some ox) (hk:bq S ow (.ln ox) t h K KP):o.wp P a w bV Q:=by
 have hvx:=Cr (bG hC hx);have sl:∀(ad:Option Addr) (m c:Nat),a.eval x = .slice ad m c→(execOp a.eval o).run P w = .ok (.value (.int .i64 m)) w:=by
  intro ad m c hv;simp [execOp,ho,resolve,invoke,builtin,Builtin.len_,hv,run_underlying hu,goInt]
 simp only [bq] at hk;split at hk
 ·rename_i z r hg;rw [hg] at hvx;obtain ⟨ad,c,hv,hl⟩:=hvx.qu.len;exact an hC hn (sl _ _ _ hv) (.d (.int _ _)) (hk hl)
 ·rename_i z r hg;rw [hg] at hvx;obtain ⟨ad,m,hv,hD⟩:=hvx.PA;obtain ⟨ad',c,hv',hl⟩:=hD.len;rw [hv'] at hv;exact an hC hn (sl _ _ _ hv) (.d (.int _ _)) (hk hl)
 ·rename_i id hg;rw [hg] at hvx;obtain ⟨ad,m,c,hv,hρ⟩:=hvx.QG;rw [get?_eq] at hk;split at hk
  ·rename_i z r hr;rcases hC.ok.hr.rep id _ _ hρ hr with ⟨he,rfl⟩ | ⟨b,cap,arr,ty',he,_,hlc,hcm,_⟩
   ·cases he;exact an hC hn (sl _ _ _ hv) (.d (.int _ _)) (hk (by simp))
   ·cases he;exact an hC hn (sl _ _ _ hv) (.d (.int _ _)) (hk (aV hlc hcm))
  grind
 grind
theorem lF (s:ByteArray):s.size=s.data.toList.length:=(dW (xs:=s.data)).symm
theorem TK (hC:ak E n G ρ t h a w) (hn:iQ E n a o K bV) {ty t1:TypeId} {x:Operand} {ox:O} (ho:o.op = .call { callee:=.builtin .len,args:= #[x],argTypes:= #[ty] })
  (hu:P.underlying ty=some .string) (hx:cX P t1 x=some ox) (hk:bq S ow (.ls ox) t h K KP):o.wp P a w bV Q:=by
 have hvx:=bG hC hx;simp only [bq] at hk;split at hk
 ·rename_i s hg;rw [hg] at hvx;obtain ⟨s',hv,rfl,hm⟩:=hvx.str;refine an hC hn (v':=.int .i64 s'.size) ?_ (.d ?_) (hk (by assumption))
  ·simp [execOp,ho,resolve,invoke,builtin,Builtin.len_,hv,run_underlying hu,goInt]
  ·rw [←lF];exact .int _ _
 grind
theorem TF (hC:ak E n G ρ t h a w) (hn:iQ E n a o K bV) {ts:Array TypeId} {t1 t2:TypeId} {x y:Operand} {ox oy:O} (ho:o.op = .call { callee:=.builtin .min,args:= #[x,y],argTypes:=ts })
  (hx:cX P t1 x=some ox) (hy:cX P t2 y=some oy) (hk:bq S ow (.mn ox oy) t h K KP):o.wp P a w bV Q:=by
 have hvx:=bG hC hx;have hvy:=bG hC hy;simp only [bq] at hk;split at hk
 ·rename_i k p k' q hgx hgy;rw [hgx] at hvx;rw [hgy] at hvy;have e1:=hvx.int;have e2:=hvy.int;refine an hC hn (v':=.int k (min p q)) ?_ (.d (.int _ _)) hk;have:(if q<p then q else p)=min p q:=by omega
  simp [execOp,ho,resolve,invoke,builtin,Builtin.min_,Builtin.min2,e1,e2,this]
 grind
theorem TE (hC:ak E n G ρ t h a w) (hn:iQ E n a o K bV) {ts:Array TypeId} {t1 t2:TypeId} {x y:Operand} {ox oy:O} (ho:o.op = .call { callee:=.builtin .max,args:= #[x,y],argTypes:=ts })
  (hx:cX P t1 x=some ox) (hy:cX P t2 y=some oy) (hk:bq S ow (.mx ox oy) t h K KP):o.wp P a w bV Q:=by
 have hvx:=bG hC hx;have hvy:=bG hC hy;simp only [bq] at hk;split at hk
 ·rename_i k p k' q hgx hgy;rw [hgx] at hvx;rw [hgy] at hvy;have e1:=hvx.int;have e2:=hvy.int;refine an hC hn (v':=.int k (max p q)) ?_ (.d (.int _ _)) hk;have:(if q>p then q else p)=max p q:=by omega
  have h':(if p<q then q else p)=max p q:=by omega
  simp [execOp,ho,resolve,invoke,builtin,Builtin.max_,Builtin.max2,e1,e2,h']
 grind
theorem TV (hC:ak E n G ρ t h a w) (hn:iQ E n a o K bV) {t1:TypeId} {x:Operand} {i:Nat} {ox:O} (ho:o.op = .extract x i) (hx:cX P t1 x=some ox) (hk:bq S ow (.ex ox i) t h K KP):o.wp P a w bV Q:=by
 have hvx:=bG hC hx;simp only [bq] at hk;split at hk
 ·rename_i vs hg;rw [hg] at hvx;obtain ⟨cs,hv,hs,hr⟩:=hvx.Uh;rw [get?_eq] at hk;split at hk
  ·rename_i v hi;have hil:i<cs.size:=by grind
   refine an hC hn (v':=cs.getD i undef) ?_ (.o (hr i v hi)) hk;simp [execOp,ho,Instr.extract,hv,hil]
  grind
 grind
theorem TD (hC:ak E n G ρ t h a w) (hn:iQ E n a o K bV) {t1:TypeId} {x:Operand} {ox:O} (ho:o.op = .nilCheck x) (hx:cX P t1 x=some ox) (hk:bq S ow (.nc ox) t h K KP):o.wp P a w bV Q:=by
 have hvx:=bG hC hx;simp only [bq] at hk;split at hk
 ·rename_i i oo hg;rw [hg] at hvx;obtain ⟨b,hv,_⟩:=hvx.pt;exact an hC hn (v':=a.eval x) (by simp [execOp,ho,hv]) hvx hk
 ·rename_i r oo hg;rw [hg] at hvx;obtain ⟨b,_,_,hv,_⟩:=hvx.el;exact an hC hn (v':=a.eval x) (by simp [execOp,ho,hv]) hvx hk
 ·rename_i i z j oo hg;rw [hg] at hvx;obtain ⟨b,_,_,hv,_⟩:=hvx.ql;exact an hC hn (v':=a.eval x) (by simp [execOp,ho,hv]) hvx hk
 ·rename_i f c hg;rw [hg] at hvx;obtain ⟨cs,hv,_⟩:=hvx.Nv;cases hb:Nat.blt f 2000000<;>rw [hb] at hk
  grind
  have hlt:f<2000000:=by simp_all
  have hv':∃g y1 y2,a.eval x = .func (.func g) y1 y2:=by
   by_cases h1:f<1000000
   ·exact ⟨_,_,_,uB hv h1⟩
   ·exact ⟨_,_,_,BX hv h1 hlt⟩
  obtain ⟨g,y1,y2,hv'⟩:=hv';exact an hC hn (v':=a.eval x) (by simp [execOp,ho,hv']) hvx hk
 ·rename_i f hg;rw [hg] at hvx;have hv:a.eval x = .func (.func f) #[] #[]:=BR hvx.qu;exact an hC hn (v':=a.eval x) (by simp [execOp,ho,hv]) hvx hk
 ·rename_i row off hg;rw [hg] at hvx;have hv:=hvx.qu;generalize hav:a.eval x=av at hv;cases hv with
  |pt b o _ _ U h1 h2 h3=>exact an hC hn (v':=a.eval x) (by simp [execOp,ho,hav]) (by rw [hav];exact .k (.e b o off row U h1 h2 h3)) hk
 grind
end
end Go.Vx
