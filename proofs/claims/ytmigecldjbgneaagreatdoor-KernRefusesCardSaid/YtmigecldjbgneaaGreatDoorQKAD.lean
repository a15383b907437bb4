/- Lemmas. Conditions: none. -/
import Derived.Test.YtmigecldjbgneaaGreatDoorQKAC
import Derived.Laws.Slices
import Derived.Below
namespace Go.Vx
theorem get?_eq{α:Type}(l:List α)(n:Nat):get? l n=l[n]?:=by
 induction l generalizing n with
 |nil=>rfl
 |cons x r ih=>cases n<;>simp[get?,ih]
theorem bn{α:Type}(l:List α)(K:List α->Prop):fl l K=K l:=by
 induction l generalizing K with
 |nil=>rfl
 |cons x r ih=>rw[NI,ih]
theorem Jl(l:List Nat)(n:Nat)(K:Nat->Prop):Jm l n K=K n:=by
 induction l with
 |nil=>rfl
 |cons k r ih=>
  show(bif Nat.beq n k then K k else Jm r n K)=K n;simp_all
theorem cP(n:Nat)(K:Nat->Prop):iO n K=K n:=Jl _ n K
theorem Pc(v:V)(K:V->Prop):fv v K=K v:=by
 cases v<;>try rfl
 rename_i x;cases x<;>rfl
theorem Bu(v:V)(K:V->Prop):Ss v K=K v:=by
 cases v with
 |p i o=>exact cP i λi=>K (.p i o)
 |os i=>exact cP i λi=>K (.os i)
 |mp i=>exact cP i λi=>K (.mp i)
 |it i r=>exact cP i λi=>K (.it i r)
 |d x=>exact Pc (.d x) K
 |_=>rfl
theorem ph(l:List V)(K:List V->Prop):Rx l K=K l:=by
 induction l generalizing K with
 |nil=>rfl
 |cons x r ih=>
  show Ss x (λx=>Rx r λr=>K (x::r))=_;rw[Bu]
  grind
theorem VB(b:B)(K:B->Prop):fb b K=K b:=by
 cases b with
 |cells cs=>exact ph cs λcs=>K (.cells cs)
 |rx z rs i row=>exact ph row λrow=>K (.rx z rs i row)
 |ms z es out it=>
  match out with
  |none=>rfl
  |some (i,v)=>exact Bu v λv=>K (.ms z es (some (i,v)) it)
 |_=>rfl
theorem fH(l:List B)(K:List B->Prop):flb l K=K l:=by
 induction l generalizing K with
 |nil=>rfl
 |cons x r ih=>
  show fb x (λx=>flb r λr=>K (x::r))=_;rw[VB]
  grind
theorem j6(l:T)(K:T->Prop):pB l K=K l:=by
 induction l generalizing K with
 |nil=>rfl
 |cons p r ih=>
  obtain⟨i,v⟩:=p;show Ss v (λv=>pB r λr=>K ((i,v)::r))=_;rw[Bu]
  grind
theorem mQ(l:List Nat)(K:List Nat->Prop):Pg l K=K l:=by
 induction l generalizing K with
 |nil=>rfl
 |cons x r ih=>
  show iO x (λx=>Pg r λr=>K (x::r))=_;rw[cP]
  grind
theorem Sd(d:Option Nat)(v:V)(t:T)(K:T->Prop):pU d v t K=K (match d with|some i=>(i,v)::t|none=>t):=by
 cases d<;>simp[pU,Pc]
def FX(F:Nat)(v:Value)(cs:Array Value):Prop:=
 (F<1000000∧v = .func (.func F) #[] cs)∨(0<cs.size∧((∃f,F=f+1000000∧f<500000∧v = .func (.func f) cs #[]) ∨
  (∃t,F=t+2000000/\t<1000000/\v=.iface t (.agg cs))\/(∃t x,F=t+3000000/\t<1000000/\v=.iface t x/\x.cells=#[x]/\cs=#[x])\/(∃f,F=f+1500000/\f<500000/\v=.func (.func f) #[.agg cs] #[])))
theorem xr{F:Nat}{v:Value}{cs:Array Value}(h:FX F v cs)(hc:cs.size=0):v=.func (.func F) #[] #[]:=by
 rcases h with⟨_,rfl⟩|⟨h,_⟩
 grind
 grind
theorem xu{F:Nat}{v:Value}{cs:Array Value}(h:FX F v cs)(hF:F<1000000):v=.func (.func F) #[] cs:=by
 rcases h with⟨_,rfl⟩|⟨_,⟨f,rfl,_⟩|⟨f,rfl,_⟩|⟨f,x,rfl,_⟩|⟨f,rfl,_⟩⟩
 rfl
 all_goals omega
theorem Jt{F:Nat}{v:Value}{cs:Array Value}(h:FX F v cs)(h1:¬F<1000000)(h2:F<1500000):v=.func (.func (F-1000000)) cs #[]:=by
 rcases h with⟨h,rfl⟩|⟨_,⟨f,rfl,_,rfl⟩|⟨f,rfl,_⟩|⟨f,x,rfl,_⟩|⟨f,rfl,_⟩⟩
 grind
 simp
 all_goals omega
theorem Js{F:Nat}{v:Value}{cs:Array Value}(h:FX F v cs)(h1:¬F<1500000)(h2:F<2000000):v=.func (.func (F-1500000)) #[.agg cs] #[]:=by
 rcases h with⟨h,rfl⟩|⟨_,⟨f,rfl,_⟩|⟨f,rfl,_⟩|⟨f,x,rfl,_⟩|⟨f,rfl,_,rfl⟩⟩
 grind
 omega;omega;omega;simp
theorem Dc{F:Nat}{v:Value}{cs:Array Value}(h:FX F v cs)(h2:F<2000000):∃g y1 y2,v=.func (.func g) y1 y2:=by
 by_cases h1:F<1000000
 .exact⟨_,_,_,xu h h1⟩
 by_cases h3:F<1500000
 .exact⟨_,_,_,Jt h h1 h3⟩
 .exact⟨_,_,_,Js h h3 h2⟩
theorem wO{F:Nat}{v:Value}{cs:Array Value}(h:FX F v cs):v.cells=#[v]:=by
 rcases h with⟨_,rfl⟩|⟨_,⟨f,_,_,rfl⟩|⟨f,_,_,rfl⟩|⟨f,x,_,_,rfl,_⟩|⟨f,_,_,rfl⟩⟩<;>rfl
inductive bp(G:Nat->Prop)(w:World):Value->D->Prop
  |int (k:IntKind) (n:Int):bp G w (.int k n) (.int k n)
  |bool (b:Bool):bp G w (.bool b) (.bool b)
  |str (s:ByteArray):s.size<=maxLen->bp G w (.string s) (.str s.data.toList)
  |yv (z:Nat):bp G w (.slice none 0 0) (.sl z [])
  |sle (a:Addr) (z:Nat):bp G w (.slice (some a) 0 0) (.sl z [])
  |sl (b o cap z:Nat) (rows:List (List D)) (U:Nat->Nat->Value):rows.length<=cap->cap<=maxLen->G b ->
      (∀(i:Nat)(row:List D),rows[i]?=some row->row.length=z) ->
      (∀(i:Nat)(row:List D)(j:Nat)(x:D),rows[i]?=some row->row[j]?=some x->w.cell? ⟨b,o+(i*z+j),none⟩=some (U i j)) ->
      (∀(i:Nat)(row:List D)(j:Nat)(x:D),rows[i]?=some row->row[j]?=some x->bp G w (U i j) x) ->
      bp G w (.slice (some ⟨b,o,none⟩) rows.length cap) (.sl z rows)
  |np:bp G w (.pointer none) .np
  |nf:bp G w .nilFunc .nf
  |ni:bp G w .nilIface .ni
  |nm:bp G w (.map none) .nm
  |fn (f:Nat):bp G w (.func (.func f) #[] #[]) (.fn f)
  |fc (F:Nat) (v:Value) (cs:Array Value) (caps:List D):FX F v cs->cs.size=caps.length->(∀(i:Nat)(x:D),caps[i]?=some x->bp G w (cs.getD i undef) x)->bp G w v (.fc F caps)
  |pt (b o off:Nat) (row:List D) (U:Nat->Value):G b->(∀(j:Nat)(x:D),row[j]?=some x->w.cell? ⟨b,o+j,none⟩=some (U j)) ->
      (∀(j:Nat)(x:D),row[j]?=some x->bp G w (U j) x)->bp G w (.pointer (some ⟨b,o+off,none⟩)) (.pt row off)
theorem bp.mono{G G':Nat->Prop}{w w':World}{v:Value}{x:D}(h:bp G w v x)(hG:∀b,G b->G' b)(hw:∀b,G b->w'.heap[b]?=w.heap[b]?) :
  bp G' w' v x:=by
 induction h with
 |int k n=>exact .int k n
 |bool b=>exact .bool b
 |str s hs=>exact .str s hs
 |yv z=>exact .yv z
 |sle a z=>exact .sle a z
 |sl b o cap z rows U h1 h2 h3 h4 h5 _ ih=>
  refine .sl b o cap z rows U h1 h2 (hG b h3) h4 (λi row j x hr hx=>?_) ih;rw[<-h5 i row j x hr hx];exact World.cell?_of_block (w:=w) (w':=w') (a:=⟨b,o+(i*z+j),none⟩) (hw b h3)
 |np=>exact .np
 |nf=>exact .nf
 |ni=>exact .ni
 |nm=>exact .nm
 |fn f=>exact .fn f
 |fc F v cs caps h1 h2 _ ih=>exact .fc F v cs caps h1 h2 ih
 |pt b o off row U h1 h2 _ ih=>
  refine .pt b o off row U (hG b h1) (λj x hx=>?_) ih;rw[<-h2 j x hx];exact World.cell?_of_block (w:=w) (w':=w') (a:=⟨b,o+j,none⟩) (hw b h1)
theorem bp.cells{G:Nat->Prop}{w:World}{v:Value}{x:D}(h:bp G w v x):v.cells=#[v]:=by
 cases h<;>first|rfl|exact wO ‹_›
inductive dN(G:Nat->Prop)(w:World)(ρ:List Value):Value->V->Prop
  |un (v:Value):dN G w ρ v .un
  |ud:dN G w ρ undef .ud
  |d {v:Value} {x:D}:bp G w v x->dN G w ρ v (.d x)
  |p (id off b:Nat):ρ[id]?=some (.pointer (some ⟨b,0,none⟩))->dN G w ρ (.pointer (some ⟨b,off,none⟩)) (.p id off)
  |e (b o off:Nat) (row:List D) (U:Nat→Value):G b→(∀(j:Nat) (x:D),row[j]? = some x→w.cell? ⟨b,o+j,none⟩=some (U j)) →
      (∀(j:Nat)(x:D),row[j]?=some x->bp G w (U j) x)->dN G w ρ (.pointer (some ⟨b,o+off,none⟩)) (.e row off)
  |os (id:Nat) (a:Option Addr) (n c:Nat):ρ[id]?=some (.slice a n c)->dN G w ρ (.slice a n c) (.os id)
  |q (id z i off b n c:Nat):ρ[id]?=some (.slice (some ⟨b,0,none⟩) n c)->dN G w ρ (.pointer (some ⟨b,i*z+off,none⟩)) (.q id z i off)
  |cl (a:Option Addr) (n z:Nat) (rows:List (List D)):bp G w (.slice a n n) (.sl z rows)->dN G w ρ (.slice a n n) (.cl z rows)
  |nl (z:Nat):dN G w ρ (.slice none 0 0) (.nl z)
  |mp (id r:Nat):ρ[id]?=some (.map (some r))->dN G w ρ (.map (some r)) (.mp id)
  |ov (id z i:Nat) (v:Value) (a:Option Addr) (n c:Nat):ρ[id]?=some (.slice a n c)->v=sliced a i n c z->dN G w ρ v (.ov id z i)
  |it (id r m:Nat):ρ[id]?=some (.map (some m))->dN G w ρ (.pointer (some ⟨r,0,none⟩)) (.it id r)
inductive dO(G:Nat->Prop)(w:World)(ρ:List Value):Value->V->Prop
  |k {v:Value} {x:V}:dN G w ρ v x->dO G w ρ v x
  |fc (F:Nat) (v:Value) (cs:Array Value) (caps:List V):FX F v cs->cs.size=caps.length->(∀(i:Nat)(x:V),caps[i]?=some x->dN G w ρ (cs.getD i undef) x)->dO G w ρ v (.fc F caps)
inductive dP(G:Nat->Prop)(w:World)(ρ:List Value):Value->V->Prop
  |c {v:Value} {x:V}:dO G w ρ v x->dP G w ρ v x
  |ag (cs:Array Value) (vs:List V):cs.size=vs.length->(∀(i:Nat)(x:V),vs[i]?=some x->dO G w ρ (cs.getD i undef) x)->dP G w ρ (.agg cs) (.ag vs)
inductive az(G:Nat->Prop)(w:World)(ρ:List Value):Value->V->Prop
  |o {v:Value} {x:V}:dP G w ρ v x->az G w ρ v x
  |tu (cs:Array Value) (vs:List V):cs.size=vs.length->(∀(i:Nat)(x:V),vs[i]?=some x->dP G w ρ (cs.getD i undef) x)->az G w ρ (.tuple cs) (.tu vs)
def ord(arr:Array MapEntry)(clk:Nat):Prop:=
 (∀x∈arr.toList,x.born<clk)/\(arr.toList.map (·.born)).Pairwise (· < ·)
def nD(G:Nat->Prop)(w:World)(ρ:List Value)(hd:Value)(es:List (V×V)):Prop:=
 ∃r arr clk,hd=.map (some r)/\w.heap[r]?=some (.map arr clk)/\arr.size=es.length/\ord arr clk /\
  ∀(i:Nat)(e:MapEntry)(x:V×V),arr[i]?=some e->es[i]?=some x->dP G w ρ e.key x.1/\dP G w ρ e.val x.2
theorem QN(x:Bool×List D):nH (Ny x)=[]:=by
 match x with
 |(true,ds)=>simp[Ny,nH,pQ,lN]
 |(false,d::_)=>rfl
 |(false,[])=>rfl
theorem xY(es:List (D×Bool×List D)):jL (.mp (fC es))=[]:=by
 simp only[jL,fC,cK,bQ]
 rintro x ⟨p,_,rfl⟩
 rw[QN,eI];rfl
def v8(G:Nat->Prop)(w:World)(hd:Value)(z:Nat)(rs:List (List D)):Prop:=
 (hd = .slice none 0 0∧rs = [])∨∃b cap arr ty,hd = .slice (some ⟨b,0,none⟩) rs.length cap∧w.heap[b]? = some (.cells arr ty (0,0))∧rs.length≤cap∧cap≤maxLen∧arr.size=cap*z ∧
  ∀(i:Nat)(row:List D),rs[i]?=some row->row.length=z/\∀(j:Nat)(x:D),row[j]?=some x->bp G w (arr.getD (i*z+j) undef) x
def gB:Value->Option Nat
 |.pointer (some a)=>some a.block
 |.slice (some a) _ _=>some a.block
 |.map (some r)=>some r
 |_=>none
def pT(w:World)(hd:Value)(r:Nat)(l:It):Prop:=
 ∃m arr clk seen,hd=.map (some m)/\w.heap[m]?=some (.map arr clk)/\m≠r/\w.heap[r]?=some (.mapIter (some m) clk seen clk)/\l.1.Nodup /\
  (∀i,i∈l.1<->∃e,arr[i]?=some e/\seen.contains e.born=false)/\∀i,l.2=some i->∃(e:MapEntry)(s:Array Nat),arr[i]?=some e/\seen=s.push e.born
def V7(w:World)(hd:Value)(es:List ME):Option (Nat×It)->Prop
 |none=>True
 |some (r,l)=>pT w hd r l/\r∉Bt es
def Hq(es:List ME):Prop:=∀(i j:Nat)(k k':List UInt8×List UInt8)(rs rs':List (List D))(b:Nat),es[i]?=some (k,some (some b,rs))->es[j]?=some (k',some (some b,rs'))->i=j
def kO(G:Nat->Prop)(w:World)(ρ:List Value)(hd:Value)(z:Nat)(es:List ME)(out:Option (Nat×V)):Prop:=
 ∃r arr clk,hd=.map (some r)/\w.heap[r]?=some (.map arr clk)/\arr.size=es.length/\ord arr clk/\(Hq es/\r∉Bt es) /\
  (∀(i:Nat)(e:MapEntry)(x:ME),arr[i]?=some e->es[i]?=some x->dP G w [] e.key (vY x.1)/\∀b rs,x.2=some (b,rs)->gB e.val=b/\v8 G w e.val z rs)/\(∀(i:Nat)(v:V),out=some (i,v)->i<es.length) /\
  ∀(i:Nat)(v:V)(e:MapEntry),out=some (i,v)->arr[i]?=some e->dO G w ρ e.val v
def cQ(G:Nat->Prop)(w:World)(ρ:List Value)(hd:Value):B->Prop
 |.no=>True
 |.mp es=>nD G w ρ hd es
 |.dm es=>nD G w ρ hd (fC es)
 |.di es r l=>nD G w ρ hd (fC es)/\pT w hd r l
 |.ms z es out it=>kO G w ρ hd z es out/\V7 w hd es it
 |.cells cs=>∃b arr ty,hd=.pointer (some ⟨b,0,none⟩)/\w.heap[b]?=some (.cells arr ty (0,0))/\arr.size=cs.length/\∀(i:Nat)(x:V),cs[i]?=some x->dO G w ρ (arr.getD i undef) x
 |.rows z rs=>(hd=.slice none 0 0/\rs=[])\/∃b cap arr ty,hd=.slice (some ⟨b,0,none⟩) rs.length cap/\w.heap[b]?=some (.cells arr ty (0,0))/\rs.length<=cap/\cap<=maxLen/\arr.size=cap*z /\
  ∀(i:Nat)(row:List D),rs[i]?=some row->row.length=z/\∀(j:Nat)(x:D),row[j]?=some x->bp G w (arr.getD (i*z+j) undef) x
 |.lk z rs=>v8 G w hd z rs
 |.nw=>hd=undef
 |.rx z rs k r=>∃b cap arr ty,hd=.slice (some ⟨b,0,none⟩) rs.length cap/\w.heap[b]?=some (.cells arr ty (0,0))/\rs.length<=cap/\cap<=maxLen/\arr.size=cap*z/\(k<rs.length/\r.length=z) /\
  (∀(i:Nat)(row:List D),rs[i]?=some row->i≠k->row.length=z/\∀(j:Nat)(x:D),row[j]?=some x->bp G w (arr.getD (i*z+j) undef) x) /\
  ∀(j:Nat)(x:V),r[j]?=some x->dO G w ρ (arr.getD (k*z+j) undef) x
def fF(v:Value)(x:B):List Nat:=(gB v).toList++gh x
theorem bT{v:Value}{x:B}{b:Nat}:b∈fF v x<->gB v=some b\/b∈gh x:=by
 simp only[fF,aT,Option.mem_toList]
theorem fT{v:Value}{x:B}{b:Nat}(hg:gh x=[]:=by rfl):b∈fF v x<->gB v=some b:=by
 rw[bT,hg];simp
theorem eL{es:List ME}{b:Nat}:b∈Bt es<->∃(i:Nat)(k:List UInt8×List UInt8)(rs:List (List D)),es[i]?=some (k,some (some b,rs)):=by
 simp only[Bt,List.mem_filterMap];constructor
 .rintro ⟨⟨k,x⟩,h1,h2⟩
  obtain⟨i,hi⟩:=ao.1 h1
  match x,h2 with
  |some (some c,rs),h2=>grind
 grind
def kZ:Value->Bool
 |.slice _ _ _=>true
 |_=>false
def own(ρ:List Value)(h:H)(b:Nat):Prop:=∃(id:Nat)(v:Value)(x:B),ρ[id]?=some v/\h[id]?=some x/\x≠B.no/\b∈fF v x
def Sg(G:Nat->Prop)(w:World):Prop:=
 ∀(g:Nat)(row:List D),Am Uz g=some row->G g/\∃U:Nat->Value,(∀(j:Nat)(x:D),row[j]?=some x->w.cell? ⟨g,0+j,none⟩=some (U j))/\∀(j:Nat)(x:D),row[j]?=some x->bp G w (U j) x
theorem Sg.mono{G G':Nat->Prop}{w w':World}(h:Sg G w)(hG:∀b,G b->G' b)(hw:∀b,G b->w'.heap[b]?=w.heap[b]?):Sg G' w':=by
 intro g row hg;obtain⟨h1,U,h2,h3⟩:=h g row hg;refine⟨hG g h1,U,λj x hx=>?_,λj x hx=>(h3 j x hx).mono hG hw⟩;rw[<-h2 j x hx];exact World.cell?_of_block (w:=w) (w':=w') (a:=⟨g,0+j,none⟩) (hw g h1)
structure HR(G:Nat->Prop)(w:World)(ρ:List Value)(h:H):Prop where
  len:ρ.length=h.length
  rep:∀(id:Nat)(v:Value)(x:B),ρ[id]?=some v->h[id]?=some x->cQ G w ρ v x
  pv:∀(id id':Nat)(v v':Value)(x x':B)(b:Nat),ρ[id]?=some v->h[id]?=some x->x≠B.no->ρ[id']?=some v'->h[id']?=some x'->x'≠B.no->b∈fF v x->b∈fF v' x'->id=id'
  gl:∀b,G b->b<w.heap.size
  gd:∀b,G b->¬own ρ h b
  vR:Sg G w
theorem kO.drop{G:Nat->Prop}{w:World}{ρ:List Value}{hd:Value}{z:Nat}{es:List ME}{out:Option (Nat×V)}(h:kO G w ρ hd z es out):kO G w ρ hd z es none:=by
 obtain⟨r,arr,clk,h0,h1,h2,h3,h4,h5,_⟩:=h;exact⟨r,arr,clk,h0,h1,h2,h3,h4,h5,λi v h=>(by cases h),λi v e h=>by cases h⟩
theorem cQ.obj{G:Nat->Prop}{w:World}{ρ:List Value}{hd:Value}{x:B}{r:Nat}(hb:cQ G w ρ hd x)(hn:x≠.no)(hr:r∈fF hd x) :
  (∃arr ty,w.heap[r]?=some (.cells arr ty (0,0)))\/(∃arr clk,w.heap[r]?=some (.map arr clk))\/∃m since seen last,w.heap[r]?=some (.mapIter m since seen last):=by
 have map:∀es,nD G w ρ hd es->gB hd=some r->(∃arr clk,w.heap[r]?=some (.map arr clk)):=by
  rintro es ⟨r',arr,clk,rfl,h1,_⟩ hr
  simp only[gB,aD]at hr
  grind
 have YE:∀r l,pT w hd r l->∃m since seen last,w.heap[r]?=some (.mapIter m since seen last):=by
  rintro r l ⟨m,arr,clk,seen,_,_,_,h,_⟩
  grind
 cases x with
 |no=>grind
 |nw=>
  have:hd=undef:=hb;subst this;contradiction
 |mp es=>exact .inr (.inl (map _ hb ((fT).1 hr)))
 |dm es=>exact .inr (.inl (map _ hb ((fT).1 hr)))
 |di es q l=>
  rcases bT.1 hr with hr|hr
  .exact .inr (.inl (map _ hb.1 hr))
  .simp only[gh,aF]at hr;subst hr;exact .inr (.inr (YE _ _ hb.2))
 |ms z es out it=>
  obtain⟨⟨m,arr,clk,rfl,h1,h2,h3,h4,h5,h6⟩,hb2⟩:=hb;rcases bT.1 hr with hr|hr
  .simp only[gB,aD]at hr
   grind
  .simp only[gh,aT]at hr;rcases hr with hr|hr
   .obtain⟨i,k,rs,hi⟩:=eL.1 hr;have hil:i<arr.size:=by grind
    obtain⟨e1,e2⟩:=(h5 i _ _ (aS hil) hi).2 _ _ rfl;rcases e2 with⟨e3,_⟩|⟨b,cap,ar,ty,e3,e4,_⟩
    .rw[e3]at e1;cases e1
    .rw[e3]at e1;cases e1
     grind
   .match it,hr,hb2 with
    |some (q,l),hr,hb2=>
     simp only[Pb,aF]at hr;subst hr;exact .inr (.inr (YE _ _ hb2.1))
 |cells cs=>
  obtain⟨b,arr,ty,rfl,h1,_⟩:=hb;have hr:=(fT).1 hr;simp only[gB,aD]at hr
  grind
 |rows z rs=>
  have hr:=(fT).1 hr;rcases hb with⟨rfl,_⟩|⟨b,cap,arr,ty,rfl,h1,_⟩
  .cases hr
  .simp only[gB,aD]at hr
   grind
 |lk z rs=>
  have hr:=(fT).1 hr;rcases hb with⟨rfl,_⟩|⟨b,cap,arr,ty,rfl,h1,_⟩
  .cases hr
  .simp only[gB,aD]at hr
   grind
 |rx z rs k q=>
  obtain⟨b,cap,arr,ty,rfl,h1,_⟩:=hb;have hr:=(fT).1 hr;simp only[gB,aD]at hr
  grind
structure gG where
  w:World
  G:Nat->Prop
  ρ:List Value
  h:H
  ds:List Deferred:=[]
  ms:List Nat:=[]
def LC(w:World)(b:Nat):Prop:=∃arr ty m,w.heap[b]?=some (.cells arr ty m)
theorem LC.same{w w':World}{b:Nat}(h:LC w b)(e:w'.heap[b]?=w.heap[b]?):LC w' b:=by
 obtain⟨x,y,z,h⟩:=h;exact⟨x,y,z,e.trans h⟩
structure Ok(E:gG)(G:Nat->Prop)(w:World)(ρ:List Value)(h:H):Prop where
  hr:HR G w ρ h
  gm:∀b,E.G b->G b
  go:∀b,G b->E.G b\/(LC w b/\(E.w.heap.size<=b\/own E.ρ E.h b))
  oo:∀b,own ρ h b->E.w.heap.size<=b\/own E.ρ E.h b
  frame:∀b,b<E.w.heap.size->¬own E.ρ E.h b->w.heap[b]?=E.w.heap[b]?
  size:E.w.heap.size<=w.heap.size
  os:w.os=E.w.os
  tape:w.tape=E.w.tape
  out:w.output=E.w.output
  hand:∀(id:Nat)(v:Value),E.ρ[id]?=some v->kZ v=false->ρ[id]?=some v
  hl:E.h.length<=h.length
  uB:∀r∈E.ms,w.heap[r]?=some (.deferred (some []))/\¬G r/\¬own ρ h r
  lk:∀(i z:Nat)(rs:List (List D)),E.h[i]?=some (.lk z rs)->h[i]?=some (.lk z rs)/\ρ[i]?=E.ρ[i]?
structure an(E:gG)(n:Nat)(G:Nat->Prop)(ρ:List Value)(t:T)(h:H)(a:Act)(w:World):Prop where
  ok:Ok E G w ρ h
  df:a.defers=E.ds
  sz:a.tmps.size=n
  tm:∀i,az G w ρ (a.tmps.getD i undef) (gs t i)
section mono
variable{G G':Nat->Prop}{w w':World}{ρ ρ':List Value}
theorem dN.mono{v:Value}{x:V}(h:dN G w ρ v x)(hG:∀b,G b->G' b)(hw:∀b,G b->w'.heap[b]?=w.heap[b]?)(hρ:∀i∈lN x,ρ'[i]?=ρ[i]?):dN G' w' ρ' v x:=by
 cases h with
 |un=>exact .un _
 |ud=>exact .ud
 |d h=>exact .d (h.mono hG hw)
 |p id off b h=>exact .p id off b ((hρ id (by simp[lN])).trans h)
 |e b o off row U h1 h2 h3=>
  refine .e b o off row U (hG b h1) (λj x hx=>?_) (λj x hx=>(h3 j x hx).mono hG hw);rw[<-h2 j x hx];exact World.cell?_of_block (w:=w) (w':=w') (a:=⟨b,o+j,none⟩) (hw b h1)
 |os id a n c h=>exact .os id a n c ((hρ id (by simp[lN])).trans h)
 |q id z i off b n c h=>exact .q id z i off b n c ((hρ id (by simp[lN])).trans h)
 |cl a n z rows h=>exact .cl a n z rows (h.mono hG hw)
 |nl z=>exact .nl z
 |mp id r h=>exact .mp id r ((hρ id (by simp[lN])).trans h)
 |ov id z i _ a n c h hv=>exact .ov id z i _ a n c ((hρ id (by simp[lN])).trans h) hv
 |it id r m h=>exact .it id r m ((hρ id (by simp[lN])).trans h)
theorem dO.mono{v:Value}{x:V}(h:dO G w ρ v x)(hG:∀b,G b->G' b)(hw:∀b,G b->w'.heap[b]?=w.heap[b]?)(hρ:∀i∈pQ x,ρ'[i]?=ρ[i]?):dO G' w' ρ' v x:=by
 cases h with
 |k h=>exact .k (h.mono hG hw (λi hi=>hρ i (by cases h<;>simpa[pQ]using hi)))
 |fc f u cs caps h0 h1 h2=>
  refine .fc f _ cs caps h0 h1 (λi x hx=>(h2 i x hx).mono hG hw (λj hj=>hρ j ?_));simp only[pQ,aj]
  grind
theorem dP.mono{v:Value}{x:V}(h:dP G w ρ v x)(hG:∀b,G b->G' b)(hw:∀b,G b->w'.heap[b]?=w.heap[b]?)(hρ:∀i∈nH x,ρ'[i]?=ρ[i]?):dP G' w' ρ' v x:=by
 cases h with
 |c h=>
  refine .c (h.mono hG hw (λi hi=>hρ i ?_));cases h with
  |k h=>cases h<;>simpa[nH]using hi
  |fc=>assumption
 |ag cs vs h1 h2=>
  refine .ag cs vs h1 (λi x hx=>(h2 i x hx).mono hG hw (λj hj=>hρ j ?_));simp only[nH,aj]
  grind
theorem az.mono{v:Value}{x:V}(h:az G w ρ v x)(hG:∀b,G b->G' b)(hw:∀b,G b->w'.heap[b]?=w.heap[b]?)(hρ:∀i∈l8 x,ρ'[i]?=ρ[i]?):az G' w' ρ' v x:=by
 cases h with
 |o h=>
  refine .o (h.mono hG hw (λi hi=>hρ i ?_));cases h with
  |c h=>cases h with
   |k h=>cases h<;>simpa[l8]using hi
   |fc=>assumption
  |ag cs vs h1 h2=>assumption
 |tu cs vs h1 h2=>
  refine .tu cs vs h1 (λi x hx=>(h2 i x hx).mono hG hw (λj hj=>hρ j ?_));simp only[l8,aj]
  grind
theorem nD.mono{hd:Value}{es:List (V×V)}(h:nD G w ρ hd es)(hG:∀b,G b->G' b)(hw:∀b,G b->w'.heap[b]?=w.heap[b]?)(hb:∀b,gB hd=some b->w'.heap[b]?=w.heap[b]?)
  (hρ:∀i∈jL (.mp es),ρ'[i]?=ρ[i]?):nD G' w' ρ' hd es:=by
 obtain⟨r,arr,clk,rfl,h1,h2,h3,h4⟩:=h;refine⟨r,arr,clk,rfl,(hb r rfl).trans h1,h2,h3,λi e x he hx=>⟨(h4 i e x he hx).1.mono hG hw (λj hj=>hρ j ?_),(h4 i e x he hx).2.mono hG hw (λj hj=>hρ j ?_)⟩⟩
 .simp only[jL,aj]
  grind
 .simp only[jL,aj]
  grind
theorem v8.mono{hd:Value}{z:Nat}{rs:List (List D)}(h:v8 G w hd z rs)(hG:∀b,G b->G' b)(hw:∀b,G b->w'.heap[b]?=w.heap[b]?)(hb:∀b,gB hd=some b->w'.heap[b]?=w.heap[b]?):v8 G' w' hd z rs:=by
 rcases h with h|⟨b,cap,arr,ty,rfl,h1,h2,h3,h4,h5⟩
 .exact .inl h
 .exact .inr ⟨b,cap,arr,ty,rfl,(hb b rfl).trans h1,h2,h3,h4,λi row hr=>⟨(h5 i row hr).1,λj x hx=>((h5 i row hr).2 j x hx).mono hG hw⟩⟩
theorem pT.mono{hd:Value}{r:Nat}{l:It}(h:pT w hd r l)(hb:∀b,gB hd=some b->w'.heap[b]?=w.heap[b]?)(hr:w'.heap[r]?=w.heap[r]?):pT w' hd r l:=by
 obtain⟨m,arr,clk,seen,rfl,h1,h2,h3,h4⟩:=h;exact⟨m,arr,clk,seen,rfl,(hb m rfl).trans h1,h2,hr.trans h3,h4⟩
theorem kO.mono{hd:Value}{z:Nat}{es:List ME}{out:Option (Nat×V)}(h:kO G w ρ hd z es out)(hG:∀b,G b->G' b)(hw:∀b,G b->w'.heap[b]?=w.heap[b]?)(hb:∀b,gB hd=some b->w'.heap[b]?=w.heap[b]?)
  (hb2:∀b∈Bt es,w'.heap[b]?=w.heap[b]?) (hρ:∀i v,out=some (i,v)->∀j∈pQ v,ρ'[j]?=ρ[j]?):kO G' w' ρ' hd z es out:=by
 obtain⟨r,arr,clk,rfl,h1,h2,h3,h4,h5,h5',h6⟩:=h;refine⟨r,arr,clk,rfl,(hb r rfl).trans h1,h2,h3,h4,λi e x he hx=>⟨(h5 i e x he hx).1.mono hG hw (λ_ _=>rfl),λb rs hv=>?_⟩,h5',λi v e hv he=>(h6 i v e hv he).mono hG hw (hρ i v hv)⟩;obtain⟨e1,e2⟩:=(h5 i e x he hx).2 b rs hv;refine⟨e1,e2.mono hG hw λc hc=>hb2 c (eL.2 ⟨i,x.1,rs,?_⟩)⟩
 grind
theorem cQ.mono{hd:Value}{x:B}(h:cQ G w ρ hd x)(hG:∀b,G b->G' b)(hw:∀b,G b->w'.heap[b]?=w.heap[b]?)(hb':∀b∈fF hd x,w'.heap[b]?=w.heap[b]?)
  (hρ:∀i∈jL x,ρ'[i]?=ρ[i]?):cQ G' w' ρ' hd x:=by
 have hb:∀b,gB hd=some b->w'.heap[b]?=w.heap[b]?:=λb h=>hb' b (bT.2 (.inl h));cases x with
 |no=>trivial
 |mp es=>exact nD.mono h hG hw hb hρ
 |dm es=>exact nD.mono h hG hw hb (λi hi=>by rw[xY]at hi;grind)
 |di es r l=>exact⟨nD.mono h.1 hG hw hb (λi hi=>by rw[xY]at hi;grind),h.2.mono hb (hb' r (bT.2 (.inr (aF.2 rfl))))⟩
 |ms z es out it=>
  refine⟨kO.mono h.1 hG hw hb (λb hb2=>hb' b (bT.2 (.inr (List.mem_append_left _ hb2)))) (λi v ho j hj=>hρ j (by subst ho;exact hj)),?_⟩
  match it,h.2,hb' with
  |none,_,_=>trivial
  |some (r,l),h2,hb'=>exact⟨h2.1.mono hb (hb' r (bT.2 (.inr (List.mem_append_right _ (aF.2 rfl))))),h2.2⟩
 |cells cs=>
  obtain⟨b,arr,ty,rfl,h1,h2,h3⟩:=h;refine⟨b,arr,ty,rfl,(hb b rfl).trans h1,h2,λi x hx=>(h3 i x hx).mono hG hw (λj hj=>hρ j ?_)⟩;simp only[jL,aj]
  grind
 |rows z rs=>
  rcases h with h|⟨b,cap,arr,ty,rfl,h1,h2,h3,h4,h5⟩
  .exact .inl h
  .exact .inr ⟨b,cap,arr,ty,rfl,(hb b rfl).trans h1,h2,h3,h4,λi row hr=>⟨(h5 i row hr).1,λj x hx=>((h5 i row hr).2 j x hx).mono hG hw⟩⟩
 |lk z rs=>exact v8.mono h hG hw hb
 |nw=>exact h
 |rx z rs k r=>
  obtain⟨b,cap,arr,ty,rfl,h1,h2,h3,h4,h0,h5,h6⟩:=h;refine⟨b,cap,arr,ty,rfl,(hb b rfl).trans h1,h2,h3,h4,h0,λi row hr hk=>⟨(h5 i row hr hk).1,λj x hx=>((h5 i row hr hk).2 j x hx).mono hG hw⟩,λi x hx=>(h6 i x hx).mono hG hw (λj hj=>hρ j ?_)⟩;simp only[jL,aj]
  grind
theorem dN.lt{v:Value}{x:V}(h:dN G w ρ v x):∀i∈lN x,i<ρ.length:=by
 cases h<;>simp[lN]<;>first|(rename_i h;exact(aC.1 h).1)|(rename_i h _;exact(aC.1 h).1)
theorem dO.lt{v:Value}{x:V}(h:dO G w ρ v x):∀i∈pQ x,i<ρ.length:=by
 cases h with
 |k h=>intro i hi;exact h.lt i (by cases h<;>simpa[pQ]using hi)
 |fc f u cs caps h0 h1 h2=>
  intro i hi;simp only[pQ,aj]at hi;obtain⟨x,hx,hi⟩:=hi;obtain⟨j,hxj⟩:=ao.1 hx;exact(h2 j x hxj).lt i hi
theorem dP.lt{v:Value}{x:V}(h:dP G w ρ v x):∀i∈nH x,i<ρ.length:=by
 cases h with
 |c h=>
  intro i hi;refine h.lt i ?_;cases h with
  |k h=>cases h<;>simpa[nH]using hi
  |fc=>assumption
 |ag cs vs h1 h2=>
  intro i hi;simp only[nH,aj]at hi;obtain⟨x,hx,hi⟩:=hi;obtain⟨j,hxj⟩:=ao.1 hx;exact(h2 j x hxj).lt i hi
theorem az.lt{v:Value}{x:V}(h:az G w ρ v x):∀i∈l8 x,i<ρ.length:=by
 cases h with
 |o h=>
  intro i hi;refine h.lt i ?_;cases h with
  |c h=>cases h with
   |k h=>cases h<;>simpa[l8]using hi
   |fc=>assumption
  |ag cs vs h1 h2=>assumption
 |tu cs vs h1 h2=>
  intro i hi;simp only[l8,aj]at hi;obtain⟨x,hx,hi⟩:=hi;obtain⟨j,hxj⟩:=ao.1 hx;exact(h2 j x hxj).lt i hi
theorem cQ.lt{hd:Value}{x:B}(h:cQ G w ρ hd x):∀i∈jL x,i<ρ.length:=by
 cases x with
 |no=>simp[jL]
 |mp es=>
  obtain⟨r,arr,clk,rfl,h1,h2,h3,h4⟩:=h;intro i hi;simp only[jL,aj]at hi;obtain⟨x,hx,hi⟩:=hi;obtain⟨j,hxj⟩:=ao.1 hx;have hj:j<arr.size:=by grind
  rcases aT.1 hi with hi|hi
  .exact(h4 j _ x (aS hj) hxj).1.lt i hi
  .exact(h4 j _ x (aS hj) hxj).2.lt i hi
 |dm es=>simp[jL]
 |di es r l=>simp[jL]
 |ms z es out it=>
  obtain⟨⟨r,arr,clk,rfl,h1,h2,h3,h4,h5,h6,h7⟩,_⟩:=h;intro i hi
  match out,hi,h6,h7 with
  |some (j,v),hi,h6,h7=>
   have hj:j<arr.size:=by grind
   exact(h7 j v _ rfl (aS hj)).lt i hi
 |cells cs=>
  obtain⟨b,arr,ty,rfl,h1,h2,h3⟩:=h;intro i hi;simp only[jL,aj]at hi;obtain⟨x,hx,hi⟩:=hi;obtain⟨j,hxj⟩:=ao.1 hx;exact(h3 j x hxj).lt i hi
 |rows z rs=>simp[jL]
 |lk z rs=>simp[jL]
 |nw=>simp[jL]
 |rx z rs k r=>
  obtain⟨b,cap,arr,ty,rfl,h1,h2,h3,h4,h0,h5,h6⟩:=h;intro i hi;simp only[jL,aj]at hi;obtain⟨x,hx,hi⟩:=hi;obtain⟨j,hxj⟩:=ao.1 hx;exact(h6 j x hxj).lt i hi
end mono
structure ga(w w':World):Prop where
  size:w.heap.size<=w'.heap.size
  iZ:∀b,b<w.heap.size->w'.heap[b]?=w.heap[b]?
  os:w'.os=w.os
  tape:w'.tape=w.tape
  out:w'.output=w.output
theorem ga.refl(w:World):ga w w:=⟨aL _,λ_ _=>rfl,rfl,rfl,rfl⟩
theorem ga.trans{a b c:World}(h:ga a b)(k:ga b c):ga a c:=
 ⟨aX h.size k.size,λi hi=>(k.iZ i (bj hi h.size)).trans (h.iZ i hi),k.os.trans h.os,k.tape.trans h.tape,k.out.trans h.out⟩
theorem ga.alloc(w:World)(o:Obj):ga w (w.alloc o):=
 ⟨by simp,λb hb=>by show(w.heap.push o)[b]?=_;grind,rfl,rfl,rfl⟩
theorem ga.drew(w:World):ga w w.drew:=⟨aL _,λ_ _=>rfl,rfl,rfl,rfl⟩
theorem ga.draw(w:World)(n:Nat):ga w {w with drawn:=n}:=⟨aL _,λ_ _=>rfl,rfl,rfl,rfl⟩
section
variable{E:gG}{G G':Nat->Prop}{w w':World}{ρ:List Value}{h:H}
theorem HR.lt(hr:HR G w ρ h){id:Nat}{v:Value}{x:B}{b:Nat}(hv:ρ[id]?=some v)(hx:h[id]?=some x)(hn:x≠.no)(hb:b∈fF v x):b<w.heap.size:=by
 rcases(hr.rep id v x hv hx).obj hn hb with⟨_,_,h1⟩|⟨_,_,h1⟩|⟨_,_,_,_,h1⟩<;>exact(aW.1 h1).1
theorem HR.He(hr:HR G w ρ h){b:Nat}(ho:own ρ h b):b<w.heap.size:=by
 obtain⟨id,v,x,h1,h2,h3,h4⟩:=ho;exact hr.lt h1 h2 h3 h4
theorem Ok.grow(hO:Ok E G w ρ h)(hg:ga w w')(hG:∀b,G b->G' b)(hG':∀b,G' b->G b\/(w.heap.size<=b/\b<w'.heap.size/\LC w' b)):Ok E G' w' ρ h:=by
 have hw:∀b,G b->w'.heap[b]?=w.heap[b]?:=λb hb=>hg.iZ b (hO.hr.gl b hb);refine⟨⟨hO.hr.len,λid v x hv hx=>?_,hO.hr.pv,λb hb=>?_,λb hb ho=>?_,hO.hr.vR.mono hG hw⟩,λb hb=>hG b (hO.gm b hb),λb hb=>?_,hO.oo,λb hb hn=>?_,aX hO.size hg.size,
  hg.os.trans hO.os,hg.tape.trans hO.tape,hg.out.trans hO.out,hO.hand,hO.hl,λr hr=>?_,hO.lk⟩
 .cases x with
  |no=>trivial
  |_=>exact(hO.hr.rep id v _ hv hx).mono hG hw (λb hb=>hg.iZ b (hO.hr.lt hv hx (by simp) hb)) (λ_ _=>rfl)
 .rcases hG' b hb with h1|h1
  .exact bj (hO.hr.gl b h1) hg.size
  grind
 .rcases hG' b hb with h1|h1
  .exact hO.hr.gd b h1 ho
  .have:=hO.hr.He ho;omega
 .rcases hG' b hb with h1|h1
  .exact(hO.go b h1).imp (λh=>h) λh2=>⟨h2.1.same (hw b h1),h2.2⟩
  .exact .inr ⟨h1.2.2,.inl (aX hO.size h1.1)⟩
 .exact(hg.iZ b (bj hb hO.size)).trans (hO.frame b hb hn)
 .obtain⟨h1,h2,h3⟩:=hO.uB r hr;have hlt:=(aW.1 h1).1;refine⟨(hg.iZ r hlt).trans h1,λh4=>?_,h3⟩
  grind
theorem p5{ρ:List Value}{h:H}{hd:Value}{x:B}{b:Nat}(hl:ρ.length=h.length)(ho:own (ρ++[hd]) (h++[x]) b):own ρ h b\/(x≠.no/\b∈fF hd x):=by
 obtain⟨id,v,y,h1,h2,h3,h4⟩:=ho
 by_cases hi:id<ρ.length
 .rw[aR hi]at h1;rw[aR (hl ▸ hi)]at h2;exact .inl ⟨id,v,y,h1,h2,h3,h4⟩
 grind
theorem Ok.PN(hO:Ok E G w ρ h)(hg:ga w w')(hd:Value)(x:B)(hbk:∀b∈fF hd x,w.heap.size<=b)(hx:cQ G w' (ρ++[hd]) hd x):Ok E G w' (ρ++[hd]) (h++[x]):=by
 have hw:∀b,G b->w'.heap[b]?=w.heap[b]?:=λb hb=>hg.iZ b (hO.hr.gl b hb);have hl:=hO.hr.len;have get:∀(id:Nat)(v:Value)(y:B),(ρ++[hd])[id]?=some v->(h++[x])[id]?=some y->(ρ[id]?=some v/\h[id]?=some y)\/(id=ρ.length/\v=hd/\y=x):=by
  grind
 have hpre:∀i,i<ρ.length->(ρ++[hd])[i]?=ρ[i]?:=λi hi=>aR hi;refine⟨⟨by grind,λid v y hv hy=>?_,λid id' v v' y y' b h1 h2 h3 h4 h5 h6 h7 h8=>?_,λb hb=>bj (hO.hr.gl b hb) hg.size,λb hb ho=>?_,hO.hr.vR.mono (λ_ h=>h) hw⟩,hO.gm,λb hb=>(hO.go b hb).imp (λh=>h) λh2=>⟨h2.1.same (hw b hb),h2.2⟩,λb hb=>?_,
  λb hb hn=>(hg.iZ b (bj hb hO.size)).trans (hO.frame b hb hn),aX hO.size hg.size,hg.os.trans hO.os,hg.tape.trans hO.tape,hg.out.trans hO.out,λid v hv hs=>?_,by simpa using cU hO.hl,λr hr=>(by
   obtain⟨h1,h2,h3⟩:=hO.uB r hr;have hlt:=(aW.1 h1).1;refine⟨(hg.iZ r hlt).trans h1,h2,λh4=>?_⟩;rcases p5 hl h4 with h5|h5
   grind
   grind),λi z rs hi=>have:=hO.lk i z rs hi;by grind⟩
 .rcases get id v y hv hy with⟨h1,h2⟩|⟨rfl,rfl,rfl⟩
  .have hr:=hO.hr.rep id v y h1 h2;cases y with
   |no=>trivial
   |_=>exact hr.mono (λ_ h=>h) hw (λb hb=>hg.iZ b (hO.hr.lt h1 h2 (by simp) hb)) (λi hi=>hpre i (hr.lt i hi))
  grind
 .rcases get id v y h1 h2 with⟨g1,g2⟩|⟨rfl,rfl,rfl⟩<;>rcases get id' v' y' h4 h5 with⟨k1,k2⟩|⟨rfl,rfl,rfl⟩
  .exact hO.hr.pv id id' v v' y y' b g1 g2 h3 k1 k2 h6 h7 h8
  .have:=hO.hr.lt g1 g2 h3 h7;grind
  .have:=hO.hr.lt k1 k2 h6 h8;grind
  rfl
 .rcases p5 hl ho with h1|⟨h1,h2⟩
  .exact hO.hr.gd b hb h1
  .have:=hO.hr.gl b hb;grind
 .rcases p5 hl hb with h1|⟨h1,h2⟩
  .exact hO.oo b h1
  .exact .inl (aX hO.size (hbk b h2))
 .have:=hO.hand id v hv hs
  grind
theorem Ok.push(hO:Ok E G w ρ h)(hg:ga w w')(hd:Value)(x:B)(hbk:∀b,gB hd=some b->w.heap.size<=b)(hx:cQ G w' (ρ++[hd]) hd x)(hgh:gh x=[]:=by rfl):Ok E G w' (ρ++[hd]) (h++[x]):=
 hO.PN hg hd x (λb hb=>hbk b ((fT hgh).1 hb)) hx
theorem MN{ρ:List Value}{h:H}{id:Nat}{v1:Value}{x1:B}{b:Nat}(ho:own (ρ.set id v1) (h.set id x1) b):(∃(j:Nat)(v:Value)(y:B),j≠id/\ρ[j]?=some v/\h[j]?=some y/\y≠.no/\b∈fF v y)\/(x1≠.no/\b∈fF v1 x1):=by
 obtain⟨j,v,y,h1,h2,h3,h4⟩:=ho
 grind
theorem Ok.TH(hO:Ok E G w ρ h){id:Nat}{v0 v1:Value}{x0 x1:B}(hv:ρ[id]?=some v0)(hx:h[id]?=some x0)(hn:x0≠.no)(hs:w.heap.size<=w'.heap.size)
  (same:∀b,b<w.heap.size->b∉fF v0 x0->w'.heap[b]?=w.heap[b]?) (ho:w'.os=w.os) (ht:w'.tape=w.tape) (hou:w'.output=w.output)
  (new:cQ G w' (ρ.set id v1) v1 x1) (hb1:∀b∈fF v1 x1,b∈fF v0 x0\/w.heap.size<=b) (hs1:kZ v0=false->v1=v0)
  (h':H) (hh:h'.length=h.length) (hh':∀(j:Nat)(y:B),h'[j]?=some y->j≠id->∃y0,h[j]?=some y0/\((y0=.no<->y=.no)/\∀z rs,y0=.lk z rs->y=y0)/\gh y=gh y0/\(∀v,ρ[j]?=some v->cQ G w ρ v y0->cQ G w (ρ.set id v1) v y)) (hnl:∀z rs,x0≠.lk z rs:=by simp) :
  Ok E G w' (ρ.set id v1) (h'.set id x1):=by
 have hgb:∀b,G b->b∉fF v0 x0:=λb hb e=>hO.hr.gd b hb ⟨id,v0,x0,hv,hx,hn,e⟩;have hw:∀b,G b->w'.heap[b]?=w.heap[b]?:=λb hb=>same b (hO.hr.gl b hb) (hgb b hb);have hil:id<ρ.length:=(aC.1 hv).1;have hihl:id<h'.length:=by grind
 have get:∀(j:Nat)(v:Value)(y:B),(ρ.set id v1)[j]?=some v->(h'.set id x1)[j]?=some y->(j≠id/\ρ[j]?=some v/\h'[j]?=some y)\/(j=id/\v=v1/\y=x1):=by
  grind
 have iZ:∀(j:Nat)(v:Value)(y:B)(b:Nat),j≠id->ρ[j]?=some v->h'[j]?=some y->y≠.no->b∈fF v y->b<w.heap.size/\b∉fF v0 x0/\own ρ h b/\w'.heap[b]?=w.heap[b]?:=by
  intro j v y b hj h1 h2 h3 h4;obtain⟨y0,g1,g2,g3,_⟩:=hh' j y h2 hj;have h4:b∈fF v y0:=by rw[fF,<-g3];exact h4
  have hy0:y0≠.no:=λe=>h3 (g2.1.1 e);have hlt:=hO.hr.lt h1 g1 hy0 h4;have hne:b∉fF v0 x0:=λe=>hj (hO.hr.pv j id v v0 y0 x0 b h1 g1 hy0 hv hx hn h4 e);exact⟨hlt,hne,⟨j,v,y0,h1,g1,hy0,h4⟩,same b hlt hne⟩
 have hown:∀b,own (ρ.set id v1) (h'.set id x1) b->own ρ h b\/w.heap.size<=b:=by
  intro b hb;rcases MN hb with⟨j,v,y,h0,h1,h2,h3,h4⟩|⟨h1,h2⟩
  grind
  .rcases hb1 b h2 with h3|h3
   .exact .inl ⟨id,v0,x0,hv,hx,hn,h3⟩
   grind
 refine⟨⟨by simp[hO.hr.len,hh],λj v y h1 h2=>?_,λj j' v v' y y' b h1 h2 h3 h4 h5 h6 h7 h8=>?_,λb hb=>bj (hO.hr.gl b hb) hs,λb hb hob=>?_,hO.hr.vR.mono (λ_ h=>h) hw⟩,hO.gm,λb hb=>(hO.go b hb).imp (λh=>h) λh2=>⟨h2.1.same (hw b hb),h2.2⟩,λb hb=>?_,
  λb hb hnb=>?_,aX hO.size hs,ho.trans hO.os,ht.trans hO.tape,hou.trans hO.out,λj v hv' hsl=>?_,by simpa[hh]using hO.hl,λr hr=>(by
   obtain⟨h1,h2,h3⟩:=hO.uB r hr;have hlt:=(aW.1 h1).1;refine⟨(same r hlt λe=>h3 ⟨id,v0,x0,hv,hx,hn,e⟩).trans h1,h2,λh4=>?_⟩
   grind),λj z rs hj=>?_⟩
 .rcases get j v y h1 h2 with⟨hj,g1,g2⟩|⟨rfl,rfl,rfl⟩
  .obtain⟨y0,k1,k2,_,k3⟩:=hh' j y g2 hj;have hr:=k3 v g1 (hO.hr.rep j v y0 g1 k1)
   by_cases hy:y=.no
   .subst hy;trivial
   .exact hr.mono (λ_ h=>h) hw (λb hb=>(iZ j v y b hj g1 g2 hy hb).2.2.2) (λ_ _=>rfl)
  grind
 .rcases get j v y h1 h2 with⟨hj,g1,g2⟩|⟨rfl,rfl,rfl⟩<;>rcases get j' v' y' h4 h5 with⟨hj',k1,k2⟩|⟨rfl,rfl,rfl⟩
  .obtain⟨y0,e1,e2,e3,_⟩:=hh' j y g2 hj;obtain⟨y0',f1,f2,f3,_⟩:=hh' j' y' k2 hj';rw[fF,e3]at h7;rw[fF,f3]at h8;exact hO.hr.pv j j' v v' y0 y0' b g1 e1 (λe=>h3 (e2.1.1 e)) k1 f1 (λe=>h6 (f2.1.1 e)) h7 h8
  grind
  grind
  rfl
 .rcases hown b hob with h1|h1
  .exact hO.hr.gd b hb h1
  .have:=hO.hr.gl b hb;omega
 .rcases hown b hb with h1|h1
  .exact hO.oo b h1
  .exact .inl (aX hO.size h1)
 .by_cases hbl:b∈fF v0 x0
  .rcases hO.oo b ⟨id,v0,x0,hv,hx,hn,hbl⟩with h1|h1
   grind
   grind
  .exact(same b (bj hb hO.size) hbl).trans (hO.frame b hb hnb)
 .have h0:=hO.hand j v hv' hsl;rw[eE];split
  grind
  grind
 .obtain⟨k1,k2⟩:=hO.lk j z rs hj;have hne:j≠id:=λe=>by subst e;rw[hx]at k1;exact hnl z rs (af k1)
  have hjl:j<h'.length:=by rw[hh];exact(aC.1 k1).1
  obtain⟨y0,g1,g2,_⟩:=hh' j _ (aA hjl) hne;rw[bq (kP hne),bq (kP hne)];rw[k1]at g1;cases g1;exact⟨by rw[aA hjl,g2.2 z rs rfl],k2⟩
theorem Ok.YZ(hO:Ok E G w ρ h){id:Nat}{v0 v1:Value}{x0 x1:B}(hv:ρ[id]?=some v0)(hx:h[id]?=some x0)(hn:x0≠.no)(hs:w.heap.size<=w'.heap.size)
  (same:∀b,b<w.heap.size->gB v0≠some b->w'.heap[b]?=w.heap[b]?) (ho:w'.os=w.os) (ht:w'.tape=w.tape) (hou:w'.output=w.output)
  (new:cQ G w' (ρ.set id v1) v1 x1) (hb1:∀b,gB v1=some b->gB v0=some b\/w.heap.size<=b) (hs1:kZ v0=false->v1=v0)
  (h':H) (hh:h'.length=h.length) (hh':∀(j:Nat)(y:B),h'[j]?=some y->j≠id->∃y0,h[j]?=some y0/\((y0=.no<->y=.no)/\∀z rs,y0=.lk z rs->y=y0)/\gh y=gh y0/\(∀v,ρ[j]?=some v->cQ G w ρ v y0->cQ G w (ρ.set id v1) v y))
  (hg1:∀b∈gh x1,b∈gh x0) (hnl:∀z rs,x0≠.lk z rs:=by simp) :
  Ok E G w' (ρ.set id v1) (h'.set id x1):=
 hO.TH hv hx hn hs (λb h1 h2=>same b h1 λe=>h2 (bT.2 (.inl e))) ho ht hou new (λb hb=>(bT.1 hb).elim (λh=>(hb1 b h).imp (λh=>bT.2 (.inl h)) λh=>h) λh=>.inl (bT.2 (.inr (hg1 b h)))) hs1 h' hh hh' hnl
end
theorem fw{i j:Nat}(h:i≠j):Nat.beq i j=false:=by
 cases hb:Nat.beq i j;rfl;simp_all
section
variable{G G':Nat->Prop}{w w':World}{ρ:List Value}
theorem cQ.data{v0:Value}{z:Nat}{rs:List (List D)}(h:cQ G w ρ v0 (.rows z rs)):bp (λb=>G b\/gB v0=some b) w v0 (.sl z rs):=by
 rcases h with⟨rfl,rfl⟩|⟨b,cap,arr,ty,rfl,h1,h2,h3,h4,h5⟩
 .exact .yv z
 .refine .sl b 0 cap z rs (λi j=>arr.getD (i*z+j) undef) h2 h3 (.inr rfl) (λi row hr=>(h5 i row hr).1) (λi row j x hr hx=>?_) (λi row j x hr hx=>?_)
  .obtain⟨hz,_⟩:=h5 i row hr;have hi:i<rs.length:=(aC.1 hr).1;have hj:j<row.length:=(aC.1 hx).1;have hlt:i*z+j<arr.size:=by
    rw[h4];have:(i+1)*z<=cap*z:=bD _ (by omega)
    grind
   simp only[World.cell?,h1,cE];simp_all
  .exact((h5 i row hr).2 j x hx).mono (λ_ h=>.inl h) (λ_ _=>rfl)
theorem EF:∀{cs:List V}{ds:List D},rb cs=some ds->cs=ds.map .d
 |[],ds,h=>by cases h;rfl
 |x::r,ds,h=>by
  unfold rb at h;split at h
  .rename_i a b ha hb;cases h;rw[EF hb];cases x<;>cases ha;rfl
  grind
theorem cQ.VU{v0:Value}{cs:List V}{ds:List D}(h:cQ G w ρ v0 (.cells cs))(hd:rb cs=some ds):bp (λb=>G b\/gB v0=some b) w v0 (.pt ds 0):=by
 obtain rfl:=EF hd;obtain⟨b,arr,ty,rfl,h1,h2,h3⟩:=h;refine .pt b 0 0 ds (λj=>arr.getD j undef) (.inr rfl) (λj x hx=>?_) λj x hx=>?_
 .have:j<arr.size:=by grind
  simp only[World.cell?,h1,cE];simp_all
 .have:=h3 j (.d x) (by grind);generalize arr.getD j undef=u at this;cases this with|k h=>cases h with|d h=>exact h.mono (λ_ h=>.inl h) (λ_ _=>rfl)
theorem dN.sub {id:Nat} {v0:Value} {y:D} (hv:ρ[id]? = some v0) (hG:∀b,G b→G' b) (hy:bp G' w v0 y) {v:Value} {x:V} (h:dN G w ρ v x):dN G' w ρ v (Aq id (.d y) x):=by
  by_cases hx:∃j,x=.os j
  · obtain⟨j,rfl⟩:=hx
    cases h with
    |os _ a n c h=>
      simp only[Aq]
      by_cases hj:j=id
      · subst hj
        rw[hv]at h
        cases h
        simpa using dN.d hy
      · have:Nat.beq j id=false:=fw hj
        rw[this]
        exact .os j a n c h
  · by_cases hp:∃j o,x=.p j o
    · obtain ⟨j, o, rfl⟩ := hp
      have keep:dN G' w ρ v (.p j o):=h.mono hG (λ_ _=>rfl) (λ_ _=>rfl)
      simp only[Aq]
      by_cases hj:j=id
      · subst hj
        have hb:Nat.beq j j=true:=kQ j
        rw[hb,δ]
        unfold T7
        split
        · rename_i row off hy'
          cases hy'
          cases ho:Nat.beq off 0
          grind
          · have ho:=fN ho
            subst ho
            rw[δ]
            cases h with
            |p _ _ b h=>
              rw[hv]at h
              obtain rfl:=af h
              generalize hq:(Value.pointer (some ⟨b,0,none⟩))=q at hy
              cases hy with
              |pt b' o' _ _ U g1 g2 g3=>
                cases hq
                have:=dN.e (ρ := ρ) b 0 o row U g1 g2 g3
                grind
        grind
      · rw[fw hj]
        grind
    · have:Aq id (.d y) x=x:=by cases x<;>first|rfl|exact absurd ⟨_,rfl⟩ hx|exact absurd ⟨_,_,rfl⟩ hp
      rw[this]
      exact h.mono hG (λ_ _=>rfl) (λ_ _=>rfl)
theorem dO.sub{id:Nat}{v0:Value}{y:D}(hv:ρ[id]?=some v0)(hG:∀b,G b->G' b)(hy:bp G' w v0 y){v:Value}{x:V}(h:dO G w ρ v x):dO G' w ρ v (yf id (.d y) x):=by
 cases h with
 |k h=>
  have:yf id (.d y) x=Aq id (.d y) x:=by cases h<;>rfl
  rw[this];exact .k (h.sub hv hG hy)
 |fc f u cs caps h0 h1 h2=>
  refine .fc f _ cs _ h0 (by grind) (λi x hx=>?_);rw[aB]at hx;cases hc:caps[i]? with
  |none=>grind
  |some x0=>rw[hc]at hx;cases hx;exact(h2 i x0 hc).sub hv hG hy
theorem dP.sub{id:Nat}{v0:Value}{y:D}(hv:ρ[id]?=some v0)(hG:∀b,G b->G' b)(hy:bp G' w v0 y){v:Value}{x:V}(h:dP G w ρ v x):dP G' w ρ v (Ap id (.d y) x):=by
 cases h with
 |c h=>
  have:Ap id (.d y) x=yf id (.d y) x:=by
   cases h with
   |k h=>cases h<;>rfl
   |fc=>rfl
  rw[this];exact .c (h.sub hv hG hy)
 |ag cs vs h1 h2=>
  refine .ag cs _ (by grind) (λi x hx=>?_);rw[aB]at hx;cases hc:vs[i]? with
  |none=>grind
  |some x0=>rw[hc]at hx;cases hx;exact(h2 i x0 hc).sub hv hG hy
theorem az.sub{id:Nat}{v0:Value}{y:D}(hv:ρ[id]?=some v0)(hG:∀b,G b->G' b)(hy:bp G' w v0 y){v:Value}{x:V}(h:az G w ρ v x):az G' w ρ v (ES id (.d y) x):=by
 cases h with
 |o h=>
  have:ES id (.d y) x=Ap id (.d y) x:=by
   cases h with
   |c h=>cases h with
    |k h=>cases h<;>rfl
    |fc=>rfl
   |ag=>rfl
  rw[this];exact .o (h.sub hv hG hy)
 |tu cs vs h1 h2=>
  refine .tu cs _ (by grind) (λi x hx=>?_);rw[aB]at hx;cases hc:vs[i]? with
  |none=>grind
  |some x0=>rw[hc]at hx;cases hx;exact(h2 i x0 hc).sub hv hG hy
theorem EE:∀{l:List V}{ds:List D},rb l=some ds->l=ds.map .d
 |[],ds,h=>by cases h;rfl
 |x::r,ds,h=>by
  have e:rb (x::r)=match YK x,rb r with
   |some a,some b=>some (a::b)
   |_,_=>none:=rfl
  rw[e]at h;cases x with
  |d x=>
   cases hr:rb r with
   |none=>grind
   |some b=>
    rw[hr]at h;cases h;rw[EE hr];rfl
  |_=>cases h
theorem dO.WX{v:Value}{x:D}(h:dO G w ρ v (.d x)):bp G w v x:=by
 cases h with
 |k h=>cases h with
  |d h=>exact h
theorem cQ.QJ{hd:Value}{z k:Nat}{rs:List (List D)}{r:List V}(h:cQ G w ρ hd (.rx z rs k r)):cQ G w ρ hd (QJ z rs k r):=by
 unfold Vx.QJ;cases hd':rb r with
 |none=>exact h
 |some ds=>
  obtain rfl:=EE hd';obtain⟨b,cap,arr,ty,rfl,h1,h2,h3,h4,h0,h5,h6⟩:=h;refine .inr ⟨b,cap,arr,ty,by simp,h1,by grind,h3,h4,λi row hr=>?_⟩;rw[eE]at hr;split at hr
  .rename_i hi;subst hi;rw[ζ h0.1]at hr;cases hr;refine⟨by grind,λj x hx=>(h6 j (.d x) (by grind)).WX⟩
  grind
theorem kO.outs{G G':Nat->Prop}{w:World}{ρ ρ':List Value}{hd:Value}{z:Nat}{es:List ME}{out:Option (Nat×V)}{f:V->V}(h:kO G' w ρ' hd z es none)(h0:kO G w ρ hd z es out)
  (hf:∀(i:Nat)(v:V)(u:Value),out=some (i,v)->dO G w ρ u v->dO G' w ρ' u (f v)):kO G' w ρ' hd z es (out.map λp=>(p.1,f p.2)):=by
 obtain⟨r,arr,clk,rfl,h1,h2,h3,h4,h5,_⟩:=h;obtain⟨r',arr',clk',e0,k1,k2,k3,k4,k5,k6,k7⟩:=h0;cases e0;rw[h1]at k1;cases k1;refine⟨r,arr,clk,rfl,h1,h2,h3,h4,h5,λi v ho=>?_,λi v e ho he=>?_⟩
 .match out,ho,k6 with
  |some (j,u),ho,k6=>grind
 .match out,ho,k7,hf with
  |some (j,u),ho,k7,hf=>grind
theorem Rw(z:Nat)(rs:List (List D))(i:Nat)(row:List V):gh (QJ z rs i row)=[]:=by
 unfold Vx.QJ;cases rb row<;>rfl
theorem D5(id:Nat)(x:V)(b:B):gh (Li id x b)=gh b:=by
 cases b<;>first|rfl|exact Rw _ _ _ _
theorem pA(id:Nat)(b:B):gh (jP id b)=gh b:=by
 cases b<;>rfl
theorem cQ.sub{id:Nat}{v0:Value}{y:D}(hv:ρ[id]?=some v0)(hG:∀b,G b->G' b)(hy:bp G' w v0 y){hd:Value}{x:B}(h:cQ G w ρ hd x):cQ G' w ρ hd (Li id (.d y) x):=by
 cases x with
 |no=>trivial
 |cells cs=>
  obtain⟨b,arr,ty,rfl,h1,h2,h3⟩:=h;refine⟨b,arr,ty,rfl,h1,by grind,λi x hx=>?_⟩;rw[aB]at hx;cases hc:cs[i]? with
  |none=>grind
  |some x0=>rw[hc]at hx;cases hx;exact(h3 i x0 hc).sub hv hG hy
 |mp es=>
  obtain⟨r,arr,clk,rfl,h1,h2,h3,h4⟩:=h;refine⟨r,arr,clk,rfl,h1,by grind,h3,λi e x he hx=>?_⟩;rw[aB]at hx;cases hc:es[i]? with
  |none=>grind
  |some x0=>rw[hc]at hx;cases hx;exact⟨(h4 i e x0 he hc).1.sub hv hG hy,(h4 i e x0 he hc).2.sub hv hG hy⟩
 |dm es=>exact cQ.mono (x:=.dm es) h hG (λ_ _=>rfl) (λ_ _=>rfl) (λ_ _=>rfl)
 |di es r l=>exact cQ.mono (x:=.di es r l) h hG (λ_ _=>rfl) (λ_ _=>rfl) (λ_ _=>rfl)
 |ms z es out it=>
  have h1:=cQ.mono (x:=.ms z es none it) (w':=w) (ρ':= ρ) ⟨kO.drop h.1,h.2⟩ hG (λ_ _=>rfl) (λ_ _=>rfl) (λ_ _=>rfl);exact⟨h1.1.outs h.1 (λi v u ho hr=>hr.sub hv hG hy),h.2⟩
 |rows z rs=>exact cQ.mono (x:=.rows z rs) h hG (λ_ _=>rfl) (λ_ _=>rfl) (λ_ _=>rfl)
 |lk z rs=>exact cQ.mono (x:=.lk z rs) h hG (λ_ _=>rfl) (λ_ _=>rfl) (λ_ _=>rfl)
 |nw=>exact h
 |rx z rs k r=>
  obtain⟨b,cap,arr,ty,rfl,h1,h2,h3,h4,h0,h5,h6⟩:=h;refine cQ.QJ ⟨b,cap,arr,ty,rfl,h1,h2,h3,h4,by grind,λi row hr hk=>⟨(h5 i row hr hk).1,λj x hx=>((h5 i row hr hk).2 j x hx).mono hG (λ_ _=>rfl)⟩,λi x hx=>?_⟩;rw[aB]at hx;cases hc:r[i]? with
  |none=>grind
  |some x0=>rw[hc]at hx;cases hx;exact(h6 i x0 hc).sub hv hG hy
theorem dN.uQ{id:Nat}{v0 v1:Value}(hv:ρ[id]?=some v0)(hs:kZ v0=true){v:Value}{x:V}(h:dN G w ρ v x):dN G w (ρ.set id v1) v (Bd id x):=by
 have get:∀j,j≠id->(ρ.set id v1)[j]?=ρ[j]?:=λj hj=>by grind
 cases h with
 |un=>exact .un _
 |ud=>exact .ud
 |d h=>exact .d h
 |p j off b h=>
  have hj:j≠id:=λe=>by subst e;rw[hv]at h;cases h;contradiction
  exact .p j off b ((get j hj).trans h)
 |e b o off row U h1 h2 h3=>exact .e b o off row U h1 h2 h3
 |os j a n c h=>
  simp only[Bd]
  by_cases hj:j=id
  .subst hj;simpa using dN.un _
  .have:Nat.beq j id=false:=fw hj;rw[this];exact .os j a n c ((get j hj).trans h)
 |q j z i off b n c h=>
  simp only[Bd]
  by_cases hj:j=id
  .subst hj;simpa using dN.un _
  .have:Nat.beq j id=false:=fw hj;rw[this];exact .q j z i off b n c ((get j hj).trans h)
 |cl a n z rows h=>exact .cl a n z rows h
 |nl z=>exact .nl z
 |mp j r h=>
  have hj:j≠id:=λe=>by subst e;rw[hv]at h;cases h;contradiction
  exact .mp j r ((get j hj).trans h)
 |ov j z i _ a n c h hv'=>
  simp only[Bd]
  by_cases hj:j=id
  .subst hj;simpa using dN.un _
  .have:Nat.beq j id=false:=fw hj;rw[this];exact .ov j z i _ a n c ((get j hj).trans h) hv'
 |it j r m h=>
  have hj:j≠id:=λe=>by subst e;rw[hv]at h;cases h;contradiction
  exact .it j r m ((get j hj).trans h)
theorem dO.uQ{id:Nat}{v0 v1:Value}(hv:ρ[id]?=some v0)(hs:kZ v0=true){v:Value}{x:V}(h:dO G w ρ v x):dO G w (ρ.set id v1) v (ze id x):=by
 cases h with
 |k h=>
  have:ze id x=Bd id x:=by cases h<;>rfl
  rw[this];exact .k (h.uQ hv hs)
 |fc f u cs caps h0 h1 h2=>
  refine .fc f _ cs _ h0 (by grind) (λi x hx=>?_);rw[aB]at hx;cases hc:caps[i]? with
  |none=>grind
  |some x0=>rw[hc]at hx;cases hx;exact(h2 i x0 hc).uQ hv hs
theorem dP.uQ{id:Nat}{v0 v1:Value}(hv:ρ[id]?=some v0)(hs:kZ v0=true){v:Value}{x:V}(h:dP G w ρ v x):dP G w (ρ.set id v1) v (Bc id x):=by
 cases h with
 |c h=>
  have:Bc id x=ze id x:=by
   cases h with
   |k h=>cases h<;>rfl
   |fc=>rfl
  rw[this];exact .c (h.uQ hv hs)
 |ag cs vs h1 h2=>
  refine .ag cs _ (by grind) (λi x hx=>?_);rw[aB]at hx;cases hc:vs[i]? with
  |none=>grind
  |some x0=>rw[hc]at hx;cases hx;exact(h2 i x0 hc).uQ hv hs
theorem az.uQ{id:Nat}{v0 v1:Value}(hv:ρ[id]?=some v0)(hs:kZ v0=true){v:Value}{x:V}(h:az G w ρ v x):az G w (ρ.set id v1) v (Mp id x):=by
 cases h with
 |o h=>
  have:Mp id x=Bc id x:=by
   cases h with
   |c h=>cases h with
    |k h=>cases h<;>rfl
    |fc=>rfl
   |ag=>rfl
  rw[this];exact .o (h.uQ hv hs)
 |tu cs vs h1 h2=>
  refine .tu cs _ (by grind) (λi x hx=>?_);rw[aB]at hx;cases hc:vs[i]? with
  |none=>grind
  |some x0=>rw[hc]at hx;cases hx;exact(h2 i x0 hc).uQ hv hs
theorem cQ.uQ{id:Nat}{v0 v1:Value}(hv:ρ[id]?=some v0)(hs:kZ v0=true){hd:Value}{x:B}(h:cQ G w ρ hd x):cQ G w (ρ.set id v1) hd (jP id x):=by
 cases x with
 |no=>trivial
 |cells cs=>
  obtain⟨b,arr,ty,rfl,h1,h2,h3⟩:=h;refine⟨b,arr,ty,rfl,h1,by grind,λi x hx=>?_⟩;rw[aB]at hx;cases hc:cs[i]? with
  |none=>grind
  |some x0=>rw[hc]at hx;cases hx;exact(h3 i x0 hc).uQ hv hs
 |mp es=>
  obtain⟨r,arr,clk,rfl,h1,h2,h3,h4⟩:=h;refine⟨r,arr,clk,rfl,h1,by grind,h3,λi e x he hx=>?_⟩;rw[aB]at hx;cases hc:es[i]? with
  |none=>grind
  |some x0=>rw[hc]at hx;cases hx;exact⟨(h4 i e x0 he hc).1.uQ hv hs,(h4 i e x0 he hc).2.uQ hv hs⟩
 |dm es=>exact cQ.mono (x:=.dm es) h (λ_ h=>h) (λ_ _=>rfl) (λ_ _=>rfl) (λi hi=>by cases hi)
 |di es r l=>exact cQ.mono (x:=.di es r l) h (λ_ h=>h) (λ_ _=>rfl) (λ_ _=>rfl) (λi hi=>by cases hi)
 |ms z es out it=>
  have h1:=cQ.mono (x:=.ms z es none it) (w':=w) (ρ':= ρ.set id v1) ⟨kO.drop h.1,h.2⟩ (λ_ h=>h) (λ_ _=>rfl) (λ_ _=>rfl) (λi hi=>by cases hi);exact⟨h1.1.outs h.1 (λi v u ho hr=>hr.uQ hv hs),h.2⟩
 |rows z rs=>exact h
 |lk z rs=>exact h
 |nw=>exact h
 |rx z rs k r=>
  obtain⟨b,cap,arr,ty,rfl,h1,h2,h3,h4,h0,h5,h6⟩:=h;refine⟨b,cap,arr,ty,rfl,h1,h2,h3,h4,by grind,h5,λi x hx=>?_⟩;rw[aB]at hx;cases hc:r[i]? with
  |none=>grind
  |some x0=>rw[hc]at hx;cases hx;exact(h6 i x0 hc).uQ hv hs
end
theorem uY(f:V->V)(hf:f .un=.un)(t:T)(i:Nat):gs (t.map λp=>(p.1,f p.2)) i=f (gs t i):=by
 induction t with
 |nil=>exact hf.symm
 |cons p r ih=>
  obtain⟨j,v⟩:=p;simp only[dI,gD]
  grind
section
variable{E:gG}{G G':Nat->Prop}{w w':World}{ρ:List Value}{h:H}{n:Nat}{t:T}{a:Act}
theorem Ok.Pf(hO:Ok E G w ρ h){id:Nat}{v0:Value}{x0:B}{yd:D}(hv:ρ[id]?=some v0)(hx:h[id]?=some x0)(hn0:x0≠.no)(hd:bp (λb=>G b\/gB v0=some b) w v0 yd)(hcl:∀b,gB v0=some b->LC w b)(hnl:∀z rs,x0≠.lk z rs:=by simp) :
  Ok E (λb=>G b\/gB v0=some b) w ρ (qG id (.d yd) h):=by
 have hG:∀b,G b->(λb=>G b\/gB v0=some b) b:=λb h=>.inl h;have hbl:∀b,gB v0=some b->own ρ h b:=λb hb=>⟨id,v0,_,hv,hx,hn0,bT.2 (.inl hb)⟩
 have get:∀(j:Nat)(y:B),(qG id (.d yd) h)[j]?=some y->(y=.no)\/(j≠id/\∃y0,h[j]?=some y0/\y=Li id (.d yd) y0/\(y≠.no->y0≠.no)):=by
  intro j y hj;simp only[qG,eE,aB]at hj;split at hj
  grind
  .rename_i hne;cases hy:h[j]? with
   |none=>grind
   |some y0=>
    rw[hy]at hj;cases hj;exact .inr ⟨λe=>hne e.symm,y0,rfl,rfl,λh0 e=>h0 (by subst e;rfl)⟩
 have hownb:∀b,own ρ (qG id (.d yd) h) b->own ρ h b/\gB v0≠some b:=by
  rintro b ⟨j,v,y,h1,h2,h3,h4⟩
  rcases get j y h2 with rfl|⟨hj,y0,g1,g2,g3⟩
  grind
  .rw[g2,fF,D5]at h4;exact⟨⟨j,v,y0,h1,g1,g3 h3,h4⟩,λe=>hj (hO.hr.pv j id v v0 y0 _ b h1 g1 (g3 h3) hv hx hn0 h4 (bT.2 (.inl e)))⟩
 refine⟨⟨by simp[qG,hO.hr.len],λj v y h1 h2=>?_,λj j' v v' y y' b h1 h2 h3 h4 h5 h6 h7 h8=>?_,λb hb=>?_,λb hb ho=>?_,hO.hr.vR.mono (λ_ h=>.inl h) (λ_ _=>rfl)⟩,λb hb=>.inl (hO.gm b hb),λb hb=>?_,λb hb=>hO.oo b (hownb b hb).1,
  hO.frame,hO.size,hO.os,hO.tape,hO.out,hO.hand,by simpa[qG]using hO.hl,λr hr=>?_,λj z rs hj=>?_⟩
 .rcases get j y h2 with rfl|⟨hj,y0,g1,rfl,g3⟩
  .trivial
  .exact(hO.hr.rep j v y0 h1 g1).sub hv hG hd
 .rcases get j y h2 with rfl|⟨hj,y0,g1,rfl,g3⟩
  grind
  .rcases get j' y' h5 with rfl|⟨hj',y0',k1,rfl,k3⟩
   grind
   .rw[fF,D5]at h7 h8;exact hO.hr.pv j j' v v' y0 y0' b h1 g1 (g3 h3) h4 k1 (k3 h6) h7 h8
 .rcases hb with hb|hb
  .exact hO.hr.gl b hb
  .exact hO.hr.He (hbl b hb)
 .obtain⟨h1,h2⟩:=hownb b ho;rcases hb with hb|hb
  .exact hO.hr.gd b hb h1
  grind
 .rcases hb with hb|hb
  .exact hO.go b hb
  .exact .inr ⟨hcl b hb,hO.oo b (hbl b hb)⟩
 .obtain⟨h1,h2,h3⟩:=hO.uB r hr
  grind
 .obtain⟨k1,k2⟩:=hO.lk j z rs hj;have hne:id≠j:=λe=>by subst e;rw[hx]at k1;exact hnl z rs (af k1)
  refine⟨?_,k2⟩;rw[qG,bq hne,aB,k1];rfl
theorem Ok.free(hO:Ok E G w ρ h){id:Nat}{v0:Value}{z:Nat}{rs:List (List D)}(hv:ρ[id]?=some v0)(hx:h[id]?=some (.rows z rs)) :
  Ok E (λb=>G b\/gB v0=some b) w ρ (qG id (.d (.sl z rs)) h):=by
 refine hO.Pf hv hx (by simp) (hO.hr.rep id v0 _ hv hx).data λb hb=>?_;rcases hO.hr.rep id v0 _ hv hx with⟨e,_⟩|⟨b0,cap,arr,ty,e,h1,_⟩
 .rw[e]at hb;cases hb
 .rw[e]at hb;cases hb;exact⟨_,_,_,h1⟩
theorem an.U_(hC:an E n G ρ t h a w){id:Nat}{cs:List V}{ds:List D}(hx:h[id]?=some (.cells cs))(hD:rb cs=some ds) :
  ∃v0,ρ[id]?=some v0/\bp (λb=>G b\/gB v0=some b) w v0 (.pt ds 0)/\an E n (λb=>G b\/gB v0=some b) ρ (ye id (.d (.pt ds 0)) t) (qG id (.d (.pt ds 0)) h) a w:=by
 have hi:id<ρ.length:=by rw[hC.ok.hr.len];grind
 have hr:=hC.ok.hr.rep id _ _ (aA hi) hx;have hd:=hr.VU hD;refine⟨ρ[id],aA hi,hd,hC.ok.Pf (aA hi) hx (by simp) hd (λb hb=>?_),hC.df,hC.sz,λi=>?_⟩
 .obtain⟨b',arr,ty,e,h1,_⟩:=hr;rw[e]at hb;cases hb;exact⟨_,_,_,h1⟩
 .rw[ye,uY _ rfl];exact(hC.tm i).sub (aA hi) (λb h=>.inl h) hd
theorem an.free(hC:an E n G ρ t h a w){id:Nat}{z:Nat}{rs:List (List D)}(hx:h[id]?=some (.rows z rs)) :
  ∃v0,ρ[id]?=some v0/\bp (λb=>G b\/gB v0=some b) w v0 (.sl z rs)/\an E n (λb=>G b\/gB v0=some b) ρ (ye id (.d (.sl z rs)) t) (qG id (.d (.sl z rs)) h) a w:=by
 have hi:id<ρ.length:=by rw[hC.ok.hr.len];grind
 refine⟨ρ[id],aA hi,(hC.ok.hr.rep id _ _ (aA hi) hx).data,hC.ok.free (aA hi) hx,hC.df,hC.sz,λi=>?_⟩;rw[ye,uY _ rfl];exact(hC.tm i).sub (aA hi) (λb h=>.inl h) (hC.ok.hr.rep id _ _ (aA hi) hx).data
theorem an.put(hC:an E n G ρ t h a w)(d:Option Nat){v:Value}{x:V}(hd:∀i,d=some i->i<n)(hr:az G w ρ v x) :
  an E n G ρ (match d with|some i=>(i,x)::t|none=>t) h (a.put d v) w:=by
 cases d with
 |none=>exact hC
 |some i=>
  refine⟨hC.ok,hC.df,by simpa[Act.put]using hC.sz,λj=>?_⟩;simp only[gD,Act.put]
  by_cases hj:i=j
  .subst hj;have hi:=hd i rfl;rw[<-hC.sz]at hi;simp_all
  .have hb:Nat.beq i j=false:=fw hj;rw[hb];have:=hC.tm j;simp_all
theorem an.grow(hC:an E n G ρ t h a w)(hg:ga w w')(hG:∀b,G b->G' b)(hG':∀b,G' b->G b\/(w.heap.size<=b/\b<w'.heap.size/\LC w' b)):an E n G' ρ t h a w':=
 ⟨hC.ok.grow hg hG hG',hC.df,hC.sz,λi=>(hC.tm i).mono hG (λb hb=>hg.iZ b (hC.ok.hr.gl b hb)) (λ_ _=>rfl)⟩
theorem an.push(hC:an E n G ρ t h a w)(hg:ga w w')(hd:Value)(x:B)(hbk:∀b,gB hd=some b->w.heap.size<=b)(hx:cQ G w' (ρ++[hd]) hd x)(hgh:gh x=[]:=by rfl):an E n G (ρ++[hd]) t (h++[x]) a w':=
 ⟨hC.ok.push hg hd x hbk hx hgh,hC.df,hC.sz,λi=>(hC.tm i).mono (λ_ h=>h) (λb hb=>hg.iZ b (hC.ok.hr.gl b hb)) (λj hj=>aR ((hC.tm i).lt j hj))⟩
end
end Go.Vx
