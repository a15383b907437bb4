/- Lemmas. Conditions: none. -/
import Derived.Test.YtjpgfgajkjhonaaGreatDoorQRAC
import Derived.Laws.Slices
import Derived.Below
namespace Go.Vx
theorem get?_eq{α:Type}(l:List α)(n:Nat):get? l n=l[n]?:=by
 induction l generalizing n with
 |nil=>rfl
 |cons x r y=>cases n<;>simp[get?,y]
theorem bf{α:Type}(l:List α)(K:List α->Prop):fl l K=K l:=by
 induction l generalizing K with
 |nil=>rfl
 |cons x r y=>rw[MS,y]
theorem JC(l:List Nat)(n:Nat)(K:Nat->Prop):JD l n K=K n:=by
 induction l with
 |nil=>rfl
 |cons k r x=>
  show(bif Nat.beq n k then K k else JD r n K)=K n;simp_all
theorem cZ(n:Nat)(K:Nat->Prop):iX n K=K n:=JC _ n K
theorem Nq(v:V)(K:V->Prop):fv v K=K v:=by
 cases v<;>try rfl
 rename_i x;cases x<;>rfl
theorem BN(v:V)(K:V->Prop):SA v K=K v:=by
 cases v with
 |p i o=>exact cZ i λi=>K (.p i o)
 |os i=>exact cZ i λi=>K (.os i)
 |mp i=>exact cZ i λi=>K (.mp i)
 |it i r=>exact cZ i λi=>K (.it i r)
 |d x=>exact Nq (.d x) K
 |_=>rfl
theorem pC(l:List V)(K:List V->Prop):Qw l K=K l:=by
 induction l generalizing K with
 |nil=>rfl
 |cons x r y=>
  show SA x (λx=>Qw r λr=>K (x::r))=_;rw[BN]
  grind
theorem UI(b:B)(K:B->Prop):fb b K=K b:=by
 cases b with
 |cells cs=>exact pC cs λcs=>K (.cells cs)
 |rx z rs i row=>exact pC row λrow=>K (.rx z rs i row)
 |ms z es out it=>
  match out with
  |none=>rfl
  |some (i,v)=>exact BN v λv=>K (.ms z es (some (i,v)) it)
 |_=>rfl
theorem f_(l:List B)(K:List B->Prop):flb l K=K l:=by
 induction l generalizing K with
 |nil=>rfl
 |cons x r y=>
  show fb x (λx=>flb r λr=>K (x::r))=_;rw[UI]
  grind
theorem jR(l:T)(K:T->Prop):BS l K=K l:=by
 induction l generalizing K with
 |nil=>rfl
 |cons p r x=>
  have⟨i,v⟩:=p;show SA v (λv=>BS r λr=>K ((i,v)::r))=_;rw[BN]
  grind
theorem BV(l:List Nat)(K:List Nat->Prop):Uw l K=K l:=by
 induction l generalizing K with
 |nil=>rfl
 |cons x r y=>
  show iX x (λx=>Uw r λr=>K (x::r))=_;rw[cZ]
  grind
theorem Rg(d:Option Nat)(v:V)(t:T)(K:T->Prop):ub d v t K=K (match d with|some i=>(i,v)::t|none=>t):=by
 cases d<;>simp[ub,Nq]
def JJ(F:Nat)(v:Value)(cs:Array Value):Prop:=
 (F<1000000∧v = .func (.func F) #[] cs)∨(0<cs.size∧((∃f,F=f+1000000∧f<1000000∧v = .func (.func f) cs #[]) ∨
  (∃t,F=t+2000000/\t<1000000/\v=.iface t (.agg cs))\/(∃t x,F=t+3000000/\t<1000000/\v=.iface t x/\x.cells=#[x]/\cs=#[x])))
theorem xL{F:Nat}{v:Value}{cs:Array Value}(h:JJ F v cs)(x:cs.size=0):v=.func (.func F) #[] #[]:=by
 rcases h with⟨_,rfl⟩|⟨h,_⟩
 grind
 grind
theorem uB{F:Nat}{v:Value}{cs:Array Value}(h:JJ F v cs)(y:F<1000000):v=.func (.func F) #[] cs:=by
 rcases h with⟨_,rfl⟩|⟨_,⟨f,rfl,_⟩|⟨f,rfl,_⟩|⟨f,x,rfl,_⟩⟩
 rfl
 all_goals omega
theorem BX{F:Nat}{v:Value}{cs:Array Value}(h:JJ F v cs)(y:¬F<1000000)(z:F<2000000):v=.func (.func (F-1000000)) cs #[]:=by
 rcases h with⟨h,rfl⟩|⟨_,⟨f,rfl,_,rfl⟩|⟨f,rfl,_⟩|⟨f,x,rfl,_⟩⟩
 grind
 simp
 all_goals omega
theorem vf{F:Nat}{v:Value}{cs:Array Value}(h:JJ F v cs):v.cells=#[v]:=by
 rcases h with⟨_,rfl⟩|⟨_,⟨f,_,_,rfl⟩|⟨f,_,_,rfl⟩|⟨f,x,_,_,rfl,_⟩⟩<;>rfl
inductive bp(G:Nat->Prop)(w:World):Value->D->Prop
  |int (k:IntKind) (n:Int):bp G w (.int k n) (.int k n)
  |bool (b:Bool):bp G w (.bool b) (.bool b)
  |str (s:ByteArray):s.size<=maxLen->bp G w (.string s) (.str s.data.toList)
  |xg (z:Nat):bp G w (.slice none 0 0) (.sl z [])
  |sle (a:Addr) (z:Nat):bp G w (.slice (some a) 0 0) (.sl z [])
  |sl (b o cap z:Nat) (rows:List (List D)) (U:Nat->Nat->Value):rows.length<=cap->cap<=maxLen->G b ->
      (∀(i:Nat)(row:List D),rows[i]?=some row->row.length=z) ->
      (∀(i:Nat)(row:List D)(j:Nat)(x:D),rows[i]?=some row->row[j]?=some x->w.cell? ⟨b,o+(i*z+j),none⟩=some (U i j)) ->
      (∀(i:Nat)(row:List D)(j:Nat)(x:D),rows[i]?=some row->row[j]?=some x->bp G w (U i j) x) ->
      bp G w (.slice (some ⟨b,o,none⟩) rows.length cap) (.sl z rows)
  |np:bp G w (.pointer none) .np
  |nf:bp G w .nilFunc .nf
  |ni:bp G w .nilIface .ni
  |nm:bp G w (.map none) .nm
  |fn (f:Nat):bp G w (.func (.func f) #[] #[]) (.fn f)
  |fc (F:Nat) (v:Value) (cs:Array Value) (caps:List D):JJ F v cs->cs.size=caps.length->(∀(i:Nat)(x:D),caps[i]?=some x->bp G w (cs.getD i undef) x)->bp G w v (.fc F caps)
  |pt (b o off:Nat) (row:List D) (U:Nat->Value):G b->(∀(j:Nat)(x:D),row[j]?=some x->w.cell? ⟨b,o+j,none⟩=some (U j)) ->
      (∀(j:Nat)(x:D),row[j]?=some x->bp G w (U j) x)->bp G w (.pointer (some ⟨b,o+off,none⟩)) (.pt row off)
theorem bp.mono{G G':Nat->Prop}{w w':World}{v:Value}{x:D}(h:bp G w v x)(g:∀b,G b->G' b)(l:∀b,G b->w'.heap[b]?=w.heap[b]?) :
  bp G' w' v x:=by
 induction h with
 |int k n=>exact .int k n
 |bool b=>exact .bool b
 |str s hs=>exact .str s hs
 |xg z=>exact .xg z
 |sle a z=>exact .sle a z
 |sl b o d z rows U y u m p q _ c=>
  refine .sl b o d z rows U y u (g b m) p (λi row j x hr e=>?_) c;rw[<-q i row j x hr e];exact World.cell?_of_block (w:=w) (w':=w') (a:=⟨b,o+(i*z+j),none⟩) (l b m)
 |np=>exact .np
 |nf=>exact .nf
 |ni=>exact .ni
 |nm=>exact .nm
 |fn f=>exact .fn f
 |fc F v cs caps y u _ c=>exact .fc F v cs caps y u c
 |pt b o off row U y u _ c=>
  refine .pt b o off row U (g b y) (λj x e=>?_) c;rw[<-u j x e];exact World.cell?_of_block (w:=w) (w':=w') (a:=⟨b,o+j,none⟩) (l b y)
theorem bp.cells{G:Nat->Prop}{w:World}{v:Value}{x:D}(h:bp G w v x):v.cells=#[v]:=by
 cases h<;>first|rfl|exact vf ‹_›
inductive dL(G:Nat->Prop)(w:World)(ρ:List Value):Value->V->Prop
  |un (v:Value):dL G w ρ v .un
  |ud:dL G w ρ undef .ud
  |d {v:Value} {x:D}:bp G w v x->dL G w ρ v (.d x)
  |p (id off b:Nat):ρ[id]?=some (.pointer (some ⟨b,0,none⟩))->dL G w ρ (.pointer (some ⟨b,off,none⟩)) (.p id off)
  |e (b o off:Nat) (row:List D) (U:Nat→Value):G b→(∀(j:Nat) (x:D),row[j]? = some x→w.cell? ⟨b,o+j,none⟩=some (U j)) →
      (∀(j:Nat)(x:D),row[j]?=some x->bp G w (U j) x)->dL G w ρ (.pointer (some ⟨b,o+off,none⟩)) (.e row off)
  |os (id:Nat) (a:Option Addr) (n c:Nat):ρ[id]?=some (.slice a n c)->dL G w ρ (.slice a n c) (.os id)
  |q (id z i off b n c:Nat):ρ[id]?=some (.slice (some ⟨b,0,none⟩) n c)->dL G w ρ (.pointer (some ⟨b,i*z+off,none⟩)) (.q id z i off)
  |cl (a:Option Addr) (n z:Nat) (rows:List (List D)):bp G w (.slice a n n) (.sl z rows)->dL G w ρ (.slice a n n) (.cl z rows)
  |nl (z:Nat):dL G w ρ (.slice none 0 0) (.nl z)
  |mp (id r:Nat):ρ[id]?=some (.map (some r))->dL G w ρ (.map (some r)) (.mp id)
  |ov (id z i:Nat) (v:Value) (a:Option Addr) (n c:Nat):ρ[id]?=some (.slice a n c)->v=sliced a i n c z->dL G w ρ v (.ov id z i)
  |it (id r m:Nat):ρ[id]?=some (.map (some m))->dL G w ρ (.pointer (some ⟨r,0,none⟩)) (.it id r)
inductive dI(G:Nat->Prop)(w:World)(ρ:List Value):Value->V->Prop
  |k {v:Value} {x:V}:dL G w ρ v x->dI G w ρ v x
  |fc (F:Nat) (v:Value) (cs:Array Value) (caps:List V):JJ F v cs->cs.size=caps.length->(∀(i:Nat)(x:V),caps[i]?=some x->dL G w ρ (cs.getD i undef) x)->dI G w ρ v (.fc F caps)
inductive dM(G:Nat->Prop)(w:World)(ρ:List Value):Value->V->Prop
  |c {v:Value} {x:V}:dI G w ρ v x->dM G w ρ v x
  |ag (cs:Array Value) (vs:List V):cs.size=vs.length->(∀(i:Nat)(x:V),vs[i]?=some x->dI G w ρ (cs.getD i undef) x)->dM G w ρ (.agg cs) (.ag vs)
inductive au(G:Nat->Prop)(w:World)(ρ:List Value):Value->V->Prop
  |o {v:Value} {x:V}:dM G w ρ v x->au G w ρ v x
  |tu (cs:Array Value) (vs:List V):cs.size=vs.length->(∀(i:Nat)(x:V),vs[i]?=some x->dM G w ρ (cs.getD i undef) x)->au G w ρ (.tuple cs) (.tu vs)
def ord(arr:Array MapEntry)(clk:Nat):Prop:=
 (∀x∈arr.toList,x.born<clk)/\(arr.toList.map (·.born)).Pairwise (· < ·)
def mQ(G:Nat->Prop)(w:World)(ρ:List Value)(hd:Value)(es:List (V×V)):Prop:=
 ∃r arr clk,hd=.map (some r)/\w.heap[r]?=some (.map arr clk)/\arr.size=es.length/\ord arr clk /\
  ∀(i:Nat)(e:MapEntry)(x:V×V),arr[i]?=some e->es[i]?=some x->dM G w ρ e.key x.1/\dM G w ρ e.val x.2
theorem PZ(x:Bool×List D):jJ (NM x)=[]:=by
 match x with
 |(true,ds)=>simp[NM,jJ,kI,ij]
 |(false,d::_)=>rfl
 |(false,[])=>rfl
theorem wq(es:List (D×Bool×List D)):eZ (.mp (fz es))=[]:=by
 simp only[eZ,fz,br,bJ]
 rintro x ⟨p,_,rfl⟩
 rw[PZ,cV];rfl
def zY(G:Nat->Prop)(w:World)(hd:Value)(z:Nat)(rs:List (List D)):Prop:=
 (hd = .slice none 0 0∧rs = [])∨∃b cap arr ty,hd = .slice (some ⟨b,0,none⟩) rs.length cap∧w.heap[b]? = some (.cells arr ty (0,0))∧rs.length≤cap∧cap≤maxLen∧arr.size=cap*z ∧
  ∀(i:Nat)(row:List D),rs[i]?=some row->row.length=z/\∀(j:Nat)(x:D),row[j]?=some x->bp G w (arr.getD (i*z+j) undef) x
def fO:Value->Option Nat
 |.pointer (some a)=>some a.block
 |.slice (some a) _ _=>some a.block
 |.map (some r)=>some r
 |_=>none
def oZ(w:World)(hd:Value)(r:Nat)(l:It):Prop:=
 ∃m arr clk seen,hd=.map (some m)/\w.heap[m]?=some (.map arr clk)/\m≠r/\w.heap[r]?=some (.mapIter (some m) clk seen clk)/\l.1.Nodup /\
  (∀i,i∈l.1<->∃e,arr[i]?=some e/\seen.contains e.born=false)/\∀i,l.2=some i->∃(e:MapEntry)(s:Array Nat),arr[i]?=some e/\seen=s.push e.born
def U7(w:World)(hd:Value)(es:List ME):Option (Nat×It)->Prop
 |none=>True
 |some (r,l)=>oZ w hd r l/\r∉BM es
def Gm(es:List ME):Prop:=∀(i j:Nat)(k y:List UInt8×List UInt8)(rs x:List (List D))(b:Nat),es[i]?=some (k,some (some b,rs))->es[j]?=some (y,some (some b,x))->i=j
def j_(G:Nat->Prop)(w:World)(ρ:List Value)(hd:Value)(z:Nat)(es:List ME)(out:Option (Nat×V)):Prop:=
 ∃r arr clk,hd=.map (some r)/\w.heap[r]?=some (.map arr clk)/\arr.size=es.length/\ord arr clk/\(Gm es/\r∉BM es) /\
  (∀(i:Nat)(e:MapEntry)(x:ME),arr[i]?=some e->es[i]?=some x->dM G w [] e.key (ua x.1)/\∀b rs,x.2=some (b,rs)->fO e.val=b/\zY G w e.val z rs)/\(∀(i:Nat)(v:V),out=some (i,v)->i<es.length) /\
  ∀(i:Nat)(v:V)(e:MapEntry),out=some (i,v)->arr[i]?=some e->dI G w ρ e.val v
def cY(G:Nat->Prop)(w:World)(ρ:List Value)(hd:Value):B->Prop
 |.no=>True
 |.nw=>hd=undef
 |.mp es=>mQ G w ρ hd es
 |.dm es=>mQ G w ρ hd (fz es)
 |.di es r l=>mQ G w ρ hd (fz es)/\oZ w hd r l
 |.ms z es out it=>j_ G w ρ hd z es out/\U7 w hd es it
 |.cells cs=>∃b arr ty,hd=.pointer (some ⟨b,0,none⟩)/\w.heap[b]?=some (.cells arr ty (0,0))/\arr.size=cs.length/\∀(i:Nat)(x:V),cs[i]?=some x->dI G w ρ (arr.getD i undef) x
 |.rows z rs=>(hd=.slice none 0 0/\rs=[])\/∃b y arr ty,hd=.slice (some ⟨b,0,none⟩) rs.length y/\w.heap[b]?=some (.cells arr ty (0,0))/\rs.length<=y/\y<=maxLen/\arr.size=y*z /\
  ∀(i:Nat)(row:List D),rs[i]?=some row->row.length=z/\∀(j:Nat)(x:D),row[j]?=some x->bp G w (arr.getD (i*z+j) undef) x
 |.rx z rs k r=>∃b y arr ty,hd=.slice (some ⟨b,0,none⟩) rs.length y/\w.heap[b]?=some (.cells arr ty (0,0))/\rs.length<=y/\y<=maxLen/\arr.size=y*z/\(k<rs.length/\r.length=z) /\
  (∀(i:Nat)(row:List D),rs[i]?=some row->i≠k->row.length=z/\∀(j:Nat)(x:D),row[j]?=some x->bp G w (arr.getD (i*z+j) undef) x) /\
  ∀(j:Nat)(x:V),r[j]?=some x->dI G w ρ (arr.getD (k*z+j) undef) x
def eU(v:Value)(x:B):List Nat:=(fO v).toList++gh x
theorem bR{v:Value}{x:B}{b:Nat}:b∈eU v x<->fO v=some b\/b∈gh x:=by
 simp only[eU,aR,Option.mem_toList]
theorem fi{v:Value}{x:B}{b:Nat}(y:gh x=[]:=by rfl):b∈eU v x<->fO v=some b:=by
 rw[bR,y];simp
theorem eI{es:List ME}{b:Nat}:b∈BM es<->∃(i:Nat)(k:List UInt8×List UInt8)(rs:List (List D)),es[i]?=some (k,some (some b,rs)):=by
 simp only[BM,List.mem_filterMap];constructor
 .rintro ⟨⟨k,x⟩,h1,y⟩
  have⟨i,z⟩:=aj.1 h1
  match x,y with
  |some (some c,rs),y=>grind
 grind
def kN:Value->Bool
 |.slice _ _ _=>true
 |_=>false
def own(ρ:List Value)(h:H)(b:Nat):Prop:=∃(id:Nat)(v:Value)(x:B),ρ[id]?=some v/\h[id]?=some x/\x≠B.no/\b∈eU v x
def Ri(G:Nat->Prop)(w:World):Prop:=
 ∀(g:Nat)(row:List D),AE UF g=some row->G g/\∃U:Nat->Value,(∀(j:Nat)(x:D),row[j]?=some x->w.cell? ⟨g,0+j,none⟩=some (U j))/\∀(j:Nat)(x:D),row[j]?=some x->bp G w (U j) x
theorem Ri.mono{G G':Nat->Prop}{w w':World}(h:Ri G w)(z:∀b,G b->G' b)(u:∀b,G b->w'.heap[b]?=w.heap[b]?):Ri G' w':=by
 intro g row c;have⟨v,U,d,e⟩:=h g row c;refine⟨z g v,U,λj x y=>?_,λj x y=>(e j x y).mono z u⟩;rw[<-d j x y];exact World.cell?_of_block (w:=w) (w':=w') (a:=⟨g,0+j,none⟩) (u g v)
structure HR(G:Nat->Prop)(w:World)(ρ:List Value)(h:H):Prop where
  len:ρ.length=h.length
  rep:∀(id:Nat)(v:Value)(x:B),ρ[id]?=some v->h[id]?=some x->cY G w ρ v x
  oB:∀(id id':Nat)(v v':Value)(x x':B)(b:Nat),ρ[id]?=some v->h[id]?=some x->x≠B.no->ρ[id']?=some v'->h[id']?=some x'->x'≠B.no->b∈eU v x->b∈eU v' x'->id=id'
  gl:∀b,G b->b<w.heap.size
  gd:∀b,G b->¬own ρ h b
  sF:Ri G w
theorem j_.drop{G:Nat->Prop}{w:World}{ρ:List Value}{hd:Value}{z:Nat}{es:List ME}{out:Option (Nat×V)}(h:j_ G w ρ hd z es out):j_ G w ρ hd z es none:=by
 have⟨r,arr,clk,x,y,u,b,c,d,_⟩:=h;exact⟨r,arr,clk,x,y,u,b,c,d,λi v h=>(by cases h),λi v e h=>by cases h⟩
theorem cY.obj{G:Nat->Prop}{w:World}{ρ:List Value}{hd:Value}{x:B}{r:Nat}(u:cY G w ρ hd x)(s:x≠.no)(hr:r∈eU hd x) :
  (∃arr ty,w.heap[r]?=some (.cells arr ty (0,0)))\/(∃arr clk,w.heap[r]?=some (.map arr clk))\/∃m y seen last,w.heap[r]?=some (.mapIter m y seen last):=by
 have map:∀es,mQ G w ρ hd es->fO hd=some r->(∃arr clk,w.heap[r]?=some (.map arr clk)):=by
  rintro es ⟨r',arr,clk,rfl,d,_⟩ hr
  simp only[fO,aE]at hr
  grind
 have XA:∀r l,oZ w hd r l->∃m y seen last,w.heap[r]?=some (.mapIter m y seen last):=by
  rintro r l ⟨m,arr,clk,seen,_,_,_,h,_⟩
  grind
 cases x with
 |no=>grind
 |nw=>
  have:hd=undef:=u;subst this;contradiction
 |mp es=>exact .inr (.inl (map _ u ((fi).1 hr)))
 |dm es=>exact .inr (.inl (map _ u ((fi).1 hr)))
 |di es q l=>
  rcases bR.1 hr with hr|hr
  .exact .inr (.inl (map _ u.1 hr))
  .simp only[gh,aL]at hr;subst hr;exact .inr (.inr (XA _ _ u.2))
 |ms z es out it=>
  obtain⟨⟨m,arr,clk,rfl,d,A,C,D,j,F⟩,v⟩:=u;rcases bR.1 hr with hr|hr
  .simp only[fO,aE]at hr
   grind
  .simp only[gh,aR]at hr;rcases hr with hr|hr
   .have⟨i,k,rs,o⟩:=eI.1 hr;have f:i<arr.size:=by grind
    have⟨e,p⟩:=(j i _ _ (aN f) o).2 _ _ rfl;rcases p with⟨g,_⟩|⟨b,c,ar,ty,g,I,_⟩
    .rw[g]at e;cases e
    .rw[g]at e;cases e
     grind
   .match it,hr,v with
    |some (q,l),hr,v=>
     simp only[Np,aL]at hr;subst hr;exact .inr (.inr (XA _ _ v.1))
 |cells cs=>
  obtain⟨b,arr,ty,rfl,d,_⟩:=u;have hr:=(fi).1 hr;simp only[fO,aE]at hr
  grind
 |rows z rs=>
  have hr:=(fi).1 hr;rcases u with⟨rfl,_⟩|⟨b,c,arr,ty,rfl,d,_⟩
  .cases hr
  .simp only[fO,aE]at hr
   grind
 |rx z rs k q=>
  obtain⟨b,c,arr,ty,rfl,d,_⟩:=u;have hr:=(fi).1 hr;simp only[fO,aE]at hr
  grind
theorem cY.Vh{G:Nat->Prop}{w:World}{ρ:List Value}{hd:Value}{x:B}{r:Nat}{ds:Option (List Deferred)}(z:cY G w ρ hd x)(u:x≠.no)(hr:r∈eU hd x)(h:w.heap[r]?=some (.deferred ds)):False:=by
 rcases z.obj u hr with⟨_,_,y⟩|⟨_,_,y⟩|⟨_,_,_,_,y⟩<;>(rw[h]at y;cases y)
structure gL where
  w:World
  G:Nat->Prop
  ρ:List Value
  h:H
  ds:List Deferred:=[]
  ms:List Nat:=[]
def KO(w:World)(b:Nat):Prop:=∃arr ty m,w.heap[b]?=some (.cells arr ty m)
theorem KO.same{w w':World}{b:Nat}(h:KO w b)(e:w'.heap[b]?=w.heap[b]?):KO w' b:=by
 have⟨x,y,z,h⟩:=h;exact⟨x,y,z,e.trans h⟩
structure Ok(E:gL)(G:Nat->Prop)(w:World)(ρ:List Value)(h:H):Prop where
  hr:HR G w ρ h
  gm:∀b,E.G b->G b
  go:∀b,G b->E.G b\/(KO w b/\(E.w.heap.size<=b\/own E.ρ E.h b))
  oo:∀b,own ρ h b->E.w.heap.size<=b\/own E.ρ E.h b
  frame:∀b,b<E.w.heap.size->¬own E.ρ E.h b->w.heap[b]?=E.w.heap[b]?
  size:E.w.heap.size<=w.heap.size
  os:w.os=E.w.os
  tape:w.tape=E.w.tape
  out:w.output=E.w.output
  hand:∀(id:Nat)(v:Value),E.ρ[id]?=some v->kN v=false->ρ[id]?=some v
  hl:E.h.length<=h.length
  sC:∀r∈E.ms,w.heap[r]?=some (.deferred (some []))/\¬G r/\¬own ρ h r
structure ak(E:gL)(n:Nat)(G:Nat->Prop)(ρ:List Value)(t:T)(h:H)(a:Act)(w:World):Prop where
  ok:Ok E G w ρ h
  df:a.defers=E.ds
  sz:a.tmps.size=n
  tm:∀i,au G w ρ (a.tmps.getD i undef) (gs t i)
section mono
variable{G G':Nat->Prop}{w w':World}{ρ ρ':List Value}
theorem dL.mono{v:Value}{x:V}(h:dL G w ρ v x)(u:∀b,G b->G' b)(f:∀b,G b->w'.heap[b]?=w.heap[b]?)(y:∀i∈ij x,ρ'[i]?=ρ[i]?):dL G' w' ρ' v x:=by
 cases h with
 |un=>exact .un _
 |ud=>exact .ud
 |d h=>exact .d (h.mono u f)
 |p id off b h=>exact .p id off b ((y id (by simp[ij])).trans h)
 |e b o off row U k l s=>
  refine .e b o off row U (u b k) (λj x g=>?_) (λj x g=>(s j x g).mono u f);rw[<-l j x g];exact World.cell?_of_block (w:=w) (w':=w') (a:=⟨b,o+j,none⟩) (f b k)
 |os id a n c h=>exact .os id a n c ((y id (by simp[ij])).trans h)
 |q id z i off b n c h=>exact .q id z i off b n c ((y id (by simp[ij])).trans h)
 |cl a n z rows h=>exact .cl a n z rows (h.mono u f)
 |nl z=>exact .nl z
 |mp id r h=>exact .mp id r ((y id (by simp[ij])).trans h)
 |ov id z i _ a n c h A=>exact .ov id z i _ a n c ((y id (by simp[ij])).trans h) A
 |it id r m h=>exact .it id r m ((y id (by simp[ij])).trans h)
theorem dI.mono{v:Value}{x:V}(h:dI G w ρ v x)(y:∀b,G b->G' b)(z:∀b,G b->w'.heap[b]?=w.heap[b]?)(c:∀i∈kI x,ρ'[i]?=ρ[i]?):dI G' w' ρ' v x:=by
 cases h with
 |k h=>exact .k (h.mono y z (λi d=>c i (by cases h<;>simpa[kI]using d)))
 |fc f u cs caps e g l=>
  refine .fc f _ cs caps e g (λi x m=>(l i x m).mono y z (λj o=>c j ?_));simp only[kI,aO]
  grind
theorem dM.mono{v:Value}{x:V}(h:dM G w ρ v x)(y:∀b,G b->G' b)(z:∀b,G b->w'.heap[b]?=w.heap[b]?)(u:∀i∈jJ x,ρ'[i]?=ρ[i]?):dM G' w' ρ' v x:=by
 cases h with
 |c h=>
  refine .c (h.mono y z (λi d=>u i ?_));cases h with
  |k h=>cases h<;>simpa[jJ]using d
  |fc=>assumption
 |ag cs vs e f=>
  refine .ag cs vs e (λi x g=>(f i x g).mono y z (λj l=>u j ?_));simp only[jJ,aO]
  grind
theorem au.mono{v:Value}{x:V}(h:au G w ρ v x)(y:∀b,G b->G' b)(z:∀b,G b->w'.heap[b]?=w.heap[b]?)(u:∀i∈eT x,ρ'[i]?=ρ[i]?):au G' w' ρ' v x:=by
 cases h with
 |o h=>
  refine .o (h.mono y z (λi f=>u i ?_));cases h with
  |c h=>cases h with
   |k h=>cases h<;>simpa[eT]using f
   |fc=>assumption
  |ag cs vs d e=>assumption
 |tu cs vs d e=>
  refine .tu cs vs d (λi x g=>(e i x g).mono y z (λj l=>u j ?_));simp only[eT,aO]
  grind
theorem mQ.mono{hd:Value}{es:List (V×V)}(h:mQ G w ρ hd es)(y:∀b,G b->G' b)(z:∀b,G b->w'.heap[b]?=w.heap[b]?)(d:∀b,fO hd=some b->w'.heap[b]?=w.heap[b]?)
  (u:∀i∈eZ (.mp es),ρ'[i]?=ρ[i]?):mQ G' w' ρ' hd es:=by
 obtain⟨r,arr,clk,rfl,f,g,k,v⟩:=h;refine⟨r,arr,clk,rfl,(d r rfl).trans f,g,k,λi e x he c=>⟨(v i e x he c).1.mono y z (λj l=>u j ?_),(v i e x he c).2.mono y z (λj l=>u j ?_)⟩⟩
 .simp only[eZ,aO]
  grind
 .simp only[eZ,aO]
  grind
theorem zY.mono{hd:Value}{z:Nat}{rs:List (List D)}(h:zY G w hd z rs)(v:∀b,G b->G' b)(c:∀b,G b->w'.heap[b]?=w.heap[b]?)(d:∀b,fO hd=some b->w'.heap[b]?=w.heap[b]?):zY G' w' hd z rs:=by
 rcases h with h|⟨b,y,arr,ty,rfl,e,f,g,k,u⟩
 .exact .inl h
 .exact .inr ⟨b,y,arr,ty,rfl,(d b rfl).trans e,f,g,k,λi row hr=>⟨(u i row hr).1,λj x l=>((u i row hr).2 j x l).mono v c⟩⟩
theorem oZ.mono{hd:Value}{r:Nat}{l:It}(h:oZ w hd r l)(x:∀b,fO hd=some b->w'.heap[b]?=w.heap[b]?)(hr:w'.heap[r]?=w.heap[r]?):oZ w' hd r l:=by
 obtain⟨m,arr,clk,seen,rfl,y,z,u,v⟩:=h;exact⟨m,arr,clk,seen,rfl,(x m rfl).trans y,z,hr.trans u,v⟩
theorem j_.mono{hd:Value}{z:Nat}{es:List ME}{out:Option (Nat×V)}(h:j_ G w ρ hd z es out)(u:∀b,G b->G' b)(d:∀b,G b->w'.heap[b]?=w.heap[b]?)(m:∀b,fO hd=some b->w'.heap[b]?=w.heap[b]?)
  (f:∀b∈BM es,w'.heap[b]?=w.heap[b]?) (o:∀i v,out=some (i,v)->∀j∈kI v,ρ'[j]?=ρ[j]?):j_ G' w' ρ' hd z es out:=by
 obtain⟨r,arr,clk,rfl,p,q,s,A,k,g,B⟩:=h;refine⟨r,arr,clk,rfl,(m r rfl).trans p,q,s,A,λi e x he l=>⟨(k i e x he l).1.mono u d (λ_ _=>rfl),λb rs y=>?_⟩,g,λi v e y he=>(B i v e y he).mono u d (o i v y)⟩;have⟨C,D⟩:=(k i e x he l).2 b rs y;refine⟨C,D.mono u d λc F=>f c (eI.2 ⟨i,x.1,rs,?_⟩)⟩
 grind
theorem cY.mono{hd:Value}{x:B}(h:cY G w ρ hd x)(c:∀b,G b->G' b)(d:∀b,G b->w'.heap[b]?=w.heap[b]?)(y:∀b∈eU hd x,w'.heap[b]?=w.heap[b]?)
  (q:∀i∈eZ x,ρ'[i]?=ρ[i]?):cY G' w' ρ' hd x:=by
 have u:∀b,fO hd=some b->w'.heap[b]?=w.heap[b]?:=λb h=>y b (bR.2 (.inl h));cases x with
 |no=>trivial
 |nw=>exact h
 |mp es=>exact mQ.mono h c d u q
 |dm es=>exact mQ.mono h c d u (λi s=>by rw[wq]at s;grind)
 |di es r l=>exact⟨mQ.mono h.1 c d u (λi s=>by rw[wq]at s;grind),h.2.mono u (y r (bR.2 (.inr (aL.2 rfl))))⟩
 |ms z es out it=>
  refine⟨j_.mono h.1 c d u (λb A=>y b (bR.2 (.inr (fW _ A)))) (λi v I j C=>q j (by subst I;exact C)),?_⟩
  match it,h.2,y with
  |none,_,_=>trivial
  |some (r,l),e,y=>exact⟨e.1.mono u (y r (bR.2 (.inr (fI _ (aL.2 rfl))))),e.2⟩
 |cells cs=>
  obtain⟨b,arr,ty,rfl,m,e,o⟩:=h;refine⟨b,arr,ty,rfl,(u b rfl).trans m,e,λi x f=>(o i x f).mono c d (λj C=>q j ?_)⟩;simp only[eZ,aO]
  grind
 |rows z rs=>
  rcases h with h|⟨b,g,arr,ty,rfl,m,e,o,D,p⟩
  .exact .inl h
  .exact .inr ⟨b,g,arr,ty,rfl,(u b rfl).trans m,e,o,D,λi row hr=>⟨(p i row hr).1,λj x f=>((p i row hr).2 j x f).mono c d⟩⟩
 |rx z rs k r=>
  obtain⟨b,g,arr,ty,rfl,m,e,o,D,J,p,K⟩:=h;refine⟨b,g,arr,ty,rfl,(u b rfl).trans m,e,o,D,J,λi row hr F=>⟨(p i row hr F).1,λj x f=>((p i row hr F).2 j x f).mono c d⟩,λi x f=>(K i x f).mono c d (λj C=>q j ?_)⟩;simp only[eZ,aO]
  grind
theorem dL.lt{v:Value}{x:V}(h:dL G w ρ v x):∀i∈ij x,i<ρ.length:=by
 cases h<;>simp[ij]<;>first|(rename_i h;exact(aC.1 h).1)|(rename_i h _;exact(aC.1 h).1)
theorem dI.lt{v:Value}{x:V}(h:dI G w ρ v x):∀i∈kI x,i<ρ.length:=by
 cases h with
 |k h=>intro i y;exact h.lt i (by cases h<;>simpa[kI]using y)
 |fc f u cs caps d e b=>
  intro i y;simp only[kI,aO]at y;have⟨x,c,y⟩:=y;have⟨j,z⟩:=aj.1 c;exact(b j x z).lt i y
theorem dM.lt{v:Value}{x:V}(h:dM G w ρ v x):∀i∈jJ x,i<ρ.length:=by
 cases h with
 |c h=>
  intro i y;refine h.lt i ?_;cases h with
  |k h=>cases h<;>simpa[jJ]using y
  |fc=>assumption
 |ag cs vs d u=>
  intro i y;simp only[jJ,aO]at y;have⟨x,b,y⟩:=y;have⟨j,z⟩:=aj.1 b;exact(u j x z).lt i y
theorem au.lt{v:Value}{x:V}(h:au G w ρ v x):∀i∈eT x,i<ρ.length:=by
 cases h with
 |o h=>
  intro i y;refine h.lt i ?_;cases h with
  |c h=>cases h with
   |k h=>cases h<;>simpa[eT]using y
   |fc=>assumption
  |ag cs vs b u=>assumption
 |tu cs vs b u=>
  intro i y;simp only[eT,aO]at y;have⟨x,d,y⟩:=y;have⟨j,z⟩:=aj.1 d;exact(u j x z).lt i y
theorem cY.lt{hd:Value}{x:B}(h:cY G w ρ hd x):∀i∈eZ x,i<ρ.length:=by
 cases x with
 |no=>simp[eZ]
 |nw=>simp[eZ]
 |mp es=>
  obtain⟨r,arr,clk,rfl,m,o,d,e⟩:=h;intro i y;simp only[eZ,aO]at y;have⟨x,c,y⟩:=y;have⟨j,u⟩:=aj.1 c;have f:j<arr.size:=by grind
  rcases aR.1 y with y|y
  .exact(e j _ x (aN f) u).1.lt i y
  .exact(e j _ x (aN f) u).2.lt i y
 |dm es=>simp[eZ]
 |di es r l=>simp[eZ]
 |ms z es out it=>
  obtain⟨⟨r,arr,clk,rfl,m,o,d,e,q,g,p⟩,_⟩:=h;intro i y
  match out,y,g,p with
  |some (j,v),y,g,p=>
   have f:j<arr.size:=by grind
   exact(p j v _ rfl (aN f)).lt i y
 |cells cs=>
  obtain⟨b,arr,ty,rfl,m,o,d⟩:=h;intro i y;simp only[eZ,aO]at y;have⟨x,c,y⟩:=y;have⟨j,u⟩:=aj.1 c;exact(d j x u).lt i y
 |rows z rs=>simp[eZ]
 |rx z rs k r=>
  obtain⟨b,s,arr,ty,rfl,m,o,d,e,A,q,g⟩:=h;intro i y;simp only[eZ,aO]at y;have⟨x,c,y⟩:=y;have⟨j,u⟩:=aj.1 c;exact(g j x u).lt i y
end mono
structure gK(w w':World):Prop where
  size:w.heap.size<=w'.heap.size
  iE:∀b,b<w.heap.size->w'.heap[b]?=w.heap[b]?
  os:w'.os=w.os
  tape:w'.tape=w.tape
  out:w'.output=w.output
theorem gK.refl(w:World):gK w w:=⟨aM _,λ_ _=>rfl,rfl,rfl,rfl⟩
theorem gK.trans{a b c:World}(h:gK a b)(k:gK b c):gK a c:=
 ⟨aV h.size k.size,λi x=>(k.iE i (b9 x h.size)).trans (h.iE i x),k.os.trans h.os,k.tape.trans h.tape,k.out.trans h.out⟩
theorem gK.alloc(w:World)(o:Obj):gK w (w.alloc o):=
 ⟨by simp,λb x=>by show(w.heap.push o)[b]?=_;grind,rfl,rfl,rfl⟩
theorem gK.drew(w:World):gK w w.drew:=⟨aM _,λ_ _=>rfl,rfl,rfl,rfl⟩
theorem gK.draw(w:World)(n:Nat):gK w {w with drawn:=n}:=⟨aM _,λ_ _=>rfl,rfl,rfl,rfl⟩
section
variable{E:gL}{G G':Nat->Prop}{w w':World}{ρ:List Value}{h:H}
theorem HR.lt(hr:HR G w ρ h){id:Nat}{v:Value}{x:B}{b:Nat}(z:ρ[id]?=some v)(u:h[id]?=some x)(c:x≠.no)(d:b∈eU v x):b<w.heap.size:=by
 rcases(hr.rep id v x z u).obj c d with⟨_,_,y⟩|⟨_,_,y⟩|⟨_,_,_,_,y⟩<;>exact(aQ.1 y).1
theorem HR.yP(hr:HR G w ρ h){b:Nat}(y:own ρ h b):b<w.heap.size:=by
 have⟨id,v,x,z,u,c,d⟩:=y;exact hr.lt z u c d
theorem Ok.grow(y:Ok E G w ρ h)(c:gK w w')(e:∀b,G b->G' b)(d:∀b,G' b->G b\/(w.heap.size<=b/\b<w'.heap.size/\KO w' b)):Ok E G' w' ρ h:=by
 have f:∀b,G b->w'.heap[b]?=w.heap[b]?:=λb z=>c.iE b (y.hr.gl b z);refine⟨⟨y.hr.len,λid v x j k=>?_,y.hr.oB,λb z=>?_,λb z l=>?_,y.hr.sF.mono e f⟩,λb z=>e b (y.gm b z),λb z=>?_,y.oo,λb z m=>?_,aV y.size c.size,
  c.os.trans y.os,c.tape.trans y.tape,c.out.trans y.out,y.hand,y.hl,λr hr=>?_⟩
 .cases x with
  |no=>trivial
  |_=>exact(y.hr.rep id v _ j k).mono e f (λb z=>c.iE b (y.hr.lt j k (by simp) z)) (λ_ _=>rfl)
 .rcases d b z with u|u
  .exact b9 (y.hr.gl b u) c.size
  grind
 .rcases d b z with u|u
  .exact y.hr.gd b u l
  .have:=y.hr.yP l;omega
 .rcases d b z with u|u
  .exact(y.go b u).imp (λh=>h) λg=>⟨g.1.same (f b u),g.2⟩
  .exact .inr ⟨u.2.2,.inl (aV y.size u.1)⟩
 .exact(c.iE b (b9 z y.size)).trans (y.frame b z m)
 .have⟨u,g,o⟩:=y.sC r hr;have i:=(aQ.1 u).1;refine⟨(c.iE r i).trans u,λp=>?_,o⟩
  grind
theorem ot{ρ:List Value}{h:H}{hd:Value}{x:B}{b:Nat}(hl:ρ.length=h.length)(d:own (ρ++[hd]) (h++[x]) b):own ρ h b\/(x≠.no/\b∈eU hd x):=by
 have⟨id,v,y,z,u,e,f⟩:=d
 by_cases c:id<ρ.length
 .rw[aT c]at z;rw[aT (hl ▸ c)]at u;exact .inl ⟨id,v,y,z,u,e,f⟩
 grind
theorem Ok.N0(z:Ok E G w ρ h)(e:gK w w')(hd:Value)(x:B)(j:∀b∈eU hd x,w.heap.size<=b)(M:cY G w' (ρ++[hd]) hd x):Ok E G w' (ρ++[hd]) (h++[x]):=by
 have k:∀b,G b->w'.heap[b]?=w.heap[b]?:=λb u=>e.iE b (z.hr.gl b u);have hl:=z.hr.len;have get:∀(id:Nat)(v:Value)(y:B),(ρ++[hd])[id]?=some v->(h++[x])[id]?=some y->(ρ[id]?=some v/\h[id]?=some y)\/(id=ρ.length/\v=hd/\y=x):=by
  grind
 have f:∀i,i<ρ.length->(ρ++[hd])[i]?=ρ[i]?:=λi l=>aT l;refine⟨⟨by grind,λid v y m J=>?_,λid g v v' y A b c d o p q C D F=>?_,λb u=>b9 (z.hr.gl b u) e.size,λb u K=>?_,z.hr.sF.mono (λ_ h=>h) k⟩,z.gm,λb u=>(z.go b u).imp (λh=>h) λd=>⟨d.1.same (k b u),d.2⟩,λb u=>?_,
  λb u L=>(e.iE b (b9 u z.size)).trans (z.frame b u L),aV z.size e.size,e.os.trans z.os,e.tape.trans z.tape,e.out.trans z.out,λid v m hs=>?_,by simpa using eC z.hl,λr hr=>(by
   have⟨c,d,o⟩:=z.sC r hr;have s:=(aQ.1 c).1;refine⟨(e.iE r s).trans c,d,λp=>?_⟩;rcases ot hl p with q|q
   grind
   grind)⟩
 .rcases get id v y m J with⟨c,d⟩|⟨rfl,rfl,rfl⟩
  .have hr:=z.hr.rep id v y c d;cases y with
   |no=>trivial
   |_=>exact hr.mono (λ_ h=>h) k (λb u=>e.iE b (z.hr.lt c d (by simp) u)) (λi l=>f i (hr.lt i l))
  grind
 .rcases get id v y c d with⟨g1,I⟩|⟨rfl,rfl,rfl⟩<;>rcases get g v' A p q with⟨k1,k2⟩|⟨rfl,rfl,rfl⟩
  .exact z.hr.oB id g v v' y A b g1 I o k1 k2 C D F
  .have:=z.hr.lt g1 I o D;grind
  .have:=z.hr.lt k1 k2 C F;grind
  rfl
 .rcases ot hl K with c|⟨c,d⟩
  .exact z.hr.gd b u c
  .have:=z.hr.gl b u;grind
 .rcases ot hl u with c|⟨c,d⟩
  .exact z.oo b c
  .exact .inl (aV z.size (j b d))
 .have:=z.hand id v m hs
  grind
theorem Ok.push(u:Ok E G w ρ h)(v:gK w w')(hd:Value)(x:B)(y:∀b,fO hd=some b->w.heap.size<=b)(c:cY G w' (ρ++[hd]) hd x)(z:gh x=[]:=by rfl):Ok E G w' (ρ++[hd]) (h++[x]):=
 u.N0 v hd x (λb d=>y b ((fi z).1 d)) c
theorem LS{ρ:List Value}{h:H}{id:Nat}{v1:Value}{x1:B}{b:Nat}(x:own (ρ.set id v1) (h.set id x1) b):(∃(j:Nat)(v:Value)(y:B),j≠id/\ρ[j]?=some v/\h[j]?=some y/\y≠.no/\b∈eU v y)\/(x1≠.no/\b∈eU v1 x1):=by
 have⟨j,v,y,z,u,c,d⟩:=x
 grind
theorem Ok.SL(x:Ok E G w ρ h){id:Nat}{v0 v1:Value}{x0 x1:B}(p:ρ[id]?=some v0)(s:h[id]?=some x0)(A:x0≠.no)(hs:w.heap.size<=w'.heap.size)
  (same:∀b,b<w.heap.size->b∉eU v0 x0->w'.heap[b]?=w.heap[b]?) (Z:w'.os=w.os) (ht:w'.tape=w.tape) (F:w'.output=w.output)
  (new:cY G w' (ρ.set id v1) v1 x1) (I:∀b∈eU v1 x1,b∈eU v0 x0\/w.heap.size<=b) (hs1:kN v0=false->v1=v0)
  (k:H) (S:k.length=h.length) (d:∀(j:Nat)(y:B),k[j]?=some y->j≠id->∃y0,h[j]?=some y0/\(y0=.no<->y=.no)/\gh y=gh y0/\(∀v,ρ[j]?=some v->cY G w ρ v y0->cY G w (ρ.set id v1) v y)) :
  Ok E G w' (ρ.set id v1) (k.set id x1):=by
 have J:∀b,G b->b∉eU v0 x0:=λb z e=>x.hr.gd b z ⟨id,v0,x0,p,s,A,e⟩;have K:∀b,G b->w'.heap[b]?=w.heap[b]?:=λb z=>same b (x.hr.gl b z) (J b z);have hil:id<ρ.length:=(aC.1 p).1;have U:id<k.length:=by grind
 have get:∀(j:Nat)(v:Value)(y:B),(ρ.set id v1)[j]?=some v->(k.set id x1)[j]?=some y->(j≠id/\ρ[j]?=some v/\k[j]?=some y)\/(j=id/\v=v1/\y=x1):=by
  grind
 have iE:∀(j:Nat)(v:Value)(y:B)(b:Nat),j≠id->ρ[j]?=some v->k[j]?=some y->y≠.no->b∈eU v y->b<w.heap.size/\b∉eU v0 x0/\own ρ h b/\w'.heap[b]?=w.heap[b]?:=by
  intro j v y b m u c f g;have⟨y0,g1,q,g3,_⟩:=d j y c m;have g:b∈eU v y0:=by rw[eU,<-g3];exact g
  have o:y0≠.no:=λe=>f (q.1 e);have i:=x.hr.lt u g1 o g;have C:b∉eU v0 x0:=λe=>m (x.hr.oB j id v v0 y0 x0 b u g1 o p s A g e);exact⟨i,C,⟨j,v,y0,u,g1,o,g⟩,same b i C⟩
 have l:∀b,own (ρ.set id v1) (k.set id x1) b->own ρ h b\/w.heap.size<=b:=by
  intro b z;rcases LS z with⟨j,v,y,h0,u,c,f,g⟩|⟨u,c⟩
  grind
  .rcases I b c with f|f
   .exact .inl ⟨id,v0,x0,p,s,A,f⟩
   grind
 refine⟨⟨by simp[x.hr.len,S],λj v y u c=>?_,λj L v v' y V b u c f g h5 h6 W X=>?_,λb z=>b9 (x.hr.gl b z) hs,λb z M=>?_,x.hr.sF.mono (λ_ h=>h) K⟩,x.gm,λb z=>(x.go b z).imp (λh=>h) λc=>⟨c.1.same (K b z),c.2⟩,λb z=>?_,
  λb z N=>?_,aV x.size hs,Z.trans x.os,ht.trans x.tape,F.trans x.out,λj v O P=>?_,by simpa[S]using x.hl,λr hr=>(by
   have⟨u,c,f⟩:=x.sC r hr;have i:=(aQ.1 u).1;refine⟨(same r i λe=>f ⟨id,v0,x0,p,s,A,e⟩).trans u,c,λg=>?_⟩
   grind)⟩
 .rcases get j v y u c with⟨m,g1,q⟩|⟨rfl,rfl,rfl⟩
  .have⟨y0,k1,k2,_,k3⟩:=d j y q m;have hr:=k3 v g1 (x.hr.rep j v y0 g1 k1)
   by_cases Y:y=.no
   .subst Y;trivial
   .exact hr.mono (λ_ h=>h) K (λb z=>(iE j v y b m g1 q Y z).2.2.2) (λ_ _=>rfl)
  grind
 .rcases get j v y u c with⟨m,g1,q⟩|⟨rfl,rfl,rfl⟩<;>rcases get L v' V g h5 with⟨Q,k1,k2⟩|⟨rfl,rfl,rfl⟩
  .have⟨y0,e1,e2,e3,_⟩:=d j y q m;have⟨R,f1,f2,f3,_⟩:=d L V k2 Q;rw[eU,e3]at W;rw[eU,f3]at X;exact x.hr.oB j L v v' y0 R b g1 e1 (λe=>f (e2.1 e)) k1 f1 (λe=>h6 (f2.1 e)) W X
  grind
  grind
  rfl
 .rcases l b M with u|u
  .exact x.hr.gd b z u
  .have:=x.hr.gl b z;omega
 .rcases l b z with u|u
  .exact x.oo b u
  .exact .inl (aV x.size u)
 .by_cases D:b∈eU v0 x0
  .rcases x.oo b ⟨id,v0,x0,p,s,A,D⟩with u|u
   grind
   grind
  .exact(same b (b9 z x.size) D).trans (x.frame b z N)
 .have h0:=x.hand j v O P
  grind
theorem Ok.XW(g:Ok E G w ρ h){id:Nat}{v0 v1:Value}{x0 x1:B}(i:ρ[id]?=some v0)(k:h[id]?=some x0)(l:x0≠.no)(hs:w.heap.size<=w'.heap.size)
  (same:∀b,b<w.heap.size->fO v0≠some b->w'.heap[b]?=w.heap[b]?) (m:w'.os=w.os) (o:w'.tape=w.tape) (z:w'.output=w.output)
  (new:cY G w' (ρ.set id v1) v1 x1) (u:∀b,fO v1=some b->fO v0=some b\/w.heap.size<=b) (c:kN v0=false->v1=v0)
  (x:H) (p:x.length=h.length) (d:∀(j:Nat)(y:B),x[j]?=some y->j≠id->∃y0,h[j]?=some y0/\(y0=.no<->y=.no)/\gh y=gh y0/\(∀v,ρ[j]?=some v->cY G w ρ v y0->cY G w (ρ.set id v1) v y))
  (f:∀b∈gh x1,b∈gh x0) :
  Ok E G w' (ρ.set id v1) (x.set id x1):=
 g.SL i k l hs (λb q r=>same b q λe=>r (bR.2 (.inl e))) m o z new (λb s=>(bR.1 s).elim (λh=>(u b h).imp (λh=>bR.2 (.inl h)) λh=>h) λh=>.inl (bR.2 (.inr (f b h)))) c x p d
end
theorem fm{i j:Nat}(h:i≠j):Nat.beq i j=false:=by
 cases x:Nat.beq i j;rfl;simp_all
section
variable{G G':Nat->Prop}{w w':World}{ρ:List Value}
theorem cY.data{v0:Value}{z:Nat}{rs:List (List D)}(h:cY G w ρ v0 (.rows z rs)):bp (λb=>G b\/fO v0=some b) w v0 (.sl z rs):=by
 rcases h with⟨rfl,rfl⟩|⟨b,y,arr,ty,rfl,c,d,e,f,u⟩
 .exact .xg z
 .refine .sl b 0 y z rs (λi j=>arr.getD (i*z+j) undef) d e (.inr rfl) (λi row hr=>(u i row hr).1) (λi row j x hr v=>?_) (λi row j x hr v=>?_)
  .have⟨k,_⟩:=u i row hr;have l:i<rs.length:=(aC.1 hr).1;have m:j<row.length:=(aC.1 v).1;have g:i*z+j<arr.size:=by
    rw[f];have:(i+1)*z<=y*z:=bB _ (by omega)
    grind
   simp only[World.cell?,c,cF];simp_all
  .exact((u i row hr).2 j x v).mono (λ_ h=>.inl h) (λ_ _=>rfl)
theorem DT:∀{cs:List V}{ds:List D},qh cs=some ds->cs=ds.map .d
 |[],ds,h=>by cases h;rfl
 |x::r,ds,h=>by
  unfold qh at h;split at h
  .rename_i a b y z;cases h;rw[DT z];cases x<;>cases y;rfl
  grind
theorem cY.US{v0:Value}{cs:List V}{ds:List D}(h:cY G w ρ v0 (.cells cs))(hd:qh cs=some ds):bp (λb=>G b\/fO v0=some b) w v0 (.pt ds 0):=by
 obtain rfl:=DT hd;obtain⟨b,arr,ty,rfl,y,c,z⟩:=h;refine .pt b 0 0 ds (λj=>arr.getD j undef) (.inr rfl) (λj x v=>?_) λj x v=>?_
 .have:j<arr.size:=by grind
  simp only[World.cell?,y,cF];simp_all
 .have:=z j (.d x) (by grind);generalize arr.getD j undef=u at this;cases this with|k h=>cases h with|d h=>exact h.mono (λ_ h=>.inl h) (λ_ _=>rfl)
theorem dL.sub {id:Nat} {v0:Value} {y:D} (hv:ρ[id]? = some v0) (hG:∀b,G b→G' b) (hy:bp G' w v0 y) {v:Value} {x:V} (h:dL G w ρ v x):dL G' w ρ v (AI id (.d y) x):=by
  by_cases hx:∃j,x=.os j
  · obtain⟨j,rfl⟩:=hx
    cases h with
    |os _ a n c h=>
      simp only[AI]
      by_cases hj:j=id
      · subst hj
        rw[hv]at h
        cases h
        simpa using dL.d hy
      · have:Nat.beq j id=false:=fm hj
        rw[this]
        exact .os j a n c h
  · by_cases hp:∃j o,x=.p j o
    · obtain ⟨j, o, rfl⟩ := hp
      have keep:dL G' w ρ v (.p j o):=h.mono hG (λ_ _=>rfl) (λ_ _=>rfl)
      simp only[AI]
      by_cases hj:j=id
      · subst hj
        have hb:Nat.beq j j=true:=fV j
        rw[hb,δ]
        unfold Sl
        split
        · rename_i row off hy'
          cases hy'
          cases ho:Nat.beq off 0
          grind
          · have ho:=eH ho
            subst ho
            rw[δ]
            cases h with
            |p _ _ b h=>
              rw[hv]at h
              obtain rfl:=aq h
              generalize hq:(Value.pointer (some ⟨b,0,none⟩))=q at hy
              cases hy with
              |pt b' o' _ _ U g1 g2 g3=>
                cases hq
                have:=dL.e (ρ := ρ) b 0 o row U g1 g2 g3
                grind
        grind
      · rw[fm hj]
        grind
    · have:AI id (.d y) x=x:=by cases x<;>first|rfl|exact absurd ⟨_,rfl⟩ hx|exact absurd ⟨_,_,rfl⟩ hp
      rw[this]
      exact h.mono hG (λ_ _=>rfl) (λ_ _=>rfl)
theorem dI.sub{id:Nat}{v0:Value}{y:D}(c:ρ[id]?=some v0)(e:∀b,G b->G' b)(g:bp G' w v0 y){v:Value}{x:V}(h:dI G w ρ v x):dI G' w ρ v (xz id (.d y) x):=by
 cases h with
 |k h=>
  have:xz id (.d y) x=AI id (.d y) x:=by cases h<;>rfl
  rw[this];exact .k (h.sub c e g)
 |fc f u cs caps l o m=>
  refine .fc f _ cs _ l (by grind) (λi x z=>?_);rw[aB]at z;cases j:caps[i]? with
  |none=>grind
  |some x0=>rw[j]at z;cases z;exact(m i x0 j).sub c e g
theorem dM.sub{id:Nat}{v0:Value}{y:D}(u:ρ[id]?=some v0)(e:∀b,G b->G' b)(f:bp G' w v0 y){v:Value}{x:V}(h:dM G w ρ v x):dM G' w ρ v (AH id (.d y) x):=by
 cases h with
 |c h=>
  have:AH id (.d y) x=xz id (.d y) x:=by
   cases h with
   |k h=>cases h<;>rfl
   |fc=>rfl
  rw[this];exact .c (h.sub u e f)
 |ag cs vs l j=>
  refine .ag cs _ (by grind) (λi x z=>?_);rw[aB]at z;cases g:vs[i]? with
  |none=>grind
  |some x0=>rw[g]at z;cases z;exact(j i x0 g).sub u e f
theorem au.sub{id:Nat}{v0:Value}{y:D}(u:ρ[id]?=some v0)(e:∀b,G b->G' b)(f:bp G' w v0 y){v:Value}{x:V}(h:au G w ρ v x):au G' w ρ v (Dc id (.d y) x):=by
 cases h with
 |o h=>
  have:Dc id (.d y) x=AH id (.d y) x:=by
   cases h with
   |c h=>cases h with
    |k h=>cases h<;>rfl
    |fc=>rfl
   |ag=>rfl
  rw[this];exact .o (h.sub u e f)
 |tu cs vs l j=>
  refine .tu cs _ (by grind) (λi x z=>?_);rw[aB]at z;cases g:vs[i]? with
  |none=>grind
  |some x0=>rw[g]at z;cases z;exact(j i x0 g).sub u e f
theorem DS:∀{l:List V}{ds:List D},qh l=some ds->l=ds.map .d
 |[],ds,h=>by cases h;rfl
 |x::r,ds,h=>by
  have e:qh (x::r)=match XF x,qh r with
   |some a,some b=>some (a::b)
   |_,_=>none:=rfl
  rw[e]at h;cases x with
  |d x=>
   cases hr:qh r with
   |none=>grind
   |some b=>
    rw[hr]at h;cases h;rw[DS hr];rfl
  |_=>cases h
theorem dI.VJ{v:Value}{x:D}(h:dI G w ρ v (.d x)):bp G w v x:=by
 cases h with
 |k h=>cases h with
  |d h=>exact h
theorem cY.PX{hd:Value}{z k:Nat}{rs:List (List D)}{r:List V}(h:cY G w ρ hd (.rx z rs k r)):cY G w ρ hd (PX z rs k r):=by
 unfold Vx.PX;cases y:qh r with
 |none=>exact h
 |some ds=>
  obtain rfl:=DS y;obtain⟨b,u,arr,ty,rfl,v,m,c,e,f,o,g⟩:=h;refine .inr ⟨b,u,arr,ty,by simp,v,by grind,c,e,λi row hr=>?_⟩;rw[dE]at hr;split at hr
  .rename_i l;subst l;rw[ζ f.1]at hr;cases hr;refine⟨by grind,λj x p=>(g j (.d x) (by grind)).VJ⟩
  grind
theorem j_.outs{G G':Nat->Prop}{w:World}{ρ ρ':List Value}{hd:Value}{z:Nat}{es:List ME}{out:Option (Nat×V)}{f:V->V}(h:j_ G' w ρ' hd z es none)(d:j_ G w ρ hd z es out)
  (y:∀(i:Nat)(v:V)(u:Value),out=some (i,v)->dI G w ρ u v->dI G' w ρ' u (f v)):j_ G' w ρ' hd z es (out.map λp=>(p.1,f p.2)):=by
 obtain⟨r,arr,clk,rfl,b,g,k,l,m,_⟩:=h;have⟨r',arr',clk',o,k1,k2,k3,q,s,c,k7⟩:=d;cases o;rw[b]at k1;cases k1;refine⟨r,arr,clk,rfl,b,g,k,l,m,λi v x=>?_,λi v e x he=>?_⟩
 .match out,x,c with
  |some (j,u),x,c=>grind
 .match out,x,k7,y with
  |some (j,u),x,k7,y=>grind
theorem Qu(z:Nat)(rs:List (List D))(i:Nat)(row:List V):gh (PX z rs i row)=[]:=by
 unfold Vx.PX;cases qh row<;>rfl
theorem Ci(id:Nat)(x:V)(b:B):gh (Kn id x b)=gh b:=by
 cases b<;>first|rfl|exact Qu _ _ _ _
theorem ny(id:Nat)(b:B):gh (gV id b)=gh b:=by
 cases b<;>rfl
theorem cY.sub{id:Nat}{v0:Value}{y:D}(o:ρ[id]?=some v0)(f:∀b,G b->G' b)(p:bp G' w v0 y){hd:Value}{x:B}(h:cY G w ρ hd x):cY G' w ρ hd (Kn id (.d y) x):=by
 cases x with
 |no=>trivial
 |nw=>exact h
 |cells cs=>
  obtain⟨b,arr,ty,rfl,m,A,q⟩:=h;refine⟨b,arr,ty,rfl,m,by grind,λi x c=>?_⟩;rw[aB]at c;cases g:cs[i]? with
  |none=>grind
  |some x0=>rw[g]at c;cases c;exact(q i x0 g).sub o f p
 |mp es=>
  obtain⟨r,arr,clk,rfl,m,A,q,s⟩:=h;refine⟨r,arr,clk,rfl,m,by grind,q,λi e x he c=>?_⟩;rw[aB]at c;cases g:es[i]? with
  |none=>grind
  |some x0=>rw[g]at c;cases c;exact⟨(s i e x0 he g).1.sub o f p,(s i e x0 he g).2.sub o f p⟩
 |dm es=>exact cY.mono (x:=.dm es) h f (λ_ _=>rfl) (λ_ _=>rfl) (λ_ _=>rfl)
 |di es r l=>exact cY.mono (x:=.di es r l) h f (λ_ _=>rfl) (λ_ _=>rfl) (λ_ _=>rfl)
 |ms z es out it=>
  have m:=cY.mono (x:=.ms z es none it) (w':=w) (ρ':= ρ) ⟨j_.drop h.1,h.2⟩ f (λ_ _=>rfl) (λ_ _=>rfl) (λ_ _=>rfl);exact⟨m.1.outs h.1 (λi v u K hr=>hr.sub o f p),h.2⟩
 |rows z rs=>exact cY.mono (x:=.rows z rs) h f (λ_ _=>rfl) (λ_ _=>rfl) (λ_ _=>rfl)
 |rx z rs k r=>
  obtain⟨b,C,arr,ty,rfl,m,A,q,s,L,F,J⟩:=h;refine cY.PX ⟨b,C,arr,ty,rfl,m,A,q,s,by grind,λi row hr I=>⟨(F i row hr I).1,λj x c=>((F i row hr I).2 j x c).mono f (λ_ _=>rfl)⟩,λi x c=>?_⟩;rw[aB]at c;cases g:r[i]? with
  |none=>grind
  |some x0=>rw[g]at c;cases c;exact(J i x0 g).sub o f p
theorem dL.tX{id:Nat}{v0 v1:Value}(u:ρ[id]?=some v0)(hs:kN v0=true){v:Value}{x:V}(h:dL G w ρ v x):dL G w (ρ.set id v1) v (uo id x):=by
 have get:∀j,j≠id->(ρ.set id v1)[j]?=ρ[j]?:=λj y=>by grind
 cases h with
 |un=>exact .un _
 |ud=>exact .ud
 |d h=>exact .d h
 |p j off b h=>
  have y:j≠id:=λe=>by subst e;rw[u]at h;cases h;contradiction
  exact .p j off b ((get j y).trans h)
 |e b o off row U g k l=>exact .e b o off row U g k l
 |os j a n c h=>
  simp only[uo]
  by_cases y:j=id
  .subst y;simpa using dL.un _
  .have:Nat.beq j id=false:=fm y;rw[this];exact .os j a n c ((get j y).trans h)
 |q j z i off b n c h=>
  simp only[uo]
  by_cases y:j=id
  .subst y;simpa using dL.un _
  .have:Nat.beq j id=false:=fm y;rw[this];exact .q j z i off b n c ((get j y).trans h)
 |cl a n z rows h=>exact .cl a n z rows h
 |nl z=>exact .nl z
 |mp j r h=>
  have y:j≠id:=λe=>by subst e;rw[u]at h;cases h;contradiction
  exact .mp j r ((get j y).trans h)
 |ov j z i _ a n c h f=>
  simp only[uo]
  by_cases y:j=id
  .subst y;simpa using dL.un _
  .have:Nat.beq j id=false:=fm y;rw[this];exact .ov j z i _ a n c ((get j y).trans h) f
 |it j r m h=>
  have y:j≠id:=λe=>by subst e;rw[u]at h;cases h;contradiction
  exact .it j r m ((get j y).trans h)
theorem dI.tX{id:Nat}{v0 v1:Value}(z:ρ[id]?=some v0)(hs:kN v0=true){v:Value}{x:V}(h:dI G w ρ v x):dI G w (ρ.set id v1) v (rT id x):=by
 cases h with
 |k h=>
  have:rT id x=uo id x:=by cases h<;>rfl
  rw[this];exact .k (h.tX z hs)
 |fc f u cs caps c e d=>
  refine .fc f _ cs _ c (by grind) (λi x y=>?_);rw[aB]at y;cases b:caps[i]? with
  |none=>grind
  |some x0=>rw[b]at y;cases y;exact(d i x0 b).tX z hs
theorem dM.tX{id:Nat}{v0 v1:Value}(z:ρ[id]?=some v0)(hs:kN v0=true){v:Value}{x:V}(h:dM G w ρ v x):dM G w (ρ.set id v1) v (qX id x):=by
 cases h with
 |c h=>
  have:qX id x=rT id x:=by
   cases h with
   |k h=>cases h<;>rfl
   |fc=>rfl
  rw[this];exact .c (h.tX z hs)
 |ag cs vs d b=>
  refine .ag cs _ (by grind) (λi x y=>?_);rw[aB]at y;cases u:vs[i]? with
  |none=>grind
  |some x0=>rw[u]at y;cases y;exact(b i x0 u).tX z hs
theorem au.tX{id:Nat}{v0 v1:Value}(z:ρ[id]?=some v0)(hs:kN v0=true){v:Value}{x:V}(h:au G w ρ v x):au G w (ρ.set id v1) v (Aw id x):=by
 cases h with
 |o h=>
  have:Aw id x=qX id x:=by
   cases h with
   |c h=>cases h with
    |k h=>cases h<;>rfl
    |fc=>rfl
   |ag=>rfl
  rw[this];exact .o (h.tX z hs)
 |tu cs vs d b=>
  refine .tu cs _ (by grind) (λi x y=>?_);rw[aB]at y;cases u:vs[i]? with
  |none=>grind
  |some x0=>rw[u]at y;cases y;exact(b i x0 u).tX z hs
theorem cY.tX{id:Nat}{v0 v1:Value}(f:ρ[id]?=some v0)(hs:kN v0=true){hd:Value}{x:B}(h:cY G w ρ hd x):cY G w (ρ.set id v1) hd (gV id x):=by
 cases x with
 |no=>trivial
 |nw=>exact h
 |cells cs=>
  obtain⟨b,arr,ty,rfl,d,o,g⟩:=h;refine⟨b,arr,ty,rfl,d,by grind,λi x y=>?_⟩;rw[aB]at y;cases c:cs[i]? with
  |none=>grind
  |some x0=>rw[c]at y;cases y;exact(g i x0 c).tX f hs
 |mp es=>
  obtain⟨r,arr,clk,rfl,d,o,g,m⟩:=h;refine⟨r,arr,clk,rfl,d,by grind,g,λi e x he y=>?_⟩;rw[aB]at y;cases c:es[i]? with
  |none=>grind
  |some x0=>rw[c]at y;cases y;exact⟨(m i e x0 he c).1.tX f hs,(m i e x0 he c).2.tX f hs⟩
 |dm es=>exact cY.mono (x:=.dm es) h (λ_ h=>h) (λ_ _=>rfl) (λ_ _=>rfl) (λi j=>by cases j)
 |di es r l=>exact cY.mono (x:=.di es r l) h (λ_ h=>h) (λ_ _=>rfl) (λ_ _=>rfl) (λi j=>by cases j)
 |ms z es out it=>
  have d:=cY.mono (x:=.ms z es none it) (w':=w) (ρ':= ρ.set id v1) ⟨j_.drop h.1,h.2⟩ (λ_ h=>h) (λ_ _=>rfl) (λ_ _=>rfl) (λi j=>by cases j);exact⟨d.1.outs h.1 (λi v u A hr=>hr.tX f hs),h.2⟩
 |rows z rs=>exact h
 |rx z rs k r=>
  obtain⟨b,p,arr,ty,rfl,d,o,g,m,C,q,s⟩:=h;refine⟨b,p,arr,ty,rfl,d,o,g,m,by grind,q,λi x y=>?_⟩;rw[aB]at y;cases c:r[i]? with
  |none=>grind
  |some x0=>rw[c]at y;cases y;exact(s i x0 c).tX f hs
end
theorem q6(f:V->V)(x:f .un=.un)(t:T)(i:Nat):gs (t.map λp=>(p.1,f p.2)) i=f (gs t i):=by
 induction t with
 |nil=>exact x.symm
 |cons p r y=>
  have⟨j,v⟩:=p;simp only[cG,gI]
  grind
section
variable{E:gL}{G G':Nat->Prop}{w w':World}{ρ:List Value}{h:H}{n:Nat}{t:T}{a:Act}
theorem Ok.Ns(z:Ok E G w ρ h){id:Nat}{v0:Value}{x0:B}{i:D}(p:ρ[id]?=some v0)(A:h[id]?=some x0)(k:x0≠.no)(hd:bp (λb=>G b\/fO v0=some b) w v0 i)(jb:∀b,fO v0=some b->KO w b) :
  Ok E (λb=>G b\/fO v0=some b) w ρ (oI id (.d i) h):=by
 have J:∀b,G b->(λb=>G b\/fO v0=some b) b:=λb h=>.inl h;have l:∀b,fO v0=some b->own ρ h b:=λb x=>⟨id,v0,_,p,A,k,bR.2 (.inl x)⟩
 have get:∀(j:Nat)(y:B),(oI id (.d i) h)[j]?=some y->(y=.no)\/(j≠id/\∃y0,h[j]?=some y0/\y=Kn id (.d i) y0/\(y≠.no->y0≠.no)):=by
  intro j y f;simp only[oI,dE,aB]at f;split at f
  grind
  .rename_i q;cases K:h[j]? with
   |none=>grind
   |some y0=>
    rw[K]at f;cases f;exact .inr ⟨λe=>q e.symm,y0,rfl,rfl,λL e=>L (by subst e;rfl)⟩
 have u:∀b,own ρ (oI id (.d i) h) b->own ρ h b/\fO v0≠some b:=by
  rintro b ⟨j,v,y,c,g,m,o⟩
  rcases get j y g with rfl|⟨f,y0,g1,M,g3⟩
  grind
  .rw[M,eU,Ci]at o;exact⟨⟨j,v,y0,c,g1,g3 m,o⟩,λe=>f (z.hr.oB j id v v0 y0 _ b c g1 (g3 m) p A k o (bR.2 (.inl e)))⟩
 refine⟨⟨by simp[oI,z.hr.len],λj v y c g=>?_,λj C v v' y N b c g m o O P F I=>?_,λb x=>?_,λb x Q=>?_,z.hr.sF.mono (λ_ h=>.inl h) (λ_ _=>rfl)⟩,λb x=>.inl (z.gm b x),λb x=>?_,λb x=>z.oo b (u b x).1,
  z.frame,z.size,z.os,z.tape,z.out,z.hand,by simpa[oI]using z.hl,λr hr=>?_⟩
 .rcases get j y g with rfl|⟨f,y0,g1,rfl,g3⟩
  .trivial
  .exact(z.hr.rep j v y0 c g1).sub p J hd
 .rcases get j y g with rfl|⟨f,y0,g1,rfl,g3⟩
  grind
  .rcases get C N O with rfl|⟨R,s,k1,rfl,k3⟩
   grind
   .rw[eU,Ci]at F I;exact z.hr.oB j C v v' y0 s b c g1 (g3 m) o k1 (k3 P) F I
 .rcases x with x|x
  .exact z.hr.gl b x
  .exact z.hr.yP (l b x)
 .have⟨c,g⟩:=u b Q;rcases x with x|x
  .exact z.hr.gd b x c
  grind
 .rcases x with x|x
  .exact z.go b x
  .exact .inr ⟨jb b x,z.oo b (l b x)⟩
 .have⟨c,g,m⟩:=z.sC r hr
  grind
theorem Ok.free(y:Ok E G w ρ h){id:Nat}{v0:Value}{z:Nat}{rs:List (List D)}(u:ρ[id]?=some v0)(v:h[id]?=some (.rows z rs)) :
  Ok E (λb=>G b\/fO v0=some b) w ρ (oI id (.d (.sl z rs)) h):=by
 refine y.Ns u v (by simp) (y.hr.rep id v0 _ u v).data λb x=>?_;rcases y.hr.rep id v0 _ u v with⟨e,_⟩|⟨g,c,arr,ty,e,f,_⟩
 .rw[e]at x;cases x
 .rw[e]at x;cases x;exact⟨_,_,_,f⟩
theorem ak.UG(x:ak E n G ρ t h a w){id:Nat}{cs:List V}{ds:List D}(z:h[id]?=some (.cells cs))(v:qh cs=some ds) :
  ∃v0,ρ[id]?=some v0/\bp (λb=>G b\/fO v0=some b) w v0 (.pt ds 0)/\ak E n (λb=>G b\/fO v0=some b) ρ (xy id (.d (.pt ds 0)) t) (oI id (.d (.pt ds 0)) h) a w:=by
 have y:id<ρ.length:=by rw[x.ok.hr.len];grind
 have hr:=x.ok.hr.rep id _ _ (aA y) z;have hd:=hr.US v;refine⟨ρ[id],aA y,hd,x.ok.Ns (aA y) z (by simp) hd (λb u=>?_),x.df,x.sz,λi=>?_⟩
 .have⟨f,arr,ty,e,c,_⟩:=hr;rw[e]at u;cases u;exact⟨_,_,_,c⟩
 .rw[xy,q6 _ rfl];exact(x.tm i).sub (aA y) (λb h=>.inl h) hd
theorem ak.free(x:ak E n G ρ t h a w){id:Nat}{z:Nat}{rs:List (List D)}(u:h[id]?=some (.rows z rs)) :
  ∃v0,ρ[id]?=some v0/\bp (λb=>G b\/fO v0=some b) w v0 (.sl z rs)/\ak E n (λb=>G b\/fO v0=some b) ρ (xy id (.d (.sl z rs)) t) (oI id (.d (.sl z rs)) h) a w:=by
 have y:id<ρ.length:=by rw[x.ok.hr.len];grind
 refine⟨ρ[id],aA y,(x.ok.hr.rep id _ _ (aA y) u).data,x.ok.free (aA y) u,x.df,x.sz,λi=>?_⟩;rw[xy,q6 _ rfl];exact(x.tm i).sub (aA y) (λb h=>.inl h) (x.ok.hr.rep id _ _ (aA y) u).data
theorem ak.put(y:ak E n G ρ t h a w)(d:Option Nat){v:Value}{x:V}(hd:∀i,d=some i->i<n)(hr:au G w ρ v x) :
  ak E n G ρ (match d with|some i=>(i,x)::t|none=>t) h (a.put d v) w:=by
 cases d with
 |none=>exact y
 |some i=>
  refine⟨y.ok,y.df,by simpa[Act.put]using y.sz,λj=>?_⟩;simp only[gI,Act.put]
  by_cases z:i=j
  .subst z;have u:=hd i rfl;rw[<-y.sz]at u;simp_all
  .have b:Nat.beq i j=false:=fm z;rw[b];have:=y.tm j;simp_all
theorem ak.grow(x:ak E n G ρ t h a w)(z:gK w w')(u:∀b,G b->G' b)(y:∀b,G' b->G b\/(w.heap.size<=b/\b<w'.heap.size/\KO w' b)):ak E n G' ρ t h a w':=
 ⟨x.ok.grow z u y,x.df,x.sz,λi=>(x.tm i).mono u (λb v=>z.iE b (x.ok.hr.gl b v)) (λ_ _=>rfl)⟩
theorem ak.push(y:ak E n G ρ t h a w)(v:gK w w')(hd:Value)(x:B)(z:∀b,fO hd=some b->w.heap.size<=b)(c:cY G w' (ρ++[hd]) hd x)(u:gh x=[]:=by rfl):ak E n G (ρ++[hd]) t (h++[x]) a w':=
 ⟨y.ok.push v hd x z c u,y.df,y.sz,λi=>(y.tm i).mono (λ_ h=>h) (λb d=>v.iE b (y.ok.hr.gl b d)) (λj e=>aT ((y.tm i).lt j e))⟩
end
end Go.Vx
