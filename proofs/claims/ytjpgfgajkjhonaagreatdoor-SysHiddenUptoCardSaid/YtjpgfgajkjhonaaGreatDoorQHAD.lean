/- Lemmas. Conditions: none. -/
import Derived.Test.YtjpgfgajkjhonaaGreatDoorQHAC
import Derived.Laws.Slices
import Derived.Below
namespace Go.Vx
theorem get?_eq {α:Type} (l:List α) (n:Nat):get? l n=l[n]?:=by
 induction l generalizing n with
 |nil=>simp [get?]
 |cons x r ih=>cases n<;>simp [get?,ih]
theorem bo {α:Type} (l:List α) (K:List α→Prop):fl l K=K l:=by
 induction l generalizing K with
 |nil=>rfl
 |cons x r ih=>rw [MR,ih]
theorem JV (l:List Nat) (n:Nat) (K:Nat→Prop):JW l n K=K n:=by
 induction l with
 |nil=>rfl
 |cons k r ih=>
  show (bif Nat.beq n k then K k else JW r n K)=K n;cases hb:Nat.beq n k with
  |true=>rw [dH hb];rfl
  |false=>exact ih
theorem cn (n:Nat) (K:Nat→Prop):ij n K=K n:=JV _ n K
theorem Nl (v:V) (K:V→Prop):fv v K=K v:=by
 cases v<;>try rfl
 rename_i x;cases x<;>rfl
theorem Bd (v:V) (K:V→Prop):Rk v K=K v:=by
 cases v with
 |p i o=>exact cn i λi=>K (.p i o)
 |os i=>exact cn i λi=>K (.os i)
 |mp i=>exact cn i λi=>K (.mp i)
 |it i r=>exact cn i λi=>K (.it i r)
 |d x=>exact Nl (.d x) K
 |_=>rfl
theorem pK (l:List V) (K:List V→Prop):Qm l K=K l:=by
 induction l generalizing K with
 |nil=>rfl
 |cons x r ih=>
  show Rk x (λx=>Qm r λr=>K (x :: r))=_;rw [Bd];exact ih λr=>K (x :: r)
theorem Tn (b:B) (K:B→Prop):fb b K=K b:=by
 cases b with
 |cells cs=>exact pK cs λcs=>K (.cells cs)
 |rx z rs i row=>exact pK row λrow=>K (.rx z rs i row)
 |ms z es out it=>
  match out with
  |none=>rfl
  |some (i,v)=>exact Bd v λv=>K (.ms z es (some (i,v)) it)
 |_=>rfl
theorem gE (l:List B) (K:List B→Prop):flb l K=K l:=by
 induction l generalizing K with
 |nil=>rfl
 |cons x r ih=>
  show fb x (λx=>flb r λr=>K (x :: r))=_;rw [Tn];exact ih λr=>K (x :: r)
theorem j2 (l:T) (K:T→Prop):Bj l K=K l:=by
 induction l generalizing K with
 |nil=>rfl
 |cons p r ih=>
  obtain ⟨i,v⟩:=p;show Rk v (λv=>Bj r λr=>K ((i,v) :: r))=_;rw [Bd];exact ih λr=>K ((i,v) :: r)
theorem Bk (l:List Nat) (K:List Nat→Prop):Ud l K=K l:=by
 induction l generalizing K with
 |nil=>rfl
 |cons x r ih=>
  show ij x (λx=>Ud r λr=>K (x :: r))=_;rw [cn];exact ih λr=>K (x :: r)
theorem RZ (d:Option Nat) (v:V) (t:T) (K:T→Prop):uq d v t K=K (match d with | some i=>(i,v) :: t | none=>t):=by
 cases d<;>simp [uq,Nl]
def J2 (F:Nat) (v:Value) (cs:Array Value):Prop:=
 (F<1000000∧v = .func (.func F) #[] cs)∨(0<cs.size∧((∃f,F=f+1000000∧f<1000000∧v = .func (.func f) cs #[]) ∨
  (∃t,F=t+2000000∧t<1000000∧v = .iface t (.agg cs))∨(∃t x,F=t+3000000∧t<1000000∧v = .iface t x∧x.cells = #[x]∧cs = #[x])))
theorem xX {F:Nat} {v:Value} {cs:Array Value} (h:J2 F v cs) (hc:cs.size=0):v = .func (.func F) #[] #[]:=by
 rcases h with ⟨_,rfl⟩ | ⟨h,_⟩
 ·rw [eU hc]
 ·omega
theorem xY {F:Nat} {v:Value} {cs:Array Value} (h:J2 F v cs) (hF:F<1000000):v = .func (.func F) #[] cs:=by
 rcases h with ⟨_,rfl⟩ | ⟨_,⟨f,rfl,_⟩ | ⟨f,rfl,_⟩ | ⟨f,x,rfl,_⟩⟩
 ·rfl
 all_goals omega
theorem Bm {F:Nat} {v:Value} {cs:Array Value} (h:J2 F v cs) (h1:¬F<1000000) (h2:F<2000000):v = .func (.func (F - 1000000)) cs #[]:=by
 rcases h with ⟨h,rfl⟩ | ⟨_,⟨f,rfl,_,rfl⟩ | ⟨f,rfl,_⟩ | ⟨f,x,rfl,_⟩⟩
 ·omega
 ·simp
 all_goals omega
theorem vw {F:Nat} {v:Value} {cs:Array Value} (h:J2 F v cs):v.cells = #[v]:=by
 rcases h with ⟨_,rfl⟩ | ⟨_,⟨f,_,_,rfl⟩ | ⟨f,_,_,rfl⟩ | ⟨f,x,_,_,rfl,_⟩⟩<;>rfl
inductive bw (G:Nat→Prop) (w:World):Value→D→Prop
  |int (k:IntKind) (n:Int):bw G w (.int k n) (.int k n)
  |bool (b:Bool):bw G w (.bool b) (.bool b)
  |str (s:ByteArray):s.size≤maxLen→bw G w (.string s) (.str s.data.toList)
  |yA (z:Nat):bw G w (.slice none 0 0) (.sl z [])
  |sle (a:Addr) (z:Nat):bw G w (.slice (some a) 0 0) (.sl z [])
  |sl (b o cap z:Nat) (rows:List (List D)) (U:Nat→Nat→Value):rows.length≤cap→cap≤maxLen→G b →
      (∀(i:Nat) (row:List D),rows[i]? = some row→row.length=z) →
      (∀(i:Nat) (row:List D) (j:Nat) (x:D),rows[i]? = some row→row[j]? = some x→w.cell? ⟨b,o+(i*z+j),none⟩=some (U i j)) →
      (∀(i:Nat) (row:List D) (j:Nat) (x:D),rows[i]? = some row→row[j]? = some x→bw G w (U i j) x) →
      bw G w (.slice (some ⟨b,o,none⟩) rows.length cap) (.sl z rows)
  |np:bw G w (.pointer none) .np
  |nf:bw G w .nilFunc .nf
  |ni:bw G w .nilIface .ni
  |nm:bw G w (.map none) .nm
  |fn (f:Nat):bw G w (.func (.func f) #[] #[]) (.fn f)
  |fc (F:Nat) (v:Value) (cs:Array Value) (caps:List D):J2 F v cs→cs.size=caps.length→(∀(i:Nat) (x:D),caps[i]? = some x→bw G w (cs.getD i undef) x)→bw G w v (.fc F caps)
  |pt (b o off:Nat) (row:List D) (U:Nat→Value):G b→(∀(j:Nat) (x:D),row[j]? = some x→w.cell? ⟨b,o+j,none⟩=some (U j)) →
      (∀(j:Nat) (x:D),row[j]? = some x→bw G w (U j) x)→bw G w (.pointer (some ⟨b,o+off,none⟩)) (.pt row off)
theorem bw.mono {G G':Nat→Prop} {w w':World} {v:Value} {x:D} (h:bw G w v x) (hG:∀b,G b→G' b) (hw:∀b,G b→w'.heap[b]? = w.heap[b]?) :
  bw G' w' v x:=by
 induction h with
 |int k n=>exact .int k n
 |bool b=>exact .bool b
 |str s hs=>exact .str s hs
 |yA z=>exact .yA z
 |sle a z=>exact .sle a z
 |sl b o cap z rows U h1 h2 h3 h4 h5 _ ih=>
  refine .sl b o cap z rows U h1 h2 (hG b h3) h4 (λi row j x hr hx=>?_) ih;rw [←h5 i row j x hr hx];exact World.cell?_of_block (w:=w) (w':=w') (a:=⟨b,o+(i*z+j),none⟩) (hw b h3)
 |np=>exact .np
 |nf=>exact .nf
 |ni=>exact .ni
 |nm=>exact .nm
 |fn f=>exact .fn f
 |fc F v cs caps h1 h2 _ ih=>exact .fc F v cs caps h1 h2 ih
 |pt b o off row U h1 h2 _ ih=>
  refine .pt b o off row U (hG b h1) (λj x hx=>?_) ih;rw [←h2 j x hx];exact World.cell?_of_block (w:=w) (w':=w') (a:=⟨b,o+j,none⟩) (hw b h1)
theorem bw.cells {G:Nat→Prop} {w:World} {v:Value} {x:D} (h:bw G w v x):v.cells = #[v]:=by
 cases h<;>first | rfl | exact vw ‹_›
inductive dV (G:Nat→Prop) (w:World) (ρ:List Value):Value→V→Prop
  |un (v:Value):dV G w ρ v .un
  |ud:dV G w ρ undef .ud
  |d {v:Value} {x:D}:bw G w v x→dV G w ρ v (.d x)
  |p (id off b:Nat):ρ[id]? = some (.pointer (some ⟨b,0,none⟩))→dV G w ρ (.pointer (some ⟨b,off,none⟩)) (.p id off)
  |e (b o off:Nat) (row:List D) (U:Nat→Value):G b→(∀(j:Nat) (x:D),row[j]? = some x→w.cell? ⟨b,o+j,none⟩=some (U j)) →
      (∀(j:Nat) (x:D),row[j]? = some x→bw G w (U j) x)→dV G w ρ (.pointer (some ⟨b,o+off,none⟩)) (.e row off)
  |os (id:Nat) (a:Option Addr) (n c:Nat):ρ[id]? = some (.slice a n c)→dV G w ρ (.slice a n c) (.os id)
  |q (id z i off b n c:Nat):ρ[id]? = some (.slice (some ⟨b,0,none⟩) n c)→dV G w ρ (.pointer (some ⟨b,i*z+off,none⟩)) (.q id z i off)
  |cl (a:Option Addr) (n z:Nat) (rows:List (List D)):bw G w (.slice a n n) (.sl z rows)→dV G w ρ (.slice a n n) (.cl z rows)
  |nl (z:Nat):dV G w ρ (.slice none 0 0) (.nl z)
  |mp (id r:Nat):ρ[id]? = some (.map (some r))→dV G w ρ (.map (some r)) (.mp id)
  |ov (id z i:Nat) (v:Value) (a:Option Addr) (n c:Nat):ρ[id]? = some (.slice a n c)→v=sliced a i n c z→dV G w ρ v (.ov id z i)
  |it (id r m:Nat):ρ[id]? = some (.map (some m))→dV G w ρ (.pointer (some ⟨r,0,none⟩)) (.it id r)
inductive dP (G:Nat→Prop) (w:World) (ρ:List Value):Value→V→Prop
  |k {v:Value} {x:V}:dV G w ρ v x→dP G w ρ v x
  |fc (F:Nat) (v:Value) (cs:Array Value) (caps:List V):J2 F v cs→cs.size=caps.length→(∀(i:Nat) (x:V),caps[i]? = some x→dV G w ρ (cs.getD i undef) x)→dP G w ρ v (.fc F caps)
inductive dW (G:Nat→Prop) (w:World) (ρ:List Value):Value→V→Prop
  |c {v:Value} {x:V}:dP G w ρ v x→dW G w ρ v x
  |ag (cs:Array Value) (vs:List V):cs.size=vs.length→(∀(i:Nat) (x:V),vs[i]? = some x→dP G w ρ (cs.getD i undef) x)→dW G w ρ (.agg cs) (.ag vs)
inductive bB (G:Nat→Prop) (w:World) (ρ:List Value):Value→V→Prop
  |o {v:Value} {x:V}:dW G w ρ v x→bB G w ρ v x
  |tu (cs:Array Value) (vs:List V):cs.size=vs.length→(∀(i:Nat) (x:V),vs[i]? = some x→dW G w ρ (cs.getD i undef) x)→bB G w ρ (.tuple cs) (.tu vs)
def ord (arr:Array MapEntry) (clk:Nat):Prop:=
 (∀x∈arr.toList,x.born<clk)∧(arr.toList.map (·.born)).Pairwise (· < ·)
def mZ (G:Nat→Prop) (w:World) (ρ:List Value) (hd:Value) (es:List (V×V)):Prop:=
 ∃r arr clk,hd = .map (some r)∧w.heap[r]? = some (.map arr clk)∧arr.size=es.length∧ord arr clk ∧
  ∀(i:Nat) (e:MapEntry) (x:V×V),arr[i]? = some e→es[i]? = some x→dW G w ρ e.key x.1∧dW G w ρ e.val x.2
theorem PV (x:Bool×List D):jC (NI x) = []:=by
 match x with
 |(true,ds)=>simp [NI,jC,kG,ir]
 |(false,d :: _)=>rfl
 |(false,[])=>rfl
theorem xF (es:List (D×Bool×List D)):et (.mp (g_ es)) = []:=by
 simp only [et,g_,cA,bF]
 rintro x ⟨p,_,rfl⟩
 rw [PV,cU];rfl
def AB (G:Nat→Prop) (w:World) (hd:Value) (z:Nat) (rs:List (List D)):Prop:=
 (hd = .slice none 0 0∧rs = [])∨∃b cap arr ty,hd = .slice (some ⟨b,0,none⟩) rs.length cap∧w.heap[b]? = some (.cells arr ty (0,0))∧rs.length≤cap∧cap≤maxLen∧arr.size=cap*z ∧
  ∀(i:Nat) (row:List D),rs[i]? = some row→row.length=z∧∀(j:Nat) (x:D),row[j]? = some x→bw G w (arr.getD (i*z+j) undef) x
def f_:Value→Option Nat
 |.pointer (some a)=>some a.block
 |.slice (some a) _ _=>some a.block
 |.map (some r)=>some r
 |_=>none
def o5 (w:World) (hd:Value) (r:Nat) (l:It):Prop:=
 ∃m arr clk seen,hd = .map (some m)∧w.heap[m]? = some (.map arr clk)∧m≠r∧w.heap[r]? = some (.mapIter (some m) clk seen clk)∧l.1.Nodup ∧
  (∀i,i∈l.1↔∃e,arr[i]? = some e∧seen.contains e.born=false)∧∀i,l.2=some i→∃(e:MapEntry) (s:Array Nat),arr[i]? = some e∧seen=s.push e.born
def UL (w:World) (hd:Value) (es:List ME):Option (Nat×It)→Prop
 |none=>True
 |some (r,l)=>o5 w hd r l∧r∉Bc es
def HK (es:List ME):Prop:=∀(i j:Nat) (k k':List UInt8×List UInt8) (rs rs':List (List D)) (b:Nat),es[i]? = some (k,some (some b,rs))→es[j]? = some (k',some (some b,rs'))→i=j
def kP (G:Nat→Prop) (w:World) (ρ:List Value) (hd:Value) (z:Nat) (es:List ME) (out:Option (Nat×V)):Prop:=
 ∃r arr clk,hd = .map (some r)∧w.heap[r]? = some (.map arr clk)∧arr.size=es.length∧ord arr clk∧(HK es∧r∉Bc es) ∧
  (∀(i:Nat) (e:MapEntry) (x:ME),arr[i]? = some e→es[i]? = some x→dW G w [] e.key (tw x.1)∧∀b rs,x.2=some (b,rs)→f_ e.val=b∧AB G w e.val z rs)∧(∀(i:Nat) (v:V),out=some (i,v)→i<es.length) ∧
  ∀(i:Nat) (v:V) (e:MapEntry),out=some (i,v)→arr[i]? = some e→dP G w ρ e.val v
def cm (G:Nat→Prop) (w:World) (ρ:List Value) (hd:Value):B→Prop
 |.no=>True
 |.nw=>hd=undef
 |.mp es=>mZ G w ρ hd es
 |.dm es=>mZ G w ρ hd (g_ es)
 |.di es r l=>mZ G w ρ hd (g_ es)∧o5 w hd r l
 |.ms z es out it=>kP G w ρ hd z es out∧UL w hd es it
 |.cells cs=>∃b arr ty,hd = .pointer (some ⟨b,0,none⟩)∧w.heap[b]? = some (.cells arr ty (0,0))∧arr.size=cs.length∧∀(i:Nat) (x:V),cs[i]? = some x→dP G w ρ (arr.getD i undef) x
 |.rows z rs=>(hd = .slice none 0 0∧rs = [])∨∃b cap arr ty,hd = .slice (some ⟨b,0,none⟩) rs.length cap∧w.heap[b]? = some (.cells arr ty (0,0))∧rs.length≤cap∧cap≤maxLen∧arr.size=cap*z ∧
  ∀(i:Nat) (row:List D),rs[i]? = some row→row.length=z∧∀(j:Nat) (x:D),row[j]? = some x→bw G w (arr.getD (i*z+j) undef) x
 |.rx z rs k r=>∃b cap arr ty,hd = .slice (some ⟨b,0,none⟩) rs.length cap∧w.heap[b]? = some (.cells arr ty (0,0))∧rs.length≤cap∧cap≤maxLen∧arr.size=cap*z∧(k<rs.length∧r.length=z) ∧
  (∀(i:Nat) (row:List D),rs[i]? = some row→i≠k→row.length=z∧∀(j:Nat) (x:D),row[j]? = some x→bw G w (arr.getD (i*z+j) undef) x) ∧
  ∀(j:Nat) (x:V),r[j]? = some x→dP G w ρ (arr.getD (k*z+j) undef) x
def e9 (v:Value) (x:B):List Nat:=(f_ v).toList++gh x
theorem bT {v:Value} {x:B} {b:Nat}:b∈e9 v x↔f_ v=some b∨b∈gh x:=by
 simp only [e9,aS,Option.mem_toList]
theorem fp {v:Value} {x:B} {b:Nat} (hg:gh x = []:=by rfl):b∈e9 v x↔f_ v=some b:=by
 rw [bT,hg];simp
theorem eQ {es:List ME} {b:Nat}:b∈Bc es↔∃(i:Nat) (k:List UInt8×List UInt8) (rs:List (List D)),es[i]? = some (k,some (some b,rs)):=by
 simp only [Bc,List.mem_filterMap];constructor
 ·rintro ⟨⟨k,x⟩,h1,h2⟩
  obtain ⟨i,hi⟩:=aq.1 h1
  match x,h2 with
  |some (some c,rs),h2=>cases h2;exact ⟨i,k,rs,hi⟩
 ·rintro ⟨i,k,rs,h⟩
  exact ⟨_,aH h,rfl⟩
def j1:Value→Bool
 |.slice _ _ _=>true
 |_=>false
def own (ρ:List Value) (h:H) (b:Nat):Prop:=∃(id:Nat) (v:Value) (x:B),ρ[id]? = some v∧h[id]? = some x∧x≠B.no∧b∈e9 v x
def R0 (G:Nat→Prop) (w:World):Prop:=
 ∀(g:Nat) (row:List D),A1 Tk g=some row→G g∧∃U:Nat→Value,(∀(j:Nat) (x:D),row[j]? = some x→w.cell? ⟨g,0+j,none⟩=some (U j))∧∀(j:Nat) (x:D),row[j]? = some x→bw G w (U j) x
theorem R0.mono {G G':Nat→Prop} {w w':World} (h:R0 G w) (hG:∀b,G b→G' b) (hw:∀b,G b→w'.heap[b]? = w.heap[b]?):R0 G' w':=by
 intro g row hg;obtain ⟨h1,U,h2,h3⟩:=h g row hg;refine ⟨hG g h1,U,λj x hx=>?_,λj x hx=>(h3 j x hx).mono hG hw⟩;rw [←h2 j x hx];exact World.cell?_of_block (w:=w) (w':=w') (a:=⟨g,0+j,none⟩) (hw g h1)
structure HR (G:Nat→Prop) (w:World) (ρ:List Value) (h:H):Prop where
  len:ρ.length=h.length
  rep:∀(id:Nat) (v:Value) (x:B),ρ[id]? = some v→h[id]? = some x→cm G w ρ v x
  nW:∀(id id':Nat) (v v':Value) (x x':B) (b:Nat),ρ[id]? = some v→h[id]? = some x→x≠B.no→ρ[id']? = some v'→h[id']? = some x'→x'≠B.no→b∈e9 v x→b∈e9 v' x'→id=id'
  gl:∀b,G b→b<w.heap.size
  gd:∀b,G b→¬own ρ h b
  uH:R0 G w
theorem kP.drop {G:Nat→Prop} {w:World} {ρ:List Value} {hd:Value} {z:Nat} {es:List ME} {out:Option (Nat×V)} (h:kP G w ρ hd z es out):kP G w ρ hd z es none:=by
 obtain ⟨r,arr,clk,h0,h1,h2,h3,h4,h5,_⟩:=h;exact ⟨r,arr,clk,h0,h1,h2,h3,h4,h5,λi v h=>(by cases h),λi v e h=>by cases h⟩
theorem cm.obj {G:Nat→Prop} {w:World} {ρ:List Value} {hd:Value} {x:B} {r:Nat} (hb:cm G w ρ hd x) (hn:x≠.no) (hr:r∈e9 hd x) :
  (∃arr ty,w.heap[r]? = some (.cells arr ty (0,0)))∨(∃arr clk,w.heap[r]? = some (.map arr clk))∨∃m since seen last,w.heap[r]? = some (.mapIter m since seen last):=by
 have map:∀es,mZ G w ρ hd es→f_ hd=some r→(∃arr clk,w.heap[r]? = some (.map arr clk)):=by
  rintro es ⟨r',arr,clk,rfl,h1,_⟩ hr
  simp only [f_,aE] at hr;subst hr;exact ⟨_,_,h1⟩
 have W4:∀r l,o5 w hd r l→∃m since seen last,w.heap[r]? = some (.mapIter m since seen last):=by
  rintro r l ⟨m,arr,clk,seen,_,_,_,h,_⟩
  exact ⟨_,_,_,_,h⟩
 cases x with
 |no=>exact absurd rfl hn
 |nw=>
  have:hd=undef:=hb;subst this;simp [e9,f_,gh,undef] at hr
 |mp es=>exact .inr (.inl (map _ hb ((fp).1 hr)))
 |dm es=>exact .inr (.inl (map _ hb ((fp).1 hr)))
 |di es q l=>
  rcases bT.1 hr with hr | hr
  ·exact .inr (.inl (map _ hb.1 hr))
  ·simp only [gh,aM] at hr;subst hr;exact .inr (.inr (W4 _ _ hb.2))
 |ms z es out it=>
  obtain ⟨⟨m,arr,clk,rfl,h1,h2,h3,h4,h5,h6⟩,hb2⟩:=hb;rcases bT.1 hr with hr | hr
  ·simp only [f_,aE] at hr;subst hr;exact .inr (.inl ⟨_,_,h1⟩)
  ·simp only [gh,aS] at hr;rcases hr with hr | hr
   ·obtain ⟨i,k,rs,hi⟩:=eQ.1 hr;have hil:i<arr.size:=by rw [h2];exact (aA.1 hi).1
    obtain ⟨e1,e2⟩:=(h5 i _ _ (aJ hil) hi).2 _ _ rfl;rcases e2 with ⟨e3,_⟩ | ⟨b,cap,ar,ty,e3,e4,_⟩
    ·rw [e3] at e1;cases e1
    ·rw [e3] at e1;cases e1;exact .inl ⟨_,_,e4⟩
   ·match it,hr,hb2 with
    |some (q,l),hr,hb2=>
     simp only [Nk,aM] at hr;subst hr;exact .inr (.inr (W4 _ _ hb2.1))
 |cells cs=>
  obtain ⟨b,arr,ty,rfl,h1,_⟩:=hb;have hr:=(fp).1 hr;simp only [f_,aE] at hr;subst hr;exact .inl ⟨_,_,h1⟩
 |rows z rs=>
  have hr:=(fp).1 hr;rcases hb with ⟨rfl,_⟩ | ⟨b,cap,arr,ty,rfl,h1,_⟩
  ·cases hr
  ·simp only [f_,aE] at hr;subst hr;exact .inl ⟨_,_,h1⟩
 |rx z rs k q=>
  obtain ⟨b,cap,arr,ty,rfl,h1,_⟩:=hb;have hr:=(fp).1 hr;simp only [f_,aE] at hr;subst hr;exact .inl ⟨_,_,h1⟩
theorem cm.VW {G:Nat→Prop} {w:World} {ρ:List Value} {hd:Value} {x:B} {r:Nat} {ds:Option (List Deferred)} (hb:cm G w ρ hd x) (hn:x≠.no) (hr:r∈e9 hd x) (h:w.heap[r]? = some (.deferred ds)):False:=by
 rcases hb.obj hn hr with ⟨_,_,h1⟩ | ⟨_,_,h1⟩ | ⟨_,_,_,_,h1⟩<;>(rw [h] at h1;cases h1)
structure gR where
  w:World
  G:Nat→Prop
  ρ:List Value
  h:H
  ds:List Deferred:=[]
  ms:List Nat:=[]
def K2 (w:World) (b:Nat):Prop:=∃arr ty m,w.heap[b]? = some (.cells arr ty m)
theorem K2.same {w w':World} {b:Nat} (h:K2 w b) (e:w'.heap[b]? = w.heap[b]?):K2 w' b:=by
 obtain ⟨x,y,z,h⟩:=h;exact ⟨x,y,z,e.trans h⟩
structure Ok (E:gR) (G:Nat→Prop) (w:World) (ρ:List Value) (h:H):Prop where
  hr:HR G w ρ h
  gm:∀b,E.G b→G b
  go:∀b,G b→E.G b∨(K2 w b∧(E.w.heap.size≤b∨own E.ρ E.h b))
  oo:∀b,own ρ h b→E.w.heap.size≤b∨own E.ρ E.h b
  frame:∀b,b<E.w.heap.size→¬own E.ρ E.h b→w.heap[b]? = E.w.heap[b]?
  size:E.w.heap.size≤w.heap.size
  os:w.os=E.w.os
  tape:w.tape=E.w.tape
  out:w.output=E.w.output
  hand:∀(id:Nat) (v:Value),E.ρ[id]? = some v→j1 v=false→ρ[id]? = some v
  hl:E.h.length≤h.length
  sN:∀r∈E.ms,w.heap[r]? = some (.deferred (some []))∧¬G r∧¬own ρ h r
structure au (E:gR) (n:Nat) (G:Nat→Prop) (ρ:List Value) (t:T) (h:H) (a:Act) (w:World):Prop where
  ok:Ok E G w ρ h
  df:a.defers=E.ds
  sz:a.tmps.size=n
  tm:∀i,bB G w ρ (a.tmps.getD i undef) (gs t i)
section mono
variable {G G':Nat→Prop} {w w':World} {ρ ρ':List Value}
theorem dV.mono {v:Value} {x:V} (h:dV G w ρ v x) (hG:∀b,G b→G' b) (hw:∀b,G b→w'.heap[b]? = w.heap[b]?) (hρ:∀i∈ir x,ρ'[i]? = ρ[i]?):dV G' w' ρ' v x:=by
 cases h with
 |un=>exact .un _
 |ud=>exact .ud
 |d h=>exact .d (h.mono hG hw)
 |p id off b h=>exact .p id off b ((hρ id (by simp [ir])).trans h)
 |e b o off row U h1 h2 h3=>
  refine .e b o off row U (hG b h1) (λj x hx=>?_) (λj x hx=>(h3 j x hx).mono hG hw);rw [←h2 j x hx];exact World.cell?_of_block (w:=w) (w':=w') (a:=⟨b,o+j,none⟩) (hw b h1)
 |os id a n c h=>exact .os id a n c ((hρ id (by simp [ir])).trans h)
 |q id z i off b n c h=>exact .q id z i off b n c ((hρ id (by simp [ir])).trans h)
 |cl a n z rows h=>exact .cl a n z rows (h.mono hG hw)
 |nl z=>exact .nl z
 |mp id r h=>exact .mp id r ((hρ id (by simp [ir])).trans h)
 |ov id z i _ a n c h hv=>exact .ov id z i _ a n c ((hρ id (by simp [ir])).trans h) hv
 |it id r m h=>exact .it id r m ((hρ id (by simp [ir])).trans h)
theorem dP.mono {v:Value} {x:V} (h:dP G w ρ v x) (hG:∀b,G b→G' b) (hw:∀b,G b→w'.heap[b]? = w.heap[b]?) (hρ:∀i∈kG x,ρ'[i]? = ρ[i]?):dP G' w' ρ' v x:=by
 cases h with
 |k h=>exact .k (h.mono hG hw (λi hi=>hρ i (by cases h<;>simpa [kG] using hi)))
 |fc f u cs caps h0 h1 h2=>
  refine .fc f _ cs caps h0 h1 (λi x hx=>(h2 i x hx).mono hG hw (λj hj=>hρ j ?_));simp only [kG,aQ];exact ⟨x,aH hx,hj⟩
theorem dW.mono {v:Value} {x:V} (h:dW G w ρ v x) (hG:∀b,G b→G' b) (hw:∀b,G b→w'.heap[b]? = w.heap[b]?) (hρ:∀i∈jC x,ρ'[i]? = ρ[i]?):dW G' w' ρ' v x:=by
 cases h with
 |c h=>
  refine .c (h.mono hG hw (λi hi=>hρ i ?_));cases h with
  |k h=>cases h<;>simpa [jC] using hi
  |fc=>simpa [jC] using hi
 |ag cs vs h1 h2=>
  refine .ag cs vs h1 (λi x hx=>(h2 i x hx).mono hG hw (λj hj=>hρ j ?_));simp only [jC,aQ];exact ⟨x,aH hx,hj⟩
theorem bB.mono {v:Value} {x:V} (h:bB G w ρ v x) (hG:∀b,G b→G' b) (hw:∀b,G b→w'.heap[b]? = w.heap[b]?) (hρ:∀i∈eR x,ρ'[i]? = ρ[i]?):bB G' w' ρ' v x:=by
 cases h with
 |o h=>
  refine .o (h.mono hG hw (λi hi=>hρ i ?_));cases h with
  |c h=>cases h with
   |k h=>cases h<;>simpa [eR] using hi
   |fc=>simpa [eR] using hi
  |ag cs vs h1 h2=>simpa [eR] using hi
 |tu cs vs h1 h2=>
  refine .tu cs vs h1 (λi x hx=>(h2 i x hx).mono hG hw (λj hj=>hρ j ?_));simp only [eR,aQ];exact ⟨x,aH hx,hj⟩
theorem mZ.mono {hd:Value} {es:List (V×V)} (h:mZ G w ρ hd es) (hG:∀b,G b→G' b) (hw:∀b,G b→w'.heap[b]? = w.heap[b]?) (hb:∀b,f_ hd=some b→w'.heap[b]? = w.heap[b]?)
  (hρ:∀i∈et (.mp es),ρ'[i]? = ρ[i]?):mZ G' w' ρ' hd es:=by
 obtain ⟨r,arr,clk,rfl,h1,h2,h3,h4⟩:=h;refine ⟨r,arr,clk,rfl,(hb r rfl).trans h1,h2,h3,λi e x he hx=>⟨(h4 i e x he hx).1.mono hG hw (λj hj=>hρ j ?_),(h4 i e x he hx).2.mono hG hw (λj hj=>hρ j ?_)⟩⟩
 ·simp only [et,aQ];exact ⟨x,aH hx,eC _ hj⟩
 ·simp only [et,aQ];exact ⟨x,aH hx,dq _ hj⟩
theorem AB.mono {hd:Value} {z:Nat} {rs:List (List D)} (h:AB G w hd z rs) (hG:∀b,G b→G' b) (hw:∀b,G b→w'.heap[b]? = w.heap[b]?) (hb:∀b,f_ hd=some b→w'.heap[b]? = w.heap[b]?):AB G' w' hd z rs:=by
 rcases h with h | ⟨b,cap,arr,ty,rfl,h1,h2,h3,h4,h5⟩
 ·exact .inl h
 ·exact .inr ⟨b,cap,arr,ty,rfl,(hb b rfl).trans h1,h2,h3,h4,λi row hr=>⟨(h5 i row hr).1,λj x hx=>((h5 i row hr).2 j x hx).mono hG hw⟩⟩
theorem o5.mono {hd:Value} {r:Nat} {l:It} (h:o5 w hd r l) (hb:∀b,f_ hd=some b→w'.heap[b]? = w.heap[b]?) (hr:w'.heap[r]? = w.heap[r]?):o5 w' hd r l:=by
 obtain ⟨m,arr,clk,seen,rfl,h1,h2,h3,h4⟩:=h;exact ⟨m,arr,clk,seen,rfl,(hb m rfl).trans h1,h2,hr.trans h3,h4⟩
theorem B0 (k:List UInt8×List UInt8):jC (tw k) = []:=by
 simp [tw,jC,kG,ir]
theorem kP.mono {hd:Value} {z:Nat} {es:List ME} {out:Option (Nat×V)} (h:kP G w ρ hd z es out) (hG:∀b,G b→G' b) (hw:∀b,G b→w'.heap[b]? = w.heap[b]?) (hb:∀b,f_ hd=some b→w'.heap[b]? = w.heap[b]?)
  (hb2:∀b∈Bc es,w'.heap[b]? = w.heap[b]?) (hρ:∀i v,out=some (i,v)→∀j∈kG v,ρ'[j]? = ρ[j]?):kP G' w' ρ' hd z es out:=by
 obtain ⟨r,arr,clk,rfl,h1,h2,h3,h4,h5,h5',h6⟩:=h;refine ⟨r,arr,clk,rfl,(hb r rfl).trans h1,h2,h3,h4,λi e x he hx=>⟨(h5 i e x he hx).1.mono hG hw (λ_ _=>rfl),λb rs hv=>?_⟩,h5',λi v e hv he=>(h6 i v e hv he).mono hG hw (hρ i v hv)⟩;obtain ⟨e1,e2⟩:=(h5 i e x he hx).2 b rs hv;refine ⟨e1,e2.mono hG hw λc hc=>hb2 c (eQ.2 ⟨i,x.1,rs,?_⟩)⟩;rw [hx,←hc,e1,←hv]
theorem cm.mono {hd:Value} {x:B} (h:cm G w ρ hd x) (hG:∀b,G b→G' b) (hw:∀b,G b→w'.heap[b]? = w.heap[b]?) (hb':∀b∈e9 hd x,w'.heap[b]? = w.heap[b]?)
  (hρ:∀i∈et x,ρ'[i]? = ρ[i]?):cm G' w' ρ' hd x:=by
 have hb:∀b,f_ hd=some b→w'.heap[b]? = w.heap[b]?:=λb h=>hb' b (bT.2 (.inl h));cases x with
 |no=>trivial
 |nw=>exact h
 |mp es=>exact mZ.mono h hG hw hb hρ
 |dm es=>exact mZ.mono h hG hw hb (λi hi=>by rw [xF] at hi;cases hi)
 |di es r l=>exact ⟨mZ.mono h.1 hG hw hb (λi hi=>by rw [xF] at hi;cases hi),h.2.mono hb (hb' r (bT.2 (.inr (aM.2 rfl))))⟩
 |ms z es out it=>
  refine ⟨kP.mono h.1 hG hw hb (λb hb2=>hb' b (bT.2 (.inr (eC _ hb2)))) (λi v ho j hj=>hρ j (by subst ho;exact hj)),?_⟩
  match it,h.2,hb' with
  |none,_,_=>trivial
  |some (r,l),h2,hb'=>exact ⟨h2.1.mono hb (hb' r (bT.2 (.inr (dq _ (aM.2 rfl))))),h2.2⟩
 |cells cs=>
  obtain ⟨b,arr,ty,rfl,h1,h2,h3⟩:=h;refine ⟨b,arr,ty,rfl,(hb b rfl).trans h1,h2,λi x hx=>(h3 i x hx).mono hG hw (λj hj=>hρ j ?_)⟩;simp only [et,aQ];exact ⟨x,aH hx,hj⟩
 |rows z rs=>
  rcases h with h | ⟨b,cap,arr,ty,rfl,h1,h2,h3,h4,h5⟩
  ·exact .inl h
  ·exact .inr ⟨b,cap,arr,ty,rfl,(hb b rfl).trans h1,h2,h3,h4,λi row hr=>⟨(h5 i row hr).1,λj x hx=>((h5 i row hr).2 j x hx).mono hG hw⟩⟩
 |rx z rs k r=>
  obtain ⟨b,cap,arr,ty,rfl,h1,h2,h3,h4,h0,h5,h6⟩:=h;refine ⟨b,cap,arr,ty,rfl,(hb b rfl).trans h1,h2,h3,h4,h0,λi row hr hk=>⟨(h5 i row hr hk).1,λj x hx=>((h5 i row hr hk).2 j x hx).mono hG hw⟩,λi x hx=>(h6 i x hx).mono hG hw (λj hj=>hρ j ?_)⟩;simp only [et,aQ];exact ⟨x,aH hx,hj⟩
theorem dV.lt {v:Value} {x:V} (h:dV G w ρ v x):∀i∈ir x,i<ρ.length:=by
 cases h<;>simp [ir]<;>first | (rename_i h;exact (aA.1 h).1) | (rename_i h _;exact (aA.1 h).1)
theorem dP.lt {v:Value} {x:V} (h:dP G w ρ v x):∀i∈kG x,i<ρ.length:=by
 cases h with
 |k h=>intro i hi;exact h.lt i (by cases h<;>simpa [kG] using hi)
 |fc f u cs caps h0 h1 h2=>
  intro i hi;simp only [kG,aQ] at hi;obtain ⟨x,hx,hi⟩:=hi;obtain ⟨j,hxj⟩:=aq.1 hx;exact (h2 j x hxj).lt i hi
theorem dW.lt {v:Value} {x:V} (h:dW G w ρ v x):∀i∈jC x,i<ρ.length:=by
 cases h with
 |c h=>
  intro i hi;refine h.lt i ?_;cases h with
  |k h=>cases h<;>simpa [jC] using hi
  |fc=>simpa [jC] using hi
 |ag cs vs h1 h2=>
  intro i hi;simp only [jC,aQ] at hi;obtain ⟨x,hx,hi⟩:=hi;obtain ⟨j,hxj⟩:=aq.1 hx;exact (h2 j x hxj).lt i hi
theorem bB.lt {v:Value} {x:V} (h:bB G w ρ v x):∀i∈eR x,i<ρ.length:=by
 cases h with
 |o h=>
  intro i hi;refine h.lt i ?_;cases h with
  |c h=>cases h with
   |k h=>cases h<;>simpa [eR] using hi
   |fc=>simpa [eR] using hi
  |ag cs vs h1 h2=>simpa [eR] using hi
 |tu cs vs h1 h2=>
  intro i hi;simp only [eR,aQ] at hi;obtain ⟨x,hx,hi⟩:=hi;obtain ⟨j,hxj⟩:=aq.1 hx;exact (h2 j x hxj).lt i hi
theorem cm.lt {hd:Value} {x:B} (h:cm G w ρ hd x):∀i∈et x,i<ρ.length:=by
 cases x with
 |no=>simp [et]
 |nw=>simp [et]
 |mp es=>
  obtain ⟨r,arr,clk,rfl,h1,h2,h3,h4⟩:=h;intro i hi;simp only [et,aQ] at hi;obtain ⟨x,hx,hi⟩:=hi;obtain ⟨j,hxj⟩:=aq.1 hx;have hj:j<arr.size:=by rw [h2];exact (aA.1 hxj).1
  rcases aS.1 hi with hi | hi
  ·exact (h4 j _ x (aJ hj) hxj).1.lt i hi
  ·exact (h4 j _ x (aJ hj) hxj).2.lt i hi
 |dm es=>simp [et]
 |di es r l=>simp [et]
 |ms z es out it=>
  obtain ⟨⟨r,arr,clk,rfl,h1,h2,h3,h4,h5,h6,h7⟩,_⟩:=h;intro i hi
  match out,hi,h6,h7 with
  |some (j,v),hi,h6,h7=>
   have hj:j<arr.size:=by rw [h2];exact h6 j v rfl
   exact (h7 j v _ rfl (aJ hj)).lt i hi
 |cells cs=>
  obtain ⟨b,arr,ty,rfl,h1,h2,h3⟩:=h;intro i hi;simp only [et,aQ] at hi;obtain ⟨x,hx,hi⟩:=hi;obtain ⟨j,hxj⟩:=aq.1 hx;exact (h3 j x hxj).lt i hi
 |rows z rs=>simp [et]
 |rx z rs k r=>
  obtain ⟨b,cap,arr,ty,rfl,h1,h2,h3,h4,h0,h5,h6⟩:=h;intro i hi;simp only [et,aQ] at hi;obtain ⟨x,hx,hi⟩:=hi;obtain ⟨j,hxj⟩:=aq.1 hx;exact (h6 j x hxj).lt i hi
end mono
structure gY (w w':World):Prop where
  size:w.heap.size≤w'.heap.size
  h_:∀b,b<w.heap.size→w'.heap[b]? = w.heap[b]?
  os:w'.os=w.os
  tape:w'.tape=w.tape
  out:w'.output=w.output
theorem gY.refl (w:World):gY w w:=⟨aR _,λ_ _=>rfl,rfl,rfl,rfl⟩
theorem gY.trans {a b c:World} (h:gY a b) (k:gY b c):gY a c:=
 ⟨aZ h.size k.size,λi hi=>(k.h_ i (bt hi h.size)).trans (h.h_ i hi),k.os.trans h.os,k.tape.trans h.tape,k.out.trans h.out⟩
theorem gY.alloc (w:World) (o:Obj):gY w (w.alloc o):=
 ⟨by simp,λb hb=>by show (w.heap.push o)[b]? = _;rw [jL,η (by omega)],rfl,rfl,rfl⟩
theorem gY.drew (w:World):gY w w.drew:=⟨aR _,λ_ _=>rfl,rfl,rfl,rfl⟩
theorem gY.draw (w:World) (n:Nat):gY w { w with drawn:=n }:=⟨aR _,λ_ _=>rfl,rfl,rfl,rfl⟩
section
variable {E:gR} {G G':Nat→Prop} {w w':World} {ρ:List Value} {h:H}
theorem HR.lt (hr:HR G w ρ h) {id:Nat} {v:Value} {x:B} {b:Nat} (hv:ρ[id]? = some v) (hx:h[id]? = some x) (hn:x≠.no) (hb:b∈e9 v x):b<w.heap.size:=by
 rcases (hr.rep id v x hv hx).obj hn hb with ⟨_,_,h1⟩ | ⟨_,_,h1⟩ | ⟨_,_,_,_,h1⟩<;>exact (aN.1 h1).1
theorem HR.ya (hr:HR G w ρ h) {b:Nat} (ho:own ρ h b):b<w.heap.size:=by
 obtain ⟨id,v,x,h1,h2,h3,h4⟩:=ho;exact hr.lt h1 h2 h3 h4
theorem Ok.grow (hO:Ok E G w ρ h) (hg:gY w w') (hG:∀b,G b→G' b) (hG':∀b,G' b→G b∨(w.heap.size≤b∧b<w'.heap.size∧K2 w' b)):Ok E G' w' ρ h:=by
 have hw:∀b,G b→w'.heap[b]? = w.heap[b]?:=λb hb=>hg.h_ b (hO.hr.gl b hb);refine ⟨⟨hO.hr.len,λid v x hv hx=>?_,hO.hr.nW,λb hb=>?_,λb hb ho=>?_,hO.hr.uH.mono hG hw⟩,λb hb=>hG b (hO.gm b hb),λb hb=>?_,hO.oo,λb hb hn=>?_,aZ hO.size hg.size,
  hg.os.trans hO.os,hg.tape.trans hO.tape,hg.out.trans hO.out,hO.hand,hO.hl,λr hr=>?_⟩
 ·cases x with
  |no=>trivial
  |_=>exact (hO.hr.rep id v _ hv hx).mono hG hw (λb hb=>hg.h_ b (hO.hr.lt hv hx (by simp) hb)) (λ_ _=>rfl)
 ·rcases hG' b hb with h1 | h1
  ·exact bt (hO.hr.gl b h1) hg.size
  ·exact h1.2.1
 ·rcases hG' b hb with h1 | h1
  ·exact hO.hr.gd b h1 ho
  ·have:=hO.hr.ya ho;omega
 ·rcases hG' b hb with h1 | h1
  ·exact (hO.go b h1).imp (λh=>h) λh2=>⟨h2.1.same (hw b h1),h2.2⟩
  ·exact .inr ⟨h1.2.2,.inl (aZ hO.size h1.1)⟩
 ·exact (hg.h_ b (bt hb hO.size)).trans (hO.frame b hb hn)
 ·obtain ⟨h1,h2,h3⟩:=hO.sN r hr;have hlt:=(aN.1 h1).1;refine ⟨(hg.h_ r hlt).trans h1,λh4=>?_,h3⟩;rcases hG' r h4 with h5 | h5
  ·exact h2 h5
  ·omega
theorem pC {ρ:List Value} {h:H} {hd:Value} {x:B} {b:Nat} (hl:ρ.length=h.length) (ho:own (ρ ++ [hd]) (h ++ [x]) b):own ρ h b∨(x≠.no∧b∈e9 hd x):=by
 obtain ⟨id,v,y,h1,h2,h3,h4⟩:=ho
 by_cases hi:id<ρ.length
 ·rw [aO hi] at h1;rw [aO (hl ▸ hi)] at h2;exact .inl ⟨id,v,y,h1,h2,h3,h4⟩
 ·have hid:id=ρ.length:=by
   have:=(aA.1 h1).1;simp at this;omega
  subst hid;simp at h1;rw [hl] at h2;simp at h2;subst h1 h2;exact .inr ⟨h3,h4⟩
theorem Ok.NV (hO:Ok E G w ρ h) (hg:gY w w') (hd:Value) (x:B) (hbk:∀b∈e9 hd x,w.heap.size≤b) (hx:cm G w' (ρ ++ [hd]) hd x):Ok E G w' (ρ ++ [hd]) (h ++ [x]):=by
 have hw:∀b,G b→w'.heap[b]? = w.heap[b]?:=λb hb=>hg.h_ b (hO.hr.gl b hb);have hl:=hO.hr.len;have get:∀(id:Nat) (v:Value) (y:B),(ρ ++ [hd])[id]? = some v→(h ++ [x])[id]? = some y→(ρ[id]? = some v∧h[id]? = some y)∨(id=ρ.length∧v=hd∧y=x):=by
  intro id v y h1 h2
  by_cases hi:id<ρ.length
  ·rw [aO hi] at h1;rw [aO (hl ▸ hi)] at h2;exact .inl ⟨h1,h2⟩
  ·have hid:id=ρ.length:=by
    have:=(aA.1 h1).1;simp at this;omega
   subst hid;simp at h1;rw [hl] at h2;simp at h2;exact .inr ⟨rfl,h1.symm,h2.symm⟩
 have hpre:∀i,i<ρ.length→(ρ ++ [hd])[i]? = ρ[i]?:=λi hi=>aO hi;refine ⟨⟨by simp [hl],λid v y hv hy=>?_,λid id' v v' y y' b h1 h2 h3 h4 h5 h6 h7 h8=>?_,λb hb=>bt (hO.hr.gl b hb) hg.size,λb hb ho=>?_,hO.hr.uH.mono (λ_ h=>h) hw⟩,hO.gm,λb hb=>(hO.go b hb).imp (λh=>h) λh2=>⟨h2.1.same (hw b hb),h2.2⟩,λb hb=>?_,
  λb hb hn=>(hg.h_ b (bt hb hO.size)).trans (hO.frame b hb hn),aZ hO.size hg.size,hg.os.trans hO.os,hg.tape.trans hO.tape,hg.out.trans hO.out,λid v hv hs=>?_,by simpa using dI hO.hl,λr hr=>(by
   obtain ⟨h1,h2,h3⟩:=hO.sN r hr;have hlt:=(aN.1 h1).1;refine ⟨(hg.h_ r hlt).trans h1,h2,λh4=>?_⟩;rcases pC hl h4 with h5 | h5
   ·exact h3 h5
   ·have:=hbk r h5.2;omega)⟩
 ·rcases get id v y hv hy with ⟨h1,h2⟩ | ⟨rfl,rfl,rfl⟩
  ·have hr:=hO.hr.rep id v y h1 h2;cases y with
   |no=>trivial
   |_=>exact hr.mono (λ_ h=>h) hw (λb hb=>hg.h_ b (hO.hr.lt h1 h2 (by simp) hb)) (λi hi=>hpre i (hr.lt i hi))
  ·exact hx
 ·rcases get id v y h1 h2 with ⟨g1,g2⟩ | ⟨rfl,rfl,rfl⟩<;>rcases get id' v' y' h4 h5 with ⟨k1,k2⟩ | ⟨rfl,rfl,rfl⟩
  ·exact hO.hr.nW id id' v v' y y' b g1 g2 h3 k1 k2 h6 h7 h8
  ·have:=hO.hr.lt g1 g2 h3 h7;have:=hbk b h8;omega
  ·have:=hO.hr.lt k1 k2 h6 h8;have:=hbk b h7;omega
  ·rfl
 ·rcases pC hl ho with h1 | ⟨h1,h2⟩
  ·exact hO.hr.gd b hb h1
  ·have:=hO.hr.gl b hb;have:=hbk b h2;omega
 ·rcases pC hl hb with h1 | ⟨h1,h2⟩
  ·exact hO.oo b h1
  ·exact .inl (aZ hO.size (hbk b h2))
 ·have:=hO.hand id v hv hs;rw [hpre id (aA.1 this).1];exact this
theorem Ok.push (hO:Ok E G w ρ h) (hg:gY w w') (hd:Value) (x:B) (hbk:∀b,f_ hd=some b→w.heap.size≤b) (hx:cm G w' (ρ ++ [hd]) hd x) (hgh:gh x = []:=by rfl):Ok E G w' (ρ ++ [hd]) (h ++ [x]):=
 hO.NV hg hd x (λb hb=>hbk b ((fp hgh).1 hb)) hx
theorem LW {ρ:List Value} {h:H} {id:Nat} {v1:Value} {x1:B} {b:Nat} (ho:own (ρ.set id v1) (h.set id x1) b):(∃(j:Nat) (v:Value) (y:B),j≠id∧ρ[j]? = some v∧h[j]? = some y∧y≠.no∧b∈e9 v y)∨(x1≠.no∧b∈e9 v1 x1):=by
 obtain ⟨j,v,y,h1,h2,h3,h4⟩:=ho;rw [bK] at h1 h2;split at h1
 ·rename_i hj;subst hj;rw [ζ rfl] at h2;split at h1
  ·split at h2
   ·cases h1;cases h2;exact .inr ⟨h3,h4⟩
   ·cases h2
  ·cases h1
 ·rename_i hj;rw [η hj] at h2;exact .inl ⟨j,v,y,λe=>hj e.symm,h1,h2,h3,h4⟩
theorem Ok.Rv (hO:Ok E G w ρ h) {id:Nat} {v0 v1:Value} {x0 x1:B} (hv:ρ[id]? = some v0) (hx:h[id]? = some x0) (hn:x0≠.no) (hs:w.heap.size≤w'.heap.size)
  (same:∀b,b<w.heap.size→b∉e9 v0 x0→w'.heap[b]? = w.heap[b]?) (ho:w'.os=w.os) (ht:w'.tape=w.tape) (hou:w'.output=w.output)
  (new:cm G w' (ρ.set id v1) v1 x1) (hb1:∀b∈e9 v1 x1,b∈e9 v0 x0∨w.heap.size≤b) (hs1:j1 v0=false→v1=v0)
  (h':H) (hh:h'.length=h.length) (hh':∀(j:Nat) (y:B),h'[j]? = some y→j≠id→∃y0,h[j]? = some y0∧(y0 = .no↔y = .no)∧gh y=gh y0∧(∀v,ρ[j]? = some v→cm G w ρ v y0→cm G w (ρ.set id v1) v y)) :
  Ok E G w' (ρ.set id v1) (h'.set id x1):=by
 have hgb:∀b,G b→b∉e9 v0 x0:=λb hb e=>hO.hr.gd b hb ⟨id,v0,x0,hv,hx,hn,e⟩;have hw:∀b,G b→w'.heap[b]? = w.heap[b]?:=λb hb=>same b (hO.hr.gl b hb) (hgb b hb);have hil:id<ρ.length:=(aA.1 hv).1;have hihl:id<h'.length:=by rw [hh];exact (aA.1 hx).1
 have get:∀(j:Nat) (v:Value) (y:B),(ρ.set id v1)[j]? = some v→(h'.set id x1)[j]? = some y→(j≠id∧ρ[j]? = some v∧h'[j]? = some y)∨(j=id∧v=v1∧y=x1):=by
  intro j v y h1 h2;rw [bK] at h1 h2;split at h1
  ·rename_i hj;subst hj;rw [ζ rfl,ζ hihl] at h2;cases h1;cases h2;exact .inr ⟨rfl,rfl,rfl⟩
  ·rename_i hj;rw [η hj] at h2;exact .inl ⟨λe=>hj e.symm,h1,h2⟩
 have h_:∀(j:Nat) (v:Value) (y:B) (b:Nat),j≠id→ρ[j]? = some v→h'[j]? = some y→y≠.no→b∈e9 v y→b<w.heap.size∧b∉e9 v0 x0∧own ρ h b∧w'.heap[b]? = w.heap[b]?:=by
  intro j v y b hj h1 h2 h3 h4;obtain ⟨y0,g1,g2,g3,_⟩:=hh' j y h2 hj;have h4:b∈e9 v y0:=by rw [e9,←g3];exact h4
  have hy0:y0≠.no:=λe=>h3 (g2.1 e);have hlt:=hO.hr.lt h1 g1 hy0 h4;have hne:b∉e9 v0 x0:=λe=>hj (hO.hr.nW j id v v0 y0 x0 b h1 g1 hy0 hv hx hn h4 e);exact ⟨hlt,hne,⟨j,v,y0,h1,g1,hy0,h4⟩,same b hlt hne⟩
 have hown:∀b,own (ρ.set id v1) (h'.set id x1) b→own ρ h b∨w.heap.size≤b:=by
  intro b hb;rcases LW hb with ⟨j,v,y,h0,h1,h2,h3,h4⟩ | ⟨h1,h2⟩
  ·exact .inl (h_ j v y b h0 h1 h2 h3 h4).2.2.1
  ·rcases hb1 b h2 with h3 | h3
   ·exact .inl ⟨id,v0,x0,hv,hx,hn,h3⟩
   ·exact .inr h3
 refine ⟨⟨by simp [hO.hr.len,hh],λj v y h1 h2=>?_,λj j' v v' y y' b h1 h2 h3 h4 h5 h6 h7 h8=>?_,λb hb=>bt (hO.hr.gl b hb) hs,λb hb hob=>?_,hO.hr.uH.mono (λ_ h=>h) hw⟩,hO.gm,λb hb=>(hO.go b hb).imp (λh=>h) λh2=>⟨h2.1.same (hw b hb),h2.2⟩,λb hb=>?_,
  λb hb hnb=>?_,aZ hO.size hs,ho.trans hO.os,ht.trans hO.tape,hou.trans hO.out,λj v hv' hsl=>?_,by simpa [hh] using hO.hl,λr hr=>(by
   obtain ⟨h1,h2,h3⟩:=hO.sN r hr;have hlt:=(aN.1 h1).1;refine ⟨(same r hlt λe=>h3 ⟨id,v0,x0,hv,hx,hn,e⟩).trans h1,h2,λh4=>?_⟩;rcases hown r h4 with h5 | h5
   ·exact h3 h5
   ·omega)⟩
 ·rcases get j v y h1 h2 with ⟨hj,g1,g2⟩ | ⟨rfl,rfl,rfl⟩
  ·obtain ⟨y0,k1,k2,_,k3⟩:=hh' j y g2 hj;have hr:=k3 v g1 (hO.hr.rep j v y0 g1 k1)
   by_cases hy:y = .no
   ·subst hy;trivial
   ·exact hr.mono (λ_ h=>h) hw (λb hb=>(h_ j v y b hj g1 g2 hy hb).2.2.2) (λ_ _=>rfl)
  ·exact new
 ·rcases get j v y h1 h2 with ⟨hj,g1,g2⟩ | ⟨rfl,rfl,rfl⟩<;>rcases get j' v' y' h4 h5 with ⟨hj',k1,k2⟩ | ⟨rfl,rfl,rfl⟩
  ·obtain ⟨y0,e1,e2,e3,_⟩:=hh' j y g2 hj;obtain ⟨y0',f1,f2,f3,_⟩:=hh' j' y' k2 hj';rw [e9,e3] at h7;rw [e9,f3] at h8;exact hO.hr.nW j j' v v' y0 y0' b g1 e1 (λe=>h3 (e2.1 e)) k1 f1 (λe=>h6 (f2.1 e)) h7 h8
  ·have:=h_ j v y b hj g1 g2 h3 h7;rcases hb1 b h8 with h9 | h9
   ·exact absurd h9 this.2.1
   ·omega
  ·have:=h_ j' v' y' b hj' k1 k2 h6 h8;rcases hb1 b h7 with h9 | h9
   ·exact absurd h9 this.2.1
   ·omega
  ·rfl
 ·rcases hown b hob with h1 | h1
  ·exact hO.hr.gd b hb h1
  ·have:=hO.hr.gl b hb;omega
 ·rcases hown b hb with h1 | h1
  ·exact hO.oo b h1
  ·exact .inl (aZ hO.size h1)
 ·by_cases hbl:b∈e9 v0 x0
  ·rcases hO.oo b ⟨id,v0,x0,hv,hx,hn,hbl⟩ with h1 | h1
   ·omega
   ·exact absurd h1 hnb
  ·exact (same b (bt hb hO.size) hbl).trans (hO.frame b hb hnb)
 ·have h0:=hO.hand j v hv' hsl;rw [bK];split
  ·rename_i hj;subst hj;rw [hv] at h0;cases h0;rw [hs1 hsl]
  ·exact h0
theorem Ok.Wn (hO:Ok E G w ρ h) {id:Nat} {v0 v1:Value} {x0 x1:B} (hv:ρ[id]? = some v0) (hx:h[id]? = some x0) (hn:x0≠.no) (hs:w.heap.size≤w'.heap.size)
  (same:∀b,b<w.heap.size→f_ v0≠some b→w'.heap[b]? = w.heap[b]?) (ho:w'.os=w.os) (ht:w'.tape=w.tape) (hou:w'.output=w.output)
  (new:cm G w' (ρ.set id v1) v1 x1) (hb1:∀b,f_ v1=some b→f_ v0=some b∨w.heap.size≤b) (hs1:j1 v0=false→v1=v0)
  (h':H) (hh:h'.length=h.length) (hh':∀(j:Nat) (y:B),h'[j]? = some y→j≠id→∃y0,h[j]? = some y0∧(y0 = .no↔y = .no)∧gh y=gh y0∧(∀v,ρ[j]? = some v→cm G w ρ v y0→cm G w (ρ.set id v1) v y))
  (hg1:∀b∈gh x1,b∈gh x0) :
  Ok E G w' (ρ.set id v1) (h'.set id x1):=
 hO.Rv hv hx hn hs (λb h1 h2=>same b h1 λe=>h2 (bT.2 (.inl e))) ho ht hou new (λb hb=>(bT.1 hb).elim (λh=>(hb1 b h).imp (λh=>bT.2 (.inl h)) λh=>h) λh=>.inl (bT.2 (.inr (hg1 b h)))) hs1 h' hh hh'
end
theorem fy {i j:Nat} (h:i≠j):Nat.beq i j=false:=by
 cases hb:Nat.beq i j
 ·rfl
 ·exact absurd (dH hb) h
section
variable {G G':Nat→Prop} {w w':World} {ρ:List Value}
theorem cm.data {v0:Value} {z:Nat} {rs:List (List D)} (h:cm G w ρ v0 (.rows z rs)):bw (λb=>G b∨f_ v0=some b) w v0 (.sl z rs):=by
 rcases h with ⟨rfl,rfl⟩ | ⟨b,cap,arr,ty,rfl,h1,h2,h3,h4,h5⟩
 ·exact .yA z
 ·refine .sl b 0 cap z rs (λi j=>arr.getD (i*z+j) undef) h2 h3 (.inr rfl) (λi row hr=>(h5 i row hr).1) (λi row j x hr hx=>?_) (λi row j x hr hx=>?_)
  ·obtain ⟨hz,_⟩:=h5 i row hr;have hi:i<rs.length:=(aA.1 hr).1;have hj:j<row.length:=(aA.1 hx).1;have hlt:i*z+j<arr.size:=by
    rw [h4];have:(i+1)*z≤cap*z:=bC _ (by omega);rw [bq] at this;omega
   simp only [World.cell?,h1,bh];simp [aJ hlt]
  ·exact ((h5 i row hr).2 j x hx).mono (λ_ h=>.inl h) (λ_ _=>rfl)
theorem De:∀{cs:List V} {ds:List D},rD cs=some ds→cs=ds.map .d
 |[],ds,h=>by cases h;rfl
 |x :: r,ds,h=>by
  unfold rD at h;split at h
  ·rename_i a b ha hb;cases h;rw [De hb];cases x<;>cases ha;rfl
  ·cases h
theorem cm.Tz {v0:Value} {cs:List V} {ds:List D} (h:cm G w ρ v0 (.cells cs)) (hd:rD cs=some ds):bw (λb=>G b∨f_ v0=some b) w v0 (.pt ds 0):=by
 obtain rfl:=De hd;obtain ⟨b,arr,ty,rfl,h1,h2,h3⟩:=h;refine .pt b 0 0 ds (λj=>arr.getD j undef) (.inr rfl) (λj x hx=>?_) λj x hx=>?_
 ·have:j<arr.size:=by rw [h2,aI];exact (aA.1 hx).1
  simp only [World.cell?,h1,bh];simp [aJ this]
 ·have:=h3 j (.d x) (by rw [aC,hx];rfl);generalize arr.getD j undef=u at this;cases this with | k h=>cases h with | d h=>exact h.mono (λ_ h=>.inl h) (λ_ _=>rfl)
theorem dV.sub {id:Nat} {v0:Value} {y:D} (hv:ρ[id]? = some v0) (hG:∀b,G b→G' b) (hy:bw G' w v0 y) {v:Value} {x:V} (h:dV G w ρ v x):dV G' w ρ v (A5 id (.d y) x):=by
  by_cases hx:∃j,x = .os j
  · obtain ⟨j,rfl⟩:=hx
    cases h with
    |os _ a n c h=>
      simp only [A5]
      by_cases hj:j=id
      · subst hj
        rw [hv] at h
        cases h
        simpa using dV.d hy
      · have:Nat.beq j id=false:=fy hj
        rw [this]
        exact .os j a n c h
  · by_cases hp:∃j o,x = .p j o
    · obtain ⟨j, o, rfl⟩ := hp
      have keep:dV G' w ρ v (.p j o):=h.mono hG (λ_ _=>rfl) (λ_ _=>rfl)
      simp only [A5]
      by_cases hj:j=id
      · subst hj
        have hb:Nat.beq j j=true:=fG j
        rw [hb,δ]
        unfold S0
        split
        · rename_i row off hy'
          cases hy'
          cases ho:Nat.beq off 0
          · exact keep
          · have ho:=dH ho
            subst ho
            rw [δ]
            cases h with
            |p _ _ b h=>
              rw [hv] at h
              obtain rfl:=an h
              generalize hq:(Value.pointer (some ⟨b,0,none⟩))=q at hy
              cases hy with
              |pt b' o' _ _ U g1 g2 g3=>
                cases hq
                have:=dV.e (ρ := ρ) b 0 o row U g1 g2 g3
                rwa [bh] at this
        · exact keep
      · rw [fy hj]
        exact keep
    · have:A5 id (.d y) x=x:=by cases x<;>first | rfl | exact absurd ⟨_,rfl⟩ hx | exact absurd ⟨_,_,rfl⟩ hp
      rw [this]
      exact h.mono hG (λ_ _=>rfl) (λ_ _=>rfl)
theorem dP.sub {id:Nat} {v0:Value} {y:D} (hv:ρ[id]? = some v0) (hG:∀b,G b→G' b) (hy:bw G' w v0 y) {v:Value} {x:V} (h:dP G w ρ v x):dP G' w ρ v (yQ id (.d y) x):=by
 cases h with
 |k h=>
  have:yQ id (.d y) x=A5 id (.d y) x:=by cases h<;>rfl
  rw [this];exact .k (h.sub hv hG hy)
 |fc f u cs caps h0 h1 h2=>
  refine .fc f _ cs _ h0 (by simpa using h1) (λi x hx=>?_);rw [aC] at hx;cases hc:caps[i]? with
  |none=>rw [hc] at hx;cases hx
  |some x0=>rw [hc] at hx;cases hx;exact (h2 i x0 hc).sub hv hG hy
theorem dW.sub {id:Nat} {v0:Value} {y:D} (hv:ρ[id]? = some v0) (hG:∀b,G b→G' b) (hy:bw G' w v0 y) {v:Value} {x:V} (h:dW G w ρ v x):dW G' w ρ v (A4 id (.d y) x):=by
 cases h with
 |c h=>
  have:A4 id (.d y) x=yQ id (.d y) x:=by
   cases h with
   |k h=>cases h<;>rfl
   |fc=>rfl
  rw [this];exact .c (h.sub hv hG hy)
 |ag cs vs h1 h2=>
  refine .ag cs _ (by simpa using h1) (λi x hx=>?_);rw [aC] at hx;cases hc:vs[i]? with
  |none=>rw [hc] at hx;cases hx
  |some x0=>rw [hc] at hx;cases hx;exact (h2 i x0 hc).sub hv hG hy
theorem bB.sub {id:Nat} {v0:Value} {y:D} (hv:ρ[id]? = some v0) (hG:∀b,G b→G' b) (hy:bw G' w v0 y) {v:Value} {x:V} (h:bB G w ρ v x):bB G' w ρ v (Dy id (.d y) x):=by
 cases h with
 |o h=>
  have:Dy id (.d y) x=A4 id (.d y) x:=by
   cases h with
   |c h=>cases h with
    |k h=>cases h<;>rfl
    |fc=>rfl
   |ag=>rfl
  rw [this];exact .o (h.sub hv hG hy)
 |tu cs vs h1 h2=>
  refine .tu cs _ (by simpa using h1) (λi x hx=>?_);rw [aC] at hx;cases hc:vs[i]? with
  |none=>rw [hc] at hx;cases hx
  |some x0=>rw [hc] at hx;cases hx;exact (h2 i x0 hc).sub hv hG hy
theorem Dd:∀{l:List V} {ds:List D},rD l=some ds→l=ds.map .d
 |[],ds,h=>by cases h;rfl
 |x :: r,ds,h=>by
  have e:rD (x :: r)=match W9 x,rD r with
   |some a,some b=>some (a :: b)
   |_,_=>none:=rfl
  rw [e] at h;cases x with
  |d x=>
   cases hr:rD r with
   |none=>rw [hr] at h;cases h
   |some b=>
    rw [hr] at h;cases h;rw [Dd hr];rfl
  |_=>cases h
theorem dP.Us {v:Value} {x:D} (h:dP G w ρ v (.d x)):bw G w v x:=by
 cases h with
 |k h=>cases h with
  |d h=>exact h
theorem cm.PR {hd:Value} {z k:Nat} {rs:List (List D)} {r:List V} (h:cm G w ρ hd (.rx z rs k r)):cm G w ρ hd (PR z rs k r):=by
 unfold Vx.PR;cases hd':rD r with
 |none=>exact h
 |some ds=>
  obtain rfl:=Dd hd';obtain ⟨b,cap,arr,ty,rfl,h1,h2,h3,h4,h0,h5,h6⟩:=h;refine .inr ⟨b,cap,arr,ty,by simp,h1,by simpa using h2,h3,h4,λi row hr=>?_⟩;rw [bK] at hr;split at hr
  ·rename_i hi;subst hi;rw [ζ h0.1] at hr;cases hr;refine ⟨by simpa using h0.2,λj x hx=>(h6 j (.d x) (by rw [aC,hx];rfl)).Us⟩
  ·rename_i hi;exact h5 i row hr (λe=>hi e.symm)
theorem kP.outs {G G':Nat→Prop} {w:World} {ρ ρ':List Value} {hd:Value} {z:Nat} {es:List ME} {out:Option (Nat×V)} {f:V→V} (h:kP G' w ρ' hd z es none) (h0:kP G w ρ hd z es out)
  (hf:∀(i:Nat) (v:V) (u:Value),out=some (i,v)→dP G w ρ u v→dP G' w ρ' u (f v)):kP G' w ρ' hd z es (out.map λp=>(p.1,f p.2)):=by
 obtain ⟨r,arr,clk,rfl,h1,h2,h3,h4,h5,_⟩:=h;obtain ⟨r',arr',clk',e0,k1,k2,k3,k4,k5,k6,k7⟩:=h0;cases e0;rw [h1] at k1;cases k1;refine ⟨r,arr,clk,rfl,h1,h2,h3,h4,h5,λi v ho=>?_,λi v e ho he=>?_⟩
 ·match out,ho,k6 with
  |some (j,u),ho,k6=>cases ho;exact k6 _ u rfl
 ·match out,ho,k7,hf with
  |some (j,u),ho,k7,hf=>cases ho;exact hf _ u _ rfl (k7 _ u e rfl he)
theorem Ql (z:Nat) (rs:List (List D)) (i:Nat) (row:List V):gh (PR z rs i row) = []:=by
 unfold Vx.PR;cases rD row<;>rfl
theorem DG (id:Nat) (x:V) (b:B):gh (Ku id x b)=gh b:=by
 cases b<;>first | rfl | exact Ql _ _ _ _
theorem oG (id:Nat) (b:B):gh (gi id b)=gh b:=by
 cases b<;>rfl
theorem cm.sub {id:Nat} {v0:Value} {y:D} (hv:ρ[id]? = some v0) (hG:∀b,G b→G' b) (hy:bw G' w v0 y) {hd:Value} {x:B} (h:cm G w ρ hd x):cm G' w ρ hd (Ku id (.d y) x):=by
 cases x with
 |no=>trivial
 |nw=>exact h
 |cells cs=>
  obtain ⟨b,arr,ty,rfl,h1,h2,h3⟩:=h;refine ⟨b,arr,ty,rfl,h1,by simpa using h2,λi x hx=>?_⟩;rw [aC] at hx;cases hc:cs[i]? with
  |none=>rw [hc] at hx;cases hx
  |some x0=>rw [hc] at hx;cases hx;exact (h3 i x0 hc).sub hv hG hy
 |mp es=>
  obtain ⟨r,arr,clk,rfl,h1,h2,h3,h4⟩:=h;refine ⟨r,arr,clk,rfl,h1,by simpa using h2,h3,λi e x he hx=>?_⟩;rw [aC] at hx;cases hc:es[i]? with
  |none=>rw [hc] at hx;cases hx
  |some x0=>rw [hc] at hx;cases hx;exact ⟨(h4 i e x0 he hc).1.sub hv hG hy,(h4 i e x0 he hc).2.sub hv hG hy⟩
 |dm es=>exact cm.mono (x:=.dm es) h hG (λ_ _=>rfl) (λ_ _=>rfl) (λ_ _=>rfl)
 |di es r l=>exact cm.mono (x:=.di es r l) h hG (λ_ _=>rfl) (λ_ _=>rfl) (λ_ _=>rfl)
 |ms z es out it=>
  have h1:=cm.mono (x:=.ms z es none it) (w':=w) (ρ':= ρ) ⟨kP.drop h.1,h.2⟩ hG (λ_ _=>rfl) (λ_ _=>rfl) (λ_ _=>rfl);exact ⟨h1.1.outs h.1 (λi v u ho hr=>hr.sub hv hG hy),h.2⟩
 |rows z rs=>exact cm.mono (x:=.rows z rs) h hG (λ_ _=>rfl) (λ_ _=>rfl) (λ_ _=>rfl)
 |rx z rs k r=>
  obtain ⟨b,cap,arr,ty,rfl,h1,h2,h3,h4,h0,h5,h6⟩:=h;refine cm.PR ⟨b,cap,arr,ty,rfl,h1,h2,h3,h4,by simpa using h0,λi row hr hk=>⟨(h5 i row hr hk).1,λj x hx=>((h5 i row hr hk).2 j x hx).mono hG (λ_ _=>rfl)⟩,λi x hx=>?_⟩;rw [aC] at hx;cases hc:r[i]? with
  |none=>rw [hc] at hx;cases hx
  |some x0=>rw [hc] at hx;cases hx;exact (h6 i x0 hc).sub hv hG hy
theorem dV.tt {id:Nat} {v0 v1:Value} (hv:ρ[id]? = some v0) (hs:j1 v0=true) {v:Value} {x:V} (h:dV G w ρ v x):dV G w (ρ.set id v1) v (vC id x):=by
 have get:∀j,j≠id→(ρ.set id v1)[j]? = ρ[j]?:=λj hj=>by rw [bK,η (λe=>hj e.symm)]
 cases h with
 |un=>exact .un _
 |ud=>exact .ud
 |d h=>exact .d h
 |p j off b h=>
  have hj:j≠id:=λe=>by subst e;rw [hv] at h;cases h;simp [j1] at hs
  exact .p j off b ((get j hj).trans h)
 |e b o off row U h1 h2 h3=>exact .e b o off row U h1 h2 h3
 |os j a n c h=>
  simp only [vC]
  by_cases hj:j=id
  ·subst hj;simpa using dV.un _
  ·have:Nat.beq j id=false:=fy hj;rw [this];exact .os j a n c ((get j hj).trans h)
 |q j z i off b n c h=>
  simp only [vC]
  by_cases hj:j=id
  ·subst hj;simpa using dV.un _
  ·have:Nat.beq j id=false:=fy hj;rw [this];exact .q j z i off b n c ((get j hj).trans h)
 |cl a n z rows h=>exact .cl a n z rows h
 |nl z=>exact .nl z
 |mp j r h=>
  have hj:j≠id:=λe=>by subst e;rw [hv] at h;cases h;simp [j1] at hs
  exact .mp j r ((get j hj).trans h)
 |ov j z i _ a n c h hv'=>
  simp only [vC]
  by_cases hj:j=id
  ·subst hj;simpa using dV.un _
  ·have:Nat.beq j id=false:=fy hj;rw [this];exact .ov j z i _ a n c ((get j hj).trans h) hv'
 |it j r m h=>
  have hj:j≠id:=λe=>by subst e;rw [hv] at h;cases h;simp [j1] at hs
  exact .it j r m ((get j hj).trans h)
theorem dP.tt {id:Nat} {v0 v1:Value} (hv:ρ[id]? = some v0) (hs:j1 v0=true) {v:Value} {x:V} (h:dP G w ρ v x):dP G w (ρ.set id v1) v (rp id x):=by
 cases h with
 |k h=>
  have:rp id x=vC id x:=by cases h<;>rfl
  rw [this];exact .k (h.tt hv hs)
 |fc f u cs caps h0 h1 h2=>
  refine .fc f _ cs _ h0 (by simpa using h1) (λi x hx=>?_);rw [aC] at hx;cases hc:caps[i]? with
  |none=>rw [hc] at hx;cases hx
  |some x0=>rw [hc] at hx;cases hx;exact (h2 i x0 hc).tt hv hs
theorem dW.tt {id:Nat} {v0 v1:Value} (hv:ρ[id]? = some v0) (hs:j1 v0=true) {v:Value} {x:V} (h:dW G w ρ v x):dW G w (ρ.set id v1) v (qj id x):=by
 cases h with
 |c h=>
  have:qj id x=rp id x:=by
   cases h with
   |k h=>cases h<;>rfl
   |fc=>rfl
  rw [this];exact .c (h.tt hv hs)
 |ag cs vs h1 h2=>
  refine .ag cs _ (by simpa using h1) (λi x hx=>?_);rw [aC] at hx;cases hc:vs[i]? with
  |none=>rw [hc] at hx;cases hx
  |some x0=>rw [hc] at hx;cases hx;exact (h2 i x0 hc).tt hv hs
theorem bB.tt {id:Nat} {v0 v1:Value} (hv:ρ[id]? = some v0) (hs:j1 v0=true) {v:Value} {x:V} (h:bB G w ρ v x):bB G w (ρ.set id v1) v (BV id x):=by
 cases h with
 |o h=>
  have:BV id x=qj id x:=by
   cases h with
   |c h=>cases h with
    |k h=>cases h<;>rfl
    |fc=>rfl
   |ag=>rfl
  rw [this];exact .o (h.tt hv hs)
 |tu cs vs h1 h2=>
  refine .tu cs _ (by simpa using h1) (λi x hx=>?_);rw [aC] at hx;cases hc:vs[i]? with
  |none=>rw [hc] at hx;cases hx
  |some x0=>rw [hc] at hx;cases hx;exact (h2 i x0 hc).tt hv hs
theorem cm.tt {id:Nat} {v0 v1:Value} (hv:ρ[id]? = some v0) (hs:j1 v0=true) {hd:Value} {x:B} (h:cm G w ρ hd x):cm G w (ρ.set id v1) hd (gi id x):=by
 cases x with
 |no=>trivial
 |nw=>exact h
 |cells cs=>
  obtain ⟨b,arr,ty,rfl,h1,h2,h3⟩:=h;refine ⟨b,arr,ty,rfl,h1,by simpa using h2,λi x hx=>?_⟩;rw [aC] at hx;cases hc:cs[i]? with
  |none=>rw [hc] at hx;cases hx
  |some x0=>rw [hc] at hx;cases hx;exact (h3 i x0 hc).tt hv hs
 |mp es=>
  obtain ⟨r,arr,clk,rfl,h1,h2,h3,h4⟩:=h;refine ⟨r,arr,clk,rfl,h1,by simpa using h2,h3,λi e x he hx=>?_⟩;rw [aC] at hx;cases hc:es[i]? with
  |none=>rw [hc] at hx;cases hx
  |some x0=>rw [hc] at hx;cases hx;exact ⟨(h4 i e x0 he hc).1.tt hv hs,(h4 i e x0 he hc).2.tt hv hs⟩
 |dm es=>exact cm.mono (x:=.dm es) h (λ_ h=>h) (λ_ _=>rfl) (λ_ _=>rfl) (λi hi=>by cases hi)
 |di es r l=>exact cm.mono (x:=.di es r l) h (λ_ h=>h) (λ_ _=>rfl) (λ_ _=>rfl) (λi hi=>by cases hi)
 |ms z es out it=>
  have h1:=cm.mono (x:=.ms z es none it) (w':=w) (ρ':= ρ.set id v1) ⟨kP.drop h.1,h.2⟩ (λ_ h=>h) (λ_ _=>rfl) (λ_ _=>rfl) (λi hi=>by cases hi);exact ⟨h1.1.outs h.1 (λi v u ho hr=>hr.tt hv hs),h.2⟩
 |rows z rs=>exact h
 |rx z rs k r=>
  obtain ⟨b,cap,arr,ty,rfl,h1,h2,h3,h4,h0,h5,h6⟩:=h;refine ⟨b,cap,arr,ty,rfl,h1,h2,h3,h4,by simpa using h0,h5,λi x hx=>?_⟩;rw [aC] at hx;cases hc:r[i]? with
  |none=>rw [hc] at hx;cases hx
  |some x0=>rw [hc] at hx;cases hx;exact (h6 i x0 hc).tt hv hs
end
theorem qn (f:V→V) (hf:f .un = .un) (t:T) (i:Nat):gs (t.map λp=>(p.1,f p.2)) i=f (gs t i):=by
 induction t with
 |nil=>exact hf.symm
 |cons p r ih=>
  obtain ⟨j,v⟩:=p;simp only [cH,gP];cases Nat.beq j i<;>simp [ih]
section
variable {E:gR} {G G':Nat→Prop} {w w':World} {ρ:List Value} {h:H} {n:Nat} {t:T} {a:Act}
theorem Ok.No (hO:Ok E G w ρ h) {id:Nat} {v0:Value} {x0:B} {yd:D} (hv:ρ[id]? = some v0) (hx:h[id]? = some x0) (hn0:x0≠.no) (hd:bw (λb=>G b∨f_ v0=some b) w v0 yd) (ib:∀b,f_ v0=some b→K2 w b) :
  Ok E (λb=>G b∨f_ v0=some b) w ρ (oP id (.d yd) h):=by
 have hG:∀b,G b→(λb=>G b∨f_ v0=some b) b:=λb h=>.inl h;have hbl:∀b,f_ v0=some b→own ρ h b:=λb hb=>⟨id,v0,_,hv,hx,hn0,bT.2 (.inl hb)⟩
 have get:∀(j:Nat) (y:B),(oP id (.d yd) h)[j]? = some y→(y = .no)∨(j≠id∧∃y0,h[j]? = some y0∧y=Ku id (.d yd) y0∧(y≠.no→y0≠.no)):=by
  intro j y hj;simp only [oP,bK,aC] at hj;split at hj
  ·split at hj<;>cases hj;exact .inl rfl
  ·rename_i hne;cases hy:h[j]? with
   |none=>rw [hy] at hj;cases hj
   |some y0=>
    rw [hy] at hj;cases hj;exact .inr ⟨λe=>hne e.symm,y0,rfl,rfl,λh0 e=>h0 (by subst e;rfl)⟩
 have hownb:∀b,own ρ (oP id (.d yd) h) b→own ρ h b∧f_ v0≠some b:=by
  rintro b ⟨j,v,y,h1,h2,h3,h4⟩
  rcases get j y h2 with rfl | ⟨hj,y0,g1,g2,g3⟩
  ·exact absurd rfl h3
  ·rw [g2,e9,DG] at h4;exact ⟨⟨j,v,y0,h1,g1,g3 h3,h4⟩,λe=>hj (hO.hr.nW j id v v0 y0 _ b h1 g1 (g3 h3) hv hx hn0 h4 (bT.2 (.inl e)))⟩
 refine ⟨⟨by simp [oP,hO.hr.len],λj v y h1 h2=>?_,λj j' v v' y y' b h1 h2 h3 h4 h5 h6 h7 h8=>?_,λb hb=>?_,λb hb ho=>?_,hO.hr.uH.mono (λ_ h=>.inl h) (λ_ _=>rfl)⟩,λb hb=>.inl (hO.gm b hb),λb hb=>?_,λb hb=>hO.oo b (hownb b hb).1,
  hO.frame,hO.size,hO.os,hO.tape,hO.out,hO.hand,by simpa [oP] using hO.hl,λr hr=>?_⟩
 ·rcases get j y h2 with rfl | ⟨hj,y0,g1,rfl,g3⟩
  ·trivial
  ·exact (hO.hr.rep j v y0 h1 g1).sub hv hG hd
 ·rcases get j y h2 with rfl | ⟨hj,y0,g1,rfl,g3⟩
  ·exact absurd rfl h3
  ·rcases get j' y' h5 with rfl | ⟨hj',y0',k1,rfl,k3⟩
   ·exact absurd rfl h6
   ·rw [e9,DG] at h7 h8;exact hO.hr.nW j j' v v' y0 y0' b h1 g1 (g3 h3) h4 k1 (k3 h6) h7 h8
 ·rcases hb with hb | hb
  ·exact hO.hr.gl b hb
  ·exact hO.hr.ya (hbl b hb)
 ·obtain ⟨h1,h2⟩:=hownb b ho;rcases hb with hb | hb
  ·exact hO.hr.gd b hb h1
  ·exact h2 hb
 ·rcases hb with hb | hb
  ·exact hO.go b hb
  ·exact .inr ⟨ib b hb,hO.oo b (hbl b hb)⟩
 ·obtain ⟨h1,h2,h3⟩:=hO.sN r hr;exact ⟨h1,λh4=>h4.elim h2 λh5=>h3 (hbl r h5),λh4=>h3 (hownb r h4).1⟩
theorem Ok.free (hO:Ok E G w ρ h) {id:Nat} {v0:Value} {z:Nat} {rs:List (List D)} (hv:ρ[id]? = some v0) (hx:h[id]? = some (.rows z rs)) :
  Ok E (λb=>G b∨f_ v0=some b) w ρ (oP id (.d (.sl z rs)) h):=by
 refine hO.No hv hx (by simp) (hO.hr.rep id v0 _ hv hx).data λb hb=>?_;rcases hO.hr.rep id v0 _ hv hx with ⟨e,_⟩ | ⟨b0,cap,arr,ty,e,h1,_⟩
 ·rw [e] at hb;cases hb
 ·rw [e] at hb;cases hb;exact ⟨_,_,_,h1⟩
theorem au.Tl (hC:au E n G ρ t h a w) {id:Nat} {cs:List V} {ds:List D} (hx:h[id]? = some (.cells cs)) (hD:rD cs=some ds) :
  ∃v0,ρ[id]? = some v0∧bw (λb=>G b∨f_ v0=some b) w v0 (.pt ds 0)∧au E n (λb=>G b∨f_ v0=some b) ρ (yP id (.d (.pt ds 0)) t) (oP id (.d (.pt ds 0)) h) a w:=by
 have hi:id<ρ.length:=by rw [hC.ok.hr.len];exact (aA.1 hx).1
 have hr:=hC.ok.hr.rep id _ _ (aB hi) hx;have hd:=hr.Tz hD;refine ⟨ρ[id],aB hi,hd,hC.ok.No (aB hi) hx (by simp) hd (λb hb=>?_),hC.df,hC.sz,λi=>?_⟩
 ·obtain ⟨b',arr,ty,e,h1,_⟩:=hr;rw [e] at hb;cases hb;exact ⟨_,_,_,h1⟩
 ·rw [yP,qn _ rfl];exact (hC.tm i).sub (aB hi) (λb h=>.inl h) hd
theorem au.free (hC:au E n G ρ t h a w) {id:Nat} {z:Nat} {rs:List (List D)} (hx:h[id]? = some (.rows z rs)) :
  ∃v0,ρ[id]? = some v0∧bw (λb=>G b∨f_ v0=some b) w v0 (.sl z rs)∧au E n (λb=>G b∨f_ v0=some b) ρ (yP id (.d (.sl z rs)) t) (oP id (.d (.sl z rs)) h) a w:=by
 have hi:id<ρ.length:=by rw [hC.ok.hr.len];exact (aA.1 hx).1
 refine ⟨ρ[id],aB hi,(hC.ok.hr.rep id _ _ (aB hi) hx).data,hC.ok.free (aB hi) hx,hC.df,hC.sz,λi=>?_⟩;rw [yP,qn _ rfl];exact (hC.tm i).sub (aB hi) (λb h=>.inl h) (hC.ok.hr.rep id _ _ (aB hi) hx).data
theorem au.put (hC:au E n G ρ t h a w) (d:Option Nat) {v:Value} {x:V} (hd:∀i,d=some i→i<n) (hr:bB G w ρ v x) :
  au E n G ρ (match d with | some i=>(i,x) :: t | none=>t) h (a.put d v) w:=by
 cases d with
 |none=>exact hC
 |some i=>
  refine ⟨hC.ok,hC.df,by simpa [Act.put] using hC.sz,λj=>?_⟩;simp only [gP,Act.put]
  by_cases hj:i=j
  ·subst hj;have hi:=hd i rfl;rw [←hC.sz] at hi;simpa [cZ,hi] using hr
  ·have hb:Nat.beq i j=false:=fy hj;rw [hb];have:=hC.tm j;simpa [cZ,hj] using this
theorem au.grow (hC:au E n G ρ t h a w) (hg:gY w w') (hG:∀b,G b→G' b) (hG':∀b,G' b→G b∨(w.heap.size≤b∧b<w'.heap.size∧K2 w' b)):au E n G' ρ t h a w':=
 ⟨hC.ok.grow hg hG hG',hC.df,hC.sz,λi=>(hC.tm i).mono hG (λb hb=>hg.h_ b (hC.ok.hr.gl b hb)) (λ_ _=>rfl)⟩
theorem au.push (hC:au E n G ρ t h a w) (hg:gY w w') (hd:Value) (x:B) (hbk:∀b,f_ hd=some b→w.heap.size≤b) (hx:cm G w' (ρ ++ [hd]) hd x) (hgh:gh x = []:=by rfl):au E n G (ρ ++ [hd]) t (h ++ [x]) a w':=
 ⟨hC.ok.push hg hd x hbk hx hgh,hC.df,hC.sz,λi=>(hC.tm i).mono (λ_ h=>h) (λb hb=>hg.h_ b (hC.ok.hr.gl b hb)) (λj hj=>aO ((hC.tm i).lt j hj))⟩
end
end Go.Vx
