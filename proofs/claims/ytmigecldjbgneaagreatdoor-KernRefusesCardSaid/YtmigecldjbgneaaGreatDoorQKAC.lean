/- Lemmas. Conditions: none. -/
import Derived.Test.YtmigecldjbgneaaGreatDoorQKAB
import Derived.Orders
import Derived.KernelRfl
namespace Go.Vx
inductive V where
  |un
  |ud
  |d (x:D)
  |ag (cs:List V)
  |tu (vs:List V)
  |p (id off:Nat)
  |e (row:List D) (off:Nat)
  |os (id:Nat)
  |q (id z i off:Nat)
  |cl (z:Nat) (rows:List (List D))
  |nl (z:Nat)
  |fc (f:Nat) (caps:List V)
  |mp (id:Nat)
  |ov (id z i:Nat)
  |it (id r:Nat)
  deriving Inhabited
abbrev ME:=(List UInt8×List UInt8)×Option (Option Nat×List (List D))
abbrev It:=List Nat×Option Nat
inductive B where
  |no
  |cells (cs:List V)
  |rows (z:Nat) (rs:List (List D))
  |lk (z:Nat) (rs:List (List D))
  |nw
  |rx (z:Nat) (rs:List (List D)) (i:Nat) (row:List V)
  |mp (es:List (V×V))
  |dm (es:List (D×Bool×List D))
  |di (es:List (D×Bool×List D)) (r:Nat) (left:It)
  |ms (z:Nat) (es:List ME) (out:Option (Nat×V)) (it:Option (Nat×It))
  deriving Inhabited
inductive O where
  |s (t:Nat)
  |k (v:V)
  |g (i:Nat)
  deriving Inhabited
inductive PU where
  |mi (F:Nat)
  |XC (F:Nat)
  |ta (ty:Nat) (ag:Bool) (zero:V) (ok:Bool)
  |iq (ne:Bool)
  |pq (ne:Bool)
  |fd (off:Nat) (n:Option Nat)
  deriving Inhabited
inductive X where
  |mv (x:O)
  |nil (z:Nat)
  |pk (c a b:O)
  |bx (x:O)
  |al (cs:List V)
  |bd (zero:List V) (parts:List (Nat×Nat×O))
  |bs (z:Nat) (zero:List V) (n:Nat) (parts:List (Nat×O))
  |ld (x:O) (n:Option Nat)
  |st (x v:O) (n:Nat)
  |fa (x:O) (off:Nat)
  |ia (x i:O) (z:Nat)
  |bin (op:BinOp) (x y:O)
  |eq (ne st:Bool) (ks:List Nat) (x y:O)
  |un (op:UnOp) (x:O)
  |cv (k:IntKind) (x:O)
  |ln (x:O)
  |ls (x:O)
  |mn (x y:O)
  |mx (x y:O)
  |s3 (x:O) (lo hi m:Option O) (z:Nat)
  |ss (x:O) (lo hi:Option O)
  |ap (x y:O) (z bytes:Nat)
  |cf (f:Nat) (args:List O)
  |cc (x:O) (args:List O)
  |mf (f:Nat) (caps:List O)
  |ex (x:O) (i:Nat)
  |nc (x:O)
  |nq (ne:Bool) (x:O)
  |ns (z:Nat)
  |gT (x:O) (zs:List D) (z:Nat)
  |ix (x i:O)
  |ja (x i:O) (z n:Nat)
  |mm (k:Nat)
  |ml (x k:O) (ks:List Nat) (zero:V) (ok:Bool)
  |mu (x k v:O) (ks:List Nat)
  |md (x k:O) (ks:List Nat)
  |lm (x:O)
  |pu (f:PU) (x:O)
  |pn (x:O)
  |mk (zs:List D) (z b:Nat) (l c:O)
  |aa (d:D) (m:Nat)
  |la (x:O) (m:Nat)
  |jq (x i:O) (m:Nat)
  |ai (x i:O) (m:Nat)
  |sb (x:O)
  |rg (x:O)
  |nx (x:O)
  |en (x:O)
  |bad
  deriving Inhabited
structure I where
  d:Option Nat
  o:X
  g:Option (Nat×Bool)
  deriving Inhabited
inductive C where
  |skip
  |dw (l:List I)
  |y_ (q:List (I×List Nat)) (s:List I)
  |seq (a b:C)
  |cond (c:O) (a b:C)
  |block (id:Nat) (c:C)
  |loop (c:C)
  |exit (id:Nat)
  |ret
  |bad
  |rf (g:O) (ps:List Nat) (ca cb:C)
  deriving Inhabited
abbrev T:=List (Nat×V)
abbrev H:=List B
inductive Ex where
  |qD
  |ext (id:Nat)
  |ret
  |eU (v:V)
inductive Out where
  |ret (v:V)
  |eU (v:V)
noncomputable def gs(t:T)(i:Nat):V:=List.rec (motive:=λ_=>V) .un (λp _ ih=>bif Nat.beq p.1 i then p.2 else ih) t
theorem Rt(i:Nat):gs [] i=.un:=rfl
theorem gD(p:Nat×V)(r:T)(i:Nat):gs (p::r) i=bif Nat.beq p.1 i then p.2 else gs r i:=rfl
def Am:List (Nat×List D)->Nat->Option (List D)
 |[],_=>none
 |p::r,g=>bif Nat.beq p.1 g then some p.2 else Am r g
def T8:D->V
 |.pt row off=>.e row off
 |x=>.d x
def XO:V->V
 |.d (.fc f caps)=>.fc f (caps.map T8)
 |x=>x
noncomputable def gv(t:T):O->V
 |.g i=>(match Am Uz i with
  |some row=>.e row 0
  |none=>.un)
 |.s i=>gs t i
 |.k (.nl z)=>.d (.sl z [])
 |.k v=>v
noncomputable def Sm(t:T):O->V
 |.k (.nl z)=>.nl z
 |x=>gv t x
@[irreducible] def Pq(p q:Prop):Prop:=p\/q
theorem tD{p q:Prop}(h:p):Pq p q:=by unfold Pq;exact .inl h
theorem iP{p q:Prop}(h:q):Pq p q:=by unfold Pq;exact .inr h
@[irreducible] def Pn(p q:Prop):Prop:=p\/q
theorem qi{p q:Prop}(h:p):Pn p q:=by unfold Pn;exact .inl h
theorem AP{p q:Prop}(h:q):Pn p q:=by unfold Pn;exact .inr h
@[irreducible] def TV(p q:Prop):Prop:=p\/q
theorem Lv{p q:Prop}(h:p):TV p q:=by unfold TV;exact .inl h
theorem Q8{p q:Prop}(h:TV p q):p\/q:=by unfold TV at h;exact h
@[irreducible] def P6(p q:Prop):Prop:=p\/q
theorem DO{p q:Prop}(h:p):P6 p q:=by unfold P6;exact .inl h
theorem DP{p q:Prop}(h:q):P6 p q:=by unfold P6;exact .inr h
theorem Re{p q:Prop}(h:P6 p q):p\/q:=by unfold P6 at h;exact h
@[irreducible] def Bw(K:List Nat×Nat->Prop):Prop:=∃o,K o
theorem NB{K:List Nat×Nat->Prop}(h:K ([],0)):Bw K:=by unfold Bw;exact⟨_,h⟩
theorem jM(ids:List Nat){K:List Nat×Nat->Prop}(h:K (ids,0)):Bw K:=by unfold Bw;exact⟨_,h⟩
theorem jQ(n:Nat){K:List Nat×Nat->Prop}(h:K ([],n)):Bw K:=by unfold Bw;exact⟨_,h⟩
theorem zw{K:List Nat×Nat->Prop}(h:Bw K):∃o,K o:=by unfold Bw at h;exact h
@[irreducible] def KV(p q:Prop):Prop:=p\/q
theorem Dn{p q:Prop}(h:p):KV p q:=by unfold KV;exact .inl h
theorem a8{p q:Prop}(h:q):KV p q:=by unfold KV;exact .inr h
theorem KU{p q:Prop}(h:KV p q):p\/q:=by unfold KV at h;exact h
def dv:V->V
 |.nl z=>.d (.sl z [])
 |v=>v
def V.cs:V->List V
 |.ag cs=>cs
 |v=>[v]
def kn:IntKind->Nat
 |.i8=>0|.i16=>1|.i32=>2|.i64=>3|.u8=>4|.u16=>5|.u32=>6|.u64=>7
def fP:V->Bool
 |.un|.ud|.ag _|.tu _=>false
 |_=>true
def V.pI:V->Bool
 |.ag _=>true
 |_=>false
def Jv:Nat->V->V->Option Bool
 |0,.d (.int k a),.d (.int k' b)=>bif Nat.beq (kn k) (kn k')then some (a==b)else none
 |1,.d (.bool a),.d (.bool b)=>some (a==b)
 |2,.d (.str a),.d (.str b)=>some (a==b)
 |_,_,_=>none
def sA:List Nat->List V->List V->Option Bool
 |[],[],[]=>some true
 |k::ks,x::r,y::s=>match Jv k x y with
  |some b=>(match sA ks r s with
   |some e=>some (b&&e)
   |none=>none)
  |none=>none
 |_,_,_=>none
def Su(ks:List Nat)(x y:List V)(K:Bool->Prop):Prop:=
 match sA ks x y with
 |some e=>K e
 |none=>False
def kY:List Nat->V->Bool
 |[0,j],.d (.int k _)=>Nat.beq (kn k) j
 |[1],.d (.bool _)=>true
 |[2],.d (.str _)=>true
 |_,_=>false
def nI(ks:List Nat)(k:List V):List (V×V)->Nat->Option (Option (Nat×V))
 |[],_=>some none
 |e::r,i=>bif kY ks e.1 then(match sA (ks.take 1) k e.1.cs with
  |some b=>bif b then some (some (i,e.2))else nI ks k r (i+1)
  |none=>none)else none
def yi:V->Bool
 |.un|.ud|.tu _=>false
 |.ag c=>c.all fP
 |_=>true
def sP:V->Bool
 |.fc _ _|.ag _|.tu _=>false
 |_=>true
def Sx:Nat->List V->Option (Nat×List V)
 |f,[.ag cs]=>bif Nat.ble 1000000 f&&(!cs.isEmpty&&cs.all sP)then some (f+500000,cs)else none
 |_,_=>none
def pu:PU->V->Option V
 |.XC F,.ag cs=>bif !cs.isEmpty&&(cs.all fP&&cs.all sP)then some (.fc F cs)else none
 |.mi F,x=>bif fP x&&sP x then some (.fc F [x])else none
 |.ta ty ag z ok,.fc F caps=>bif Nat.beq F (bif ag then ty+2000000 else ty+3000000) then
  (match ag,caps with
   |true,_=>some (bif ok then .tu [.ag caps,.d (.bool true)]else .ag caps)
   |false,x::_=>some (bif ok then .tu [x,.d (.bool true)]else x)
   |false,[]=>none)
  else bif ok&&(Nat.ble 2000000 F&&(!(Nat.beq F (ty+2000000))&&!(Nat.beq F (ty+3000000))))then some (.tu [z,.d (.bool false)])else none
 |.ta _ _ z ok,.d .ni=>bif ok then some (.tu [z,.d (.bool false)])else none
 |.iq ne,.fc F _=>bif Nat.ble 2000000 F then some (.d (.bool ne))else none
 |.iq ne,.d .ni=>some (.d (.bool (!ne)))
 |.pq ne,.p _ _=>some (.d (.bool ne))
 |.pq ne,.e _ _=>some (.d (.bool ne))
 |.pq ne,.q _ _ _ _=>some (.d (.bool ne))
 |.pq ne,.d .np=>some (.d (.bool (!ne)))
 |.fd off none,.ag cs=>cs[off]?
 |.fd off (some n),.ag cs=>bif Nat.beq ((cs.drop off).take n).length n then some (.ag ((cs.drop off).take n))else none
 |_,_=>none
def Ny:Bool×List D->V
 |(true,ds)=>.ag (ds.map .d)
 |(false,d::_)=>.d d
 |(false,[])=>.un
def fC(es:List (D×Bool×List D)):List (V×V):=es.map λp=>(.d p.1,Ny p.2)
def M7:Nat->B
 |0=>.mp []
 |1=>.dm []
 |z+2=>.ms z [] none none
def Bt(es:List ME):List Nat:=es.filterMap λe=>e.2.bind (·.1)
def Pb:Option (Nat×It)->List Nat
 |some (r,_)=>[r]
 |none=>[]
def gh:B->List Nat
 |.di _ r _=>[r]
 |.ms _ es _ it=>Bt es++Pb it
 |_=>[]
def Ew:V->Option (List UInt8×List UInt8)
 |.ag [.d (.str a),.d (.str b)]=>some (a,b)
 |_=>none
def vY(k:List UInt8×List UInt8):V:=.ag [.d (.str k.1),.d (.str k.2)]
def lW(k:List UInt8×List UInt8)(es:List ME):Option Nat:=es.findIdx? λe=>e.1==k
def eQ(i:Nat)(x:Option (Option Nat×List (List D)))(es:List ME):List ME:=es.modify i λe=>(e.1,x)
def chunk{α:Type}(z:Nat):Nat->List α->List (List α)
 |0,_=>[]
 |n+1,l=>l.take z::chunk z n (l.drop z)
def sp:Bool->Prop->Prop->Prop
 |true,p,_=>p
 |false,_,q=>q
def fv(v:V)(K:V->Prop):Prop:=
 match v with
 |.un=>K .un
 |.ud=>K .ud
 |.d (.int k n)=>K (.d (.int k n))
 |.d (.bool b)=>K (.d (.bool b))
 |.d (.str b)=>K (.d (.str b))
 |.d (.sl z b)=>K (.d (.sl z b))
 |.d (.fn f)=>K (.d (.fn f))
 |.d x=>K (.d x)
 |.ag cs=>K (.ag cs)
 |.tu cs=>K (.tu cs)
 |.p i o=>K (.p i o)
 |.e r o=>K (.e r o)
 |.os i=>K (.os i)
 |.q i z j o=>K (.q i z j o)
 |.cl z r=>K (.cl z r)
 |.nl z=>K (.nl z)
 |.fc f c=>K (.fc f c)
 |.mp i=>K (.mp i)
 |.ov i z j=>K (.ov i z j)
 |.it i r=>K (.it i r)
def pU(d:Option Nat)(v:V)(t:T)(K:T->Prop):Prop:=
 match d with
 |some i=>fv v λv=>K ((i,v)::t)
 |none=>K t
def fl{α:Type}(l:List α):(List α->Prop)->Prop:=
 List.rec (motive:=λ_=>(List α->Prop)->Prop) (λK=>K []) (λx _ ih K=>ih λr=>K (x::r)) l
theorem NI{α:Type}(x:α)(r:List α)(K:List α->Prop):fl (x::r) K=fl r λr=>K (x::r):=rfl
def Jm(l:List Nat):Nat->(Nat->Prop)->Prop:=
 List.rec (motive:=λ_=>Nat->(Nat->Prop)->Prop) (λn K=>K n) (λk _ ih n K=>bif Nat.beq n k then K k else ih n K) l
def iO(n:Nat)(K:Nat->Prop):Prop:=Jm [0,1,2,3,4,5,6,7,8,9,10,11,12,13,14,15,16,17,18,19,20,21,22,23,24,25,26,27,28,29,30,31] n K
def Ss(v:V)(K:V->Prop):Prop:=
 match v with
 |.p i o=>iO i λi=>K (.p i o)
 |.os i=>iO i λi=>K (.os i)
 |.mp i=>iO i λi=>K (.mp i)
 |.it i r=>iO i λi=>K (.it i r)
 |v=>fv v K
def Rx(l:List V):(List V->Prop)->Prop:=
 List.rec (motive:=λ_=>(List V->Prop)->Prop) (λK=>K []) (λx _ ih K=>Ss x λx=>ih λr=>K (x::r)) l
def fb(b:B)(K:B->Prop):Prop:=
 match b with
 |.cells cs=>Rx cs λcs=>K (.cells cs)
 |.no=>K .no
 |.rows z rs=>K (.rows z rs)
 |.lk z rs=>K (.lk z rs)
 |.nw=>K .nw
 |.rx z rs i row=>Rx row λrow=>K (.rx z rs i row)
 |.mp es=>K (.mp es)
 |.dm es=>K (.dm es)
 |.di es r l=>K (.di es r l)
 |.ms z es none it=>K (.ms z es none it)
 |.ms z es (some (i,v)) it=>Ss v λv=>K (.ms z es (some (i,v)) it)
def flb(l:List B):(List B->Prop)->Prop:=
 List.rec (motive:=λ_=>(List B->Prop)->Prop) (λK=>K []) (λb _ ih K=>fb b λb=>ih λr=>K (b::r)) l
def pB(l:T):(T->Prop)->Prop:=
 List.rec (motive:=λ_=>(T->Prop)->Prop) (λK=>K []) (λp _ ih K=>match p with|(i,v)=>Ss v λv=>ih λr=>K ((i,v)::r)) l
def Pg(l:List Nat):(List Nat->Prop)->Prop:=
 List.rec (motive:=λ_=>(List Nat->Prop)->Prop) (λK=>K []) (λi _ ih K=>iO i λi=>ih λr=>K (i::r)) l
def get?{α:Type}:List α->Nat->Option α
 |[],_=>none
 |x::_,0=>some x
 |_::r,n+1=>get? r n
def Uy:V->Bool
 |.nl _=>true
 |_=>false
def Yg(h:H):V->Bool
 |.mp id=>(match get? h id with
  |some (.ms _ _ _ _)=>true
  |_=>false)
 |_=>false
def T7(x:V)(j o:Nat):V:=
 match x with
 |.d (.pt row off)=>bif Nat.beq off 0 then .e row o else .p j o
 |_=>.p j o
def Aq(id:Nat)(x:V):V->V
 |.os j=>bif Nat.beq j id then x else .os j
 |.p j o=>bif Nat.beq j id then T7 x j o else .p j o
 |v=>v
def yf(id:Nat)(x:V):V->V
 |.fc f c=>.fc f (c.map (Aq id x))
 |v=>Aq id x v
def Ap(id:Nat)(x:V):V->V
 |.ag cs=>.ag (cs.map (yf id x))
 |v=>yf id x v
def ES(id:Nat)(x:V):V->V
 |.tu vs=>.tu (vs.map (Ap id x))
 |v=>Ap id x v
def ye(id:Nat)(x:V)(t:T):T:=t.map λp=>match p with|(i,v)=>(i,ES id x v)
def YK:V->Option D
 |.d x=>some x
 |_=>none
def rb:List V->Option (List D)
 |[]=>some []
 |x::r=>match YK x,rb r with
  |some a,some b=>some (a::b)
  |_,_=>none
def QJ(z:Nat)(rs:List (List D))(i:Nat)(row:List V):B:=
 match rb row with
 |some ds=>.rows z (rs.set i ds)
 |none=>.rx z rs i row
def Li(id:Nat)(x:V):B->B
 |.rx z rs i row=>QJ z rs i (row.map (yf id x))
 |.cells cs=>.cells (cs.map (yf id x))
 |.mp es=>.mp (es.map λp=>(Ap id x p.1,Ap id x p.2))
 |.ms z es out it=>.ms z es (out.map λp=>(p.1,yf id x p.2)) it
 |b=>b
def qG(id:Nat)(x:V)(h:H):H:=(h.map (Li id x)).set id .no
def Bd(id:Nat):V->V
 |.os j=>bif Nat.beq j id then .un else .os j
 |.q j z i o=>bif Nat.beq j id then .un else .q j z i o
 |.ov j z i=>bif Nat.beq j id then .un else .ov j z i
 |v=>v
def ze(id:Nat):V->V
 |.fc f c=>.fc f (c.map (Bd id))
 |v=>Bd id v
def Bc(id:Nat):V->V
 |.ag cs=>.ag (cs.map (ze id))
 |v=>ze id v
def Mp(id:Nat):V->V
 |.tu vs=>.tu (vs.map (Bc id))
 |v=>Bc id v
def mK(id:Nat)(t:T):T:=t.map λp=>match p with|(i,v)=>(i,Mp id v)
def jP(id:Nat):B->B
 |.rx z rs i row=>.rx z rs i (row.map (ze id))
 |.cells cs=>.cells (cs.map (ze id))
 |.mp es=>.mp (es.map λp=>(Bc id p.1,Bc id p.2))
 |.ms z es out it=>.ms z es (out.map λp=>(p.1,ze id p.2)) it
 |b=>b
def PC(id:Nat)(t:T)(h:H)(K:T->H->Prop):Prop:=
 match get? h id with
 |some (.ms z es (some (i,v)) it)=>(match v with
  |.os n=>(match get? h n with
   |some (.rows z' rs)=>Nat.beq z z'=true/\∀b,pB (mK n t) λt=>flb (((h.map (jP n)).set n .no).set id (.ms z (eQ i (some (b,rs)) es) none it)) λh=>K t h
   |_=>False)
  |_=>flb (h.set id (.ms z es none it)) λh=>K t h)
 |_=>K t h
def Gi(l:List Nat):T->H->(T->H->Prop)->Prop:=
 List.rec (motive:=λ_=>T->H->(T->H->Prop)->Prop) (λt h K=>K t h) (λi _ ih t h K=>PC i t h λt h=>ih t h K) l
theorem ET(i:Nat)(r:List Nat)(t:T)(h:H)(K:T->H->Prop):Gi (i::r) t h K=PC i t h λt h=>Gi r t h K:=rfl
def Up(l:List Nat)(t:T)(h:H)(K:T->H->Prop):Prop:=match l with
 |[]=>K t h
 |i::r=>K t h\/Gi (i::r) t h K
def Ux:B->Bool
 |.ms _ _ (some _) _=>true
 |_=>false
def Uf(h:H):List Nat:=(h.zipIdx.filter λp=>Ux p.1).map (·.2)
def NN:B->B
 |.di es _ _=>.dm es
 |.ms z es out _=>.ms z es out none
 |b=>b
def Xk:V->Option D
 |.d x=>some x
 |.e row off=>some (.pt row off)
 |_=>none
def wX:List V->Option (List D)
 |[]=>some []
 |x::r=>match Xk x,wX r with
  |some a,some b=>some (a::b)
  |_,_=>none
def uZ(x:V)(ih:T->H->(List D->T->H->Prop)->Prop)(t:T)(h:H)(K:List D->T->H->Prop):Prop:=
 match x with
 |.d x=>ih t h λxs t h=>K (x::xs) t h
 |.cl z rs=>ih t h λxs t h=>K (.sl z rs::xs) t h
 |.fc f []=>ih t h λxs t h=>K (.fn f::xs) t h
 |.fc f (c::r)=>match wX (c::r) with
  |some ds=>ih t h λxs t h=>K (.fc f ds::xs) t h
  |none=>False
 |.os id=>
  match get? h id with
  |some (.rows z rs)=>pB (ye id (.d (.sl z rs)) t) λt=>flb (qG id (.d (.sl z rs)) h) λh=>ih t h λxs t h=>K (.sl z rs::xs) t h
  |_=>False
 |_=>False
def FP(l:List V):T->H->(List D->T->H->Prop)->Prop:=
 List.rec (motive:=λ_=>T->H->(List D->T->H->Prop)->Prop) (λt h K=>K [] t h) (λx _ ih t h K=>uZ x ih t h K) l
theorem iJ(x:V)(r:List V)(t:T)(h:H)(K:List D->T->H->Prop):FP (x::r) t h K=uZ x (FP r) t h K:=rfl
def lay{α:Type}:List α->Nat->List α->List α
 |cs,0,[]=>cs
 |_::r,0,v::vs=>v::lay r 0 vs
 |[],_,_=>[]
 |c::r,n+1,vs=>c::lay r n vs
def Vm(id z i off n:Nat)(vs:List V)(t:T)(h:H)(K:T->H->Prop):Prop:=
 FP vs t h λds t h=>(match get? h id with
  |some (.rows z' rs)=>∃row,rs[i]?=some row/\(Nat.beq z z'=true/\Nat.beq ds.length n=true/\Nat.ble (off+n) z=true)/\fl (h.set id (.rows z' (rs.set i (lay row off ds)))) λh'=>K t h'
  |_=>False)
def stx(id z i off n j:Nat)(h:H)(K:H->Prop):Prop:=
 match get? h id with
 |some (.rows z' rs)=>∃row,rs[i]?=some row/\(Nat.beq z z'=true/\Nat.beq 1 n=true/\Nat.ble (off+1) z=true)/\Rx (lay (row.map .d) off [V.os j]) λrow'=>fl (h.set id (.rx z' rs i row')) λh'=>K h'
 |_=>False
def dB:IntKind->Int->Prop
 |.i8,n=> -128<=n/\n<=127
 |.i16,n=> -32768<=n/\n<=32767
 |.i32,n=> -2147483648<=n/\n<=2147483647
 |.i64,n=> -9223372036854775808<=n/\n<=9223372036854775807
 |.u8,n=>0<=n/\n<=255
 |.u16,n=>0<=n/\n<=65535
 |.u32,n=>0<=n/\n<=4294967295
 |.u64,n=>0<=n/\n<=18446744073709551615
def Nl(k:IntKind)(n:Int)(K:Int->Prop):Prop:=(dB k n/\K n)\/K (k.wrap n)
def TT:BinOp->Bool
 |.shl|.shr=>true
 |_=>false
def A_(op:BinOp)(k:IntKind)(a b:Int):Int:=
 match op with
 |.shl=>k.wrap (a*2 ^ min b.toNat k.bits)
 |_=>a.fdiv (2 ^ min b.toNat k.bits)
def jF(op:BinOp)(k:IntKind)(a b:Int):Int:=
 match op with
 |.and=>k.wrap (BitVec.ofInt k.bits a &&& BitVec.ofInt k.bits b).toNat
 |.or=>k.wrap (BitVec.ofInt k.bits a ||| BitVec.ofInt k.bits b).toNat
 |.xor=>k.wrap (BitVec.ofInt k.bits a ^^^ BitVec.ofInt k.bits b).toNat
 |_=>k.wrap (BitVec.ofInt k.bits a &&& ~~~BitVec.ofInt k.bits b).toNat
def lN:V->List Nat
 |.p i _=>[i]
 |.q i _ _ _=>[i]
 |.mp i=>[i]
 |.os i=>[i]
 |.ov i _ _=>[i]
 |.it i _=>[i]
 |_=>[]
def pQ:V->List Nat
 |.fc _ c=>c.flatMap lN
 |v=>lN v
def nH:V->List Nat
 |.ag c=>c.flatMap pQ
 |v=>pQ v
def l8:V->List Nat
 |.tu c=>c.flatMap nH
 |v=>nH v
def jL:B->List Nat
 |.rx _ _ _ row=>row.flatMap pQ
 |.cells c=>c.flatMap pQ
 |.mp es=>es.flatMap λp=>nH p.1++nH p.2
 |.ms _ _ (some (_,v)) _=>pQ v
 |_=>[]
def has(l:List Nat)(i:Nat):Bool:=l.any (Nat.beq i)
def reach(h:H):Nat->List Nat->List Nat->List Nat
 |0,_,acc=>acc
 |_,[],acc=>acc
 |n+1,i::r,acc=>bif has acc i then reach h n r acc else reach h n (jL ((get? h i).getD .no)++r) (acc++[i])
def pos(ids:List Nat)(i:Nat):Nat:=ids.findIdx (Nat.beq i)
def L_(f:Nat->Nat):V->V
 |.p i o=>.p (f i) o
 |.q i z j o=>.q (f i) z j o
 |.mp i=>.mp (f i)
 |.os i=>.os (f i)
 |.ov i z j=>.ov (f i) z j
 |.it i r=>.it (f i) r
 |v=>v
def HM(f:Nat->Nat):V->V
 |.fc g c=>.fc g (c.map (L_ f))
 |v=>L_ f v
def F_(f:Nat->Nat):V->V
 |.ag c=>.ag (c.map (HM f))
 |v=>HM f v
def qy(f:Nat->Nat):V->V
 |.tu c=>.tu (c.map (F_ f))
 |v=>F_ f v
def nG(f:Nat->Nat):B->B
 |.rx z rs i row=>.rx z rs i (row.map (HM f))
 |.cells c=>.cells (c.map (HM f))
 |.mp es=>.mp (es.map λp=>(F_ f p.1,F_ f p.2))
 |.ms z es out it=>.ms z es (out.map λp=>(p.1,HM f p.2)) it
 |b=>b
def back(ids:List Nat)(g:Nat->Nat)(h h':H):H:=
 (h.zipIdx.map λp=>bif has ids p.2 then nG g ((get? h' (pos ids p.2)).getD .no)else p.1)++(h'.drop ids.length).map (nG g)
def E_(l:List Nat):T->(T->Prop)->Prop:=
 List.rec (motive:=λ_=>T->(T->Prop)->Prop) (λt K=>K t) (λi _ ih t K=>pB (mK i t) λt=>ih t K) l
theorem JN(t:T)(K:T->Prop):E_ [] t K=K t:=rfl
theorem Ez(i:Nat)(r:List Nat)(t:T)(K:T->Prop):E_ (i::r) t K=pB (mK i t) λt=>E_ r t K:=rfl
def pb:List Nat->H->H
 |[],h=>h
 |i::r,h=>pb r (h.map (jP i))
def rP:B->Bool
 |.rows _ _=>true
 |.rx _ _ _ _=>true
 |_=>false
def XH:B->Bool
 |.no=>true
 |_=>false
def rowsOf(h:H)(ids:List Nat):List Nat:=ids.filter λi=>rP ((get? h i).getD .no)
def rI:List Nat->Bool
 |[]=>true
 |i::r=> !(has r i)&&rI r
def LD(h:H)(ids vids:List Nat):Bool:=
 rI ids&&(ids.all λi=>Nat.blt i h.length&&!(XH ((get? h i).getD .no))&&(jL ((get? h i).getD .no)).all (has ids))&&vids.all (has ids)
def home(n:Nat)(ids:List Nat)(i:Nat):Nat:=(get? ids i).getD (n+i-ids.length)
def clean:V->V
 |.cl z r=>.d (.sl z r)
 |.fc f []=>.d (.fn f)
 |.nl z=>.d (.sl z [])
 |v=>v
def fi:V->V
 |.ag c=>.ag (c.map clean)
 |v=>clean v
def D4(id:Nat)(ih:T->H->List V->(T->H->List V->Prop)->Prop)(t:T)(h:H)(vs:List V)(K:T->H->List V->Prop):Prop:=
 match get? h id with
 |some (.rows z rs)=>pB (ye id (.d (.sl z rs)) t) λt=>flb (qG id (.d (.sl z rs)) h) λh=>Rx (vs.map (ES id (.d (.sl z rs)))) λvs=>ih t h vs K
 |some (.cells cs)=>(match rb cs with
  |some ds=>pB (ye id (.d (.pt ds 0)) t) λt=>flb (qG id (.d (.pt ds 0)) h) λh=>Rx (vs.map (ES id (.d (.pt ds 0)))) λvs=>ih t h vs K
  |none=>False)
 |_=>False
def q9(l:List Nat):T->H->List V->(T->H->List V->Prop)->Prop:=
 List.rec (motive:=λ_=>T->H->List V->(T->H->List V->Prop)->Prop) (λt h vs K=>K t h vs) (λi _ ih t h vs K=>D4 i ih t h vs K) l
theorem Jh(t:T)(h:H)(vs:List V)(K:T->H->List V->Prop):q9 [] t h vs K=K t h vs:=rfl
theorem wL(i:Nat)(r:List Nat)(t:T)(h:H)(vs:List V)(K:T->H->List V->Prop):q9 (i::r) t h vs K=D4 i (q9 r) t h vs K:=rfl
def Wb:V->List Nat
 |.os i=>[i]
 |_=>[]
def Xy:V->List Nat
 |.ag c=>c.flatMap Wb
 |v=>Wb v
def Tg:V->List Nat
 |.tu c=>c.flatMap Xy
 |v=>Xy v
def Nh:V->Option D
 |.d x=>some x
 |.cl z r=>some (.sl z r)
 |.nl z=>some (.sl z [])
 |.fc f []=>some (.fn f)
 |_=>none
def Fj(h:H):V->V
 |.os i=>(match get? h i with
  |some (.rows z rs)=>.d (.sl z rs)
  |_=>.un)
 |.p i o=>(match get? h i with
  |some (.cells cs)=>(match cs.mapM Nh with
   |some ds=>.e ds o
   |none=>.un)
  |_=>.un)
 |.q _ _ _ _|.mp _|.ov _ _ _|.it _ _=>.un
 |v=>v
def Ka(h:H):V->V
 |.fc f c=>.fc f (c.map (Fj h))
 |v=>Fj h v
def Xl(h:H):V->V
 |.ag c=>.ag (c.map (Ka h))
 |v=>Ka h v
def K8(h:H):V->V
 |.tu _=>.un
 |v=>Xl h v
def HA:D->Bool
 |.sl _ _|.fc _ _|.pt _ _=>false
 |_=>true
def Q7:V->Bool
 |.d x=>HA x
 |_=>false
def Q6:V->Bool
 |.tu c=>c.all Q7
 |v=>Q7 v
def yy:B->Bool
 |.rows _ rs=>rs.all λr=>r.all HA
 |_=>false
def EW:V->Bool
 |.os _=>true
 |v=>Q7 v
def BB:V->Bool
 |.tu c=>c.all EW
 |v=>EW v
def VW(P:Program)(t:TypeId):Value->Option V
 |.int k n=>some (.d (.int k n))
 |.bool b=>some (.d (.bool b))
 |.string s=>if s.size<=1000000 then some (.d (.str s.data.toList))else none
 |.slice none 0 0=>some (.nl (match P.underlying t with|some (.slice e)=>P.cellsOf e|_=>0))
 |.pointer none=>some (.d .np)
 |.nilFunc=>some (.d .nf)
 |.nilIface=>some (.d .ni)
 |.map none=>some (.d .nm)
 |_=>none
def cO(P:Program)(t:TypeId):Operand->Option O
 |.tmp i=>some (.s i)
 |.const v=>(VW P t v).map .k
 |.func f=>some (.k (.d (.fn f)))
 |.global g=>some (.g g)
def ke(P:Program)(t:TypeId):Option Bool:=
 (P.underlying t).map λ|.struct _|.array _ _=>true|_=>false
def SL(P:Program):Nat->TypeId->List TypeId
 |0,_=>[]
 |n+1,t=>match P.underlying t with
  |some (.struct fs)=>fs.toList.flatMap λf=>SL P n f.type
  |some (.array k e)=>(List.replicate k (SL P n e)).flatten
  |_=>[t]
def vP(P:Program)(t:TypeId):Option (List V):=do
 let i <-P.info? t
 let z <-i.zero
 let ts:=SL P 20 t
 if ts.length=z.cells.size then(z.cells.toList.zip ts).mapM λp=>VW P p.2 p.1 else none
def vW(P:Program)(t:TypeId):Option (Option Nat):=do
 let i <-P.info? t
 if <-ke P t then some (some i.size)else some none
def args(P:Program):List Operand->List TypeId->Option (List O)
 |[],_=>some []
 |x::r,t::ts=>do some ((<-cO P t x)::(<-args P r ts))
 |x::r,[]=>do some ((<-cO P 0 x)::(<-args P r []))
def xo(f:TypeId->Option (List Nat)):Nat->List Field->Option (List Nat)
 |_,[]=>some []
 |off,fd::r=>if fd.name = "_" || fd.offset != off then none else do
  let a <-f fd.type
  let b <-xo f (off+a.length) r
  some (a++b)
def flat(P:Program):Nat->TypeId->Option (List Nat)
 |0,_=>none
 |n+1,t=>match P.underlying t with
  |some (.int _)=>some [0]
  |some .bool=>some [1]
  |some .string=>some [2]
  |some (.struct fs)=>if P.stoodInHeld t then none else do
   let a <-xo (flat P n) 0 fs.toList
   if a.length=P.cellsOf t then some a else none
  |_=>none
def A8(P:Program)(t:TypeId):Option V:=do
 let zs <-vP P t
 let i <-P.info? t
 let z <-i.zero
 match z,zs with
 |.agg _,zs=>some (.ag zs)
 |_,[x]=>some x
 |_,_=>none
def isStr(P:Program)(t:TypeId):Bool:=match P.underlying t with
 |some .string=>true
 |_=>false
def yU(P:Program)(t:TypeId):Option (List Nat):=
 match P.underlying t with
 |some (.int k)=>some [0,kn k]
 |some .bool=>some [1]
 |some .string=>some [2]
 |some (.struct fs)=>match fs.toList with
  |[f,g]=>if(f.name != "_" && g.name != "_" && f.offset==0&&g.offset==1&&isStr P f.type&&isStr P g.type&&flat P 100 t==some [2,2])=true then some [9]else none
  |_=>none
 |_=>none
def XS(P:Program):Nat->TypeId->Bool
 |0,_=>false
 |n+1,t=>match P.underlying t with
  |some (.int _)|some .bool|some .string=>true
  |some (.slice e)=>XS P n e
  |some (.struct fs)=>fs.toList.all λf=>XS P n f.type
  |_=>false
def Vz:D->V->Bool
 |.bool a,.d (.bool b)=>a==b
 |.int k a,.d (.int k' b)=>Nat.beq (kn k) (kn k')&&a==b
 |_,_=>false
def Sv:V->Option D
 |.d x=>some x
 |.nl z=>some (.sl z [])
 |_=>none
def kJ (P:Program) (ty:TypeId):Op→Option X
  |.move x|.assign x=>match x with
    |.const (.slice none 0 0)=>some (.nil (match P.underlying ty with|some (.slice e)=>P.cellsOf e|_=>0))
    |x=>(cO P ty x).map .mv
  |.pick c a b=>do some (.pk (<-cO P ty c) (<-cO P ty a) (<-cO P ty b))
  |.box t x=>(cO P t x).map .bx
  |.alloc t=>match P.underlying t with
    |some (.array m _)=>if 64<=m&&m<=1000000 then(do
        let zs <-vP P t
        match zs with
        |.d d::_=>if zs.length=m&&zs.all (Vz d)then some (.aa d m)else none
        |_=>none)else(vP P t).map .al
    |_=>(vP P t).map .al
  |.build t ps=>match P.underlying t with
    |some (.struct fs)=>do
      let pl <-fs.toList.mapM λf=>(P.info? f.type).map λi=>(f.offset,i.size)
      let qs <-ps.toList.mapM λ(i,x)=>do
        let f <-fs[i]?
        let q <-pl[i]?
        some (q.1,q.2,<-cO P f.type x)
      some (.bd (<-vP P t) qs)
    |_=>none
  |.buildSlice t n ps=>match P.underlying t with
    |some (.slice e)=>do
      let qs <-ps.toList.mapM λ(i,x)=>do some (i,<-cO P e x)
      let zs <-vP P e
      if n=0&&qs.isEmpty&&P.cellsOf e != 0&&zs.length=P.cellsOf e then some (.ns (P.cellsOf e)) else
      if P.cellsOf e=0||n*P.cellsOf e>16777216||n=0||zs.length != P.cellsOf e then none else some (.bs (P.cellsOf e) zs n qs)
    |_=>none
  |.load t x=>match P.underlying t with
    |some (.array m e)=>if 64<=m then(if P.cellsOf e=1 then(do
        let k <-vW P t
        let ox <-cO P t x
        if k=some m then some (.la ox m)else none)else none)else do some (.ld (<-cO P t x) (<-vW P t))
    |_=>do some (.ld (<-cO P t x) (<-vW P t))
  |.store t x v=>do some (.st (<-cO P t x) (<-cO P t v) (<-(P.info? t).map (·.size)))
  |.fieldAddr t x f=>match P.underlying t with
    |some (.struct fs)=>do
      let f <-fs[f]?
      if P.cellsOf f.type=0 then none else some (.fa (<-cO P t x) f.offset)
    |_=>none
  |.indexAddr t x i=>match P.underlying t with
    |some (.slice e)=>if P.cellsOf e=0 then none else do some (.ia (<-cO P t x) (<-cO P 0 i) (P.cellsOf e))
    |some (.array m e)=>if P.cellsOf e=0 then none else if 64<=m then(if P.cellsOf e=1 then(do some (.jq (<-cO P t x) (<-cO P 0 i) m))else none)else do some (.ja (<-cO P t x) (<-cO P 0 i) (P.cellsOf e) m)
    |_=>none
  |.makeMap t none=>match P.underlying t with
    |some (.map kt e)=>match yU P kt with
      |some [9]=>match P.underlying e with
        |some (.slice x)=>if P.cellsOf x=0 then none else some (.mm (P.cellsOf x+2))
        |_=>none
      |_=>some (.mm (if XS P 20 e then 1 else 0))
    |_=>none
  |.range t x=>match P.underlying t with
    |some (.map _ _)=>(cO P t x).map .rg
    |_=>none
  |.next x false=>(cO P 0 x).map .nx
  |.entry x=>(cO P 0 x).map .en
  |.lookup t x k ok=>match P.underlying t with
    |some (.map kt e)=>do some (.ml (<-cO P t x) (<-cO P kt k) (<-yU P kt) (<-A8 P e) ok)
    |_=>none
  |.mapUpdate t x k v|.insert t x k v=>match P.underlying t with
    |some (.map kt e)=>do some (.mu (<-cO P t x) (<-cO P kt k) (<-cO P e v) (<-yU P kt))
    |_=>none
  |.binOp op t x y u=>match P.underlying t with
    |some (.int _)=>do some (.bin op (<-cO P t x) (<-cO P u y))
    |some (.slice _)=>match op,y with
      |.eql,.const (.slice none 0 0)=>(cO P t x).map (.nq false)
      |.neq,.const (.slice none 0 0)=>(cO P t x).map (.nq true)
      |_,_=>none
    |some (.interface _)=>match op,y with
      |.eql,.const .nilIface=>(cO P t x).map (.pu (.iq false))
      |.neq,.const .nilIface=>(cO P t x).map (.pu (.iq true))
      |_,_=>none
    |some (.pointer _)=>match op,y with
      |.eql,.const (.pointer none)=>(cO P t x).map (.pu (.pq false))
      |.neq,.const (.pointer none)=>(cO P t x).map (.pu (.pq true))
      |_,_=>none
    |uu=>match op with
      |.add=>match uu with
        |some .string=>do some (.bin op (<-cO P t x) (<-cO P u y))
        |_=>none
      |.eql=>if P.eqGuardType P.depth t then none else do
        let ks <-flat P 100 t
        some (.eq false (<-ke P t) ks (<-cO P t x) (<-cO P t y))
      |.neq=>if P.eqGuardType P.depth t then none else do
        let ks <-flat P 100 t
        some (.eq true (<-ke P t) ks (<-cO P t x) (<-cO P t y))
      |_=>none
  |.unOp op t x=>do some (.un op (<-cO P t x))
  |.convert a b x=>match P.underlying a,P.underlying b with
    |some (.int _),some (.int k)=>(cO P a x).map (.cv k)
    |some (.slice e),some .string=>match P.underlying e with
      |some (.int .u8)=>(cO P a x).map .sb
      |_=>none
    |_,_=>none
  |.slice t x lo hi m=>do
    let o (x:Option Operand):Option (Option O):=match x with|none=>some none|some x=>(cO P 0 x).map some
    match P.underlying t with
    |some (.slice e)=>if P.cellsOf e=0 then none else some (.s3 (<-cO P t x) (<-o lo) (<-o hi) (<-o m) (P.cellsOf e))
    |some .string=>match m with
      |none=>some (.ss (<-cO P t x) (<-o lo) (<-o hi))
      |some _=>none
    |_=>none
  |.nilCheck x=>(cO P 0 x).map .nc
  |.index t x i=>match P.underlying t with
    |some .string=>do some (.ix (<-cO P t x) (<-cO P 0 i))
    |some (.array m e)=>if ke P e=some false&&P.cellsOf e=1 then(do some (.ai (<-cO P t x) (<-cO P 0 i) m))else none
    |_=>none
  |.extract x i=>do some (.ex (<-cO P 0 x) i)
  |.makeInterface t x=>match P.underlying t with
    |some (.interface _)=>none
    |some _=>do
      let ag <-ke P t
      if t<1000000 then some (.pu (if ag then .XC (t+2000000)else .mi (t+3000000)) (<-cO P t x))else none
    |none=>none
  |.typeAssert x _ t ok=>match P.underlying t with
    |some (.interface _)=>none
    |some _=>do
      let ag <-ke P t
      if t<1000000 then some (.pu (.ta t ag (<-A8 P t) ok) (<-cO P t x))else none
    |none=>none
  |.field t x f=>match P.underlying t with
    |some (.struct fs)=>do
      let f <-fs[f]?
      some (.pu (.fd f.offset (<-vW P f.type)) (<-cO P t x))
    |_=>none
  |.panic x=>(cO P 0 x).map .pn
  |.makeSlice t l c=>match P.underlying t with
    |some (.slice e)=>do
      let zs <-vP P e
      let ds <-zs.mapM Sv
      let i <-P.info? e
      if zs.length≠P.cellsOf e||P.cellsOf e=0 then none else some (.mk ds (P.cellsOf e) i.bytes (<-cO P 0 l) (<-cO P 0 c))
    |_=>none
  |.makeFunc (.func f) first caps=>if f<500000 then(if first.size=0 then(args P caps.toList []).map (.mf f)else if caps.size=0 then(args P first.toList []).map (.mf (f+1000000))else none)else none
  |.call c=>match c.callee with
    |.value (.func f)=>if f<5000000 then(args P c.args.toList c.argTypes.toList).map (.cf f)else none
    |.value x=>do some (.cc (<-cO P 0 x) (<-args P c.args.toList c.argTypes.toList))
    |.builtin .len=>match c.args.toList,c.argTypes.toList with
      |[x],[u]=>match P.underlying u with
        |some (.slice _)=>(cO P u x).map .ln
        |some (.map _ _)=>(cO P u x).map .lm
        |some .string=>(cO P u x).map .ls
        |_=>none
      |_,_=>none
    |.builtin .clear=>match c.args.toList,c.argTypes.toList with
      |[x],[t]=>match P.underlying t with
        |some (.slice e)=>do
          let zs <-vP P e
          let ds <-zs.mapM Sv
          if zs.length≠P.cellsOf e||P.cellsOf e=0 then none else some (.gT (<-cO P t x) ds (P.cellsOf e))
        |_=>none
      |_,_=>none
    |.builtin .delete=>match c.args.toList,c.argTypes.toList with
      |[x,k],[t,_]=>match P.underlying t with
        |some (.map kt _)=>do some (.md (<-cO P t x) (<-cO P kt k) (<-yU P kt))
        |_=>none
      |_,_=>none
    |.builtin .min=>match c.args.toList with
      |[x,y]=>do some (.mn (<-cO P 0 x) (<-cO P 0 y))
      |_=>none
    |.builtin .max=>match c.args.toList with
      |[x,y]=>do some (.mx (<-cO P 0 x) (<-cO P 0 y))
      |_=>none
    |.builtin .append=>match c.args.toList,c.argTypes.toList with
      |[x,y],[t,u]=>match P.underlying t,P.underlying u with
        |some (.slice e),some (.slice _)=>do
          let zs <-vP P e
          if zs.length≠P.cellsOf e||P.cellsOf e=0 then none else some (.ap (<-cO P t x) (<-cO P u y) (P.cellsOf e) (<-(P.info? e).map (·.bytes)))
        |_,_=>none
      |_,_=>none
    |_=>none
  |_=>none
def mq(P:Program)(n:Nat)(ops:Array Oper)(o:Oper):Option I:=do
 let x:=(kJ P o.type o.op).getD .bad
 if !((o.dst.getD 0).blt n)then none else
 match o.guard with
 |none=>some ⟨o.dst,x,none⟩
 |some (j,w)=>some ⟨o.dst,x,some (<-(ops[j]?).bind (·.dst),w)⟩
def AI(o:Oper):List Nat:=(o.after.toList.filter λe=>Region.binds .any e).map (·.on)
def dd:List Nat->List Nat
 |[]=>[]
 |i::l=>bif has l i then dd l else i::dd l
def Fk(ds:List (List Nat)):List (List Nat):=
 ds.foldl (λacc d=>acc++[dd (d++d.flatMap λi=>(acc[i]?).getD [])]) []
def lg:Nat->List (List Nat)->Bool
 |_,[]=>true
 |k,b::bs=>(List.range k).all (has b)&&lg (k+1) bs
def cutAt(bs:List (List Nat)):Nat:=((List.range bs.length).find? λm=>lg m (bs.drop m)).getD bs.length
def Ya(m:Nat)(bs:List (List Nat)):Bool:=lg m bs
def okB:Nat->List (List Nat)->Bool
 |_,[]=>true
 |k,b::bs=>b.all (λi=>Nat.blt i k)&&okB (k+1) bs
def P1(o:Oper):Bool:=match o.op with
 |.select _ _=>false
 |_=>true
def WI(ops:Array Oper)(bs:List (List Nat))(m:Nat):Bool:=
 ops.toList.all P1&&(List.range m).all λk=>(List.range k).all λi=>has ((bs[k]?).getD []) i||(match ops[i]?,ops[k]? with
  |some x,some y=>x.apart ops y
  |_,_=>false)
def Gv:O->List Nat
 |.s t=>[t]
 |_=>[]
def ops:X->List O
 |.mv x|.ld x _|.fa x _|.un _ x|.cv _ x|.ln x|.ls x|.ex x _|.nc x|.pu _ x|.lm x=>[x]
 |.ia x y _|.bin _ x y|.eq _ _ _ x y|.mn x y|.mx x y|.ix x y|.ja x y _ _|.st x y _=>[x,y]
 |.pk a b c=>[a,b,c]
 |.ss x lo hi=>x::(lo.toList++hi.toList)
 |.s3 x lo hi m _=>x::(lo.toList++(hi.toList++m.toList))
 |.ml x k _ _ _=>[x,k]
 |.bd _ ps=>ps.map (·.2.2)
 |.bs _ _ _ ps=>ps.map (·.2)
 |.cf _ xs|.mf _ xs=>xs
 |_=>[]
def tU(i:I):List Nat:=(ops i.o).flatMap Gv++(match i.g with|some p=>[p.1]|none=>[])
def o8(q:List (I×List Nat)):Bool:=
 let z:=q.zipIdx
 z.all λa=>z.all λb=>Nat.beq a.2 b.2||(match b.1.1.d with
  |some y=>(match a.1.1.d with|some x=> !(Nat.beq x y)|none=>true)&&(!(has (tU a.1.1) y)||has a.1.2 b.2||has b.1.2 a.2)
  |none=>true)
def BV(o:Oper):Bool:=match o.op with
 |.defer _=>false
 |_=>true
def comp(P:Program)(n:Nat):Code->Option C
 |.skip=>some .skip
 |.region _ ops false=>bif ops.toList.all BV then(ops.toList.mapM (mq P n ops)).map .dw else some .bad
 |.region _ ops true=>bif !ops.toList.all BV then some .bad else do
  let is <-ops.toList.mapM (mq P n ops)
  let bs:=Fk (ops.toList.map AI)
  let m:=cutAt bs
  let q:=(is.zip bs).take m
  if okB 0 bs&&Ya m (bs.drop m)&&WI ops bs m&&o8 q then some (.y_ q (is.drop m))else some .bad
 |.seq a b=>do some (.seq (<-comp P n a) (<-comp P n b))
 |.cond c a b=>do some (.cond (<-cO P 0 c) (<-comp P n a) (<-comp P n b))
 |.block id c=>do some (.block id (<-comp P n c))
 |.loop c=>do some (.loop (<-comp P n c))
 |.exit id=>some (.exit id)
 |.ret=>some .ret
 |.rangeFunc g ps a b=>bif Nat.ble P.funcs.size 5000000&&ps.toList.all (λp=>Nat.blt p n)then(match cO P 0 g with
  |some g=>do some (.rf g ps.toList (<-comp P n a) (<-comp P n b))
  |none=>some .bad)else some .bad
 |_=>some .bad
section
variable (S : Nat → List V → H → (Out → H → Prop) → Prop)   -- what a call comes to
variable (own : Nat → Bool)                                  -- functions that take what is owned
def pR (f:Nat) (vs:List V) (t:T) (h:H) (K:V→T→H→Prop) (KP:V→T→H→Prop):Prop:=
  match vs.flatMap l8 with
  |[]=>S f vs [] λout h'=>match h' with
    |[]=>(match out with
      |.ret r=>K r t h
      |.eU r=>KP r t h)
    |b::h'=>flb (h++(b::h').map (nG λi=>h.length+i)) λh1=>match out with
      |.ret r=>K (qy (λi=>h.length+i) r) t h1
      |.eU r=>KP (qy (λi=>h.length+i) r) t h1
  |i::is=>Pg (reach h 100 (i::is) []) λids=>LD h ids (i::is)=true /\
      S f (vs.map (qy (pos ids))) (ids.map λi=>nG (pos ids) ((get? h i).getD .no)) λout h'=>
        fl (rowsOf h ids) λos=>E_ os t λt=>flb (back ids (home h.length ids) (pb os h) h') λh1=>match out with
          |.ret r=>K (qy (home h.length ids) r) t h1
          |.eU r=>KP (qy (home h.length ids) r) t h1
def Ur(ids:List Nat)(h:H):H:=h.zipIdx.map λp=>bif has ids p.2 then(match p.1 with
 |.rows z rs=>.lk z rs
 |b=>b)else p.1
def Nw(ids:List Nat)(h:H):H:=h.zipIdx.map λp=>bif has ids p.2 then(match p.1 with
 |.lk z rs=>.rows z rs
 |b=>b)else p.1
def Uq(h:H)(ids:List Nat):List Nat:=ids.filter λi=>match get? h i with
 |some (.rows _ _)=>true
 |_=>false
def Du(f:Nat)(vs:List V)(t:T)(h:H)(K:V->T->H->Prop)(KP:V->T->H->Prop):Prop:=
 match vs.flatMap l8 with
 |[]=>pR S f vs t h K KP
 |_::_=>Pg (Uq h (vs.flatMap Tg)) λids=>flb (Ur ids h) λh=>pR S f vs t h (λv t h=>flb (Nw ids h) λh=>K v t h) (λv t h=>flb (Nw ids h) λh=>KP v t h)
def qc(f:Nat)(vs:List V)(t:T)(h:H)(K:V->T->H->Prop)(KP:V->T->H->Prop):Prop:=
 match vs.flatMap l8 with
 |[]=>pR S f vs t h K KP
 |_::_=>(∃r,S f (vs.map (K8 h)) [] (λout h=>out=.ret r/\h=[])/\Q6 r=true/\K r t h) \/
  P6 (fl (vs.flatMap Tg) λids=>q9 ids t h vs λt h vs=>pR S f vs t h K KP)
   (∃r ns,(S f (vs.map (K8 h)) [] λout h'=>out=.ret r/\h'=ns)/\(ns.all yy&&BB r)=true/\fl (h++ns) λh'=>K (qy (λk=>h.length+k) r) t h')
def qv:X->(O->V)->H->(V->Prop)->Prop
 |.mv x,e,_,K=>K (e x)
 |.pk c a b,e,_,K=>match e c with
  |.d (.bool x)=>sp x (K (e a)) (K (e b))
  |_=>False
 |.bd zero parts,e,_,K=>fl (parts.foldl (λcs p=>lay cs p.1 (e p.2.2).cs) zero) λcs=>
   (parts.all λp=>Nat.beq (e p.2.2).cs.length p.2.1&&Nat.ble (p.1+p.2.1) zero.length&&(e p.2.2).cs.all fP)=true/\K (.ag cs)
 |.ld x n,e,h,K=>match e x with
  |.p id off=>(match get? h id with
   |some (.cells cs)=>(match n with
    |none=>(match get? cs off with|some v=>K v|none=>False)
    |some n=>fl ((cs.drop off).take n) λcs=>Nat.beq cs.length n=true/\K (.ag cs))
   |_=>False)
  |.e row off=>(match n with
   |none=>(match get? row off with|some v=>K (.d v)|none=>False)
   |some n=>fl (((row.drop off).take n).map .d) λcs=>Nat.beq cs.length n=true/\K (.ag cs))
  |.q id z i off=>(match get? h id with
   |some (.rows z' rs)=>Nat.beq z z'=true/\∃row,rs[i]?=some row/\(match n with
    |none=>(match get? row off with|some v=>K (.d v)|none=>False)
    |some n=>fl (((row.drop off).take n).map .d) λcs=>Nat.beq cs.length n=true/\K (.ag cs))
   |some (.lk z' rs)=>Nat.beq z z'=true/\∃row,rs[i]?=some row/\(match n with
    |none=>(match get? row off with|some v=>K (.d v)|none=>False)
    |some n=>fl (((row.drop off).take n).map .d) λcs=>Nat.beq cs.length n=true/\K (.ag cs))
   |some (.rx z' _ i' row)=>(Nat.beq z z'=true/\i=i')/\(match n with
    |none=>(match get? row off with|some v=>K v|none=>False)
    |some _=>False)
   |_=>False)
  |_=>False
 |.fa x off,e,_,K=>match e x with
  |.p id o=>iO (o+off) λo=>K (.p id o)
  |.e row o=>iO (o+off) λo=>K (.e row o)
  |.q id z i o=>iO (o+off) λo=>K (.q id z i o)
  |_=>False
 |.ia x i z,e,h,K=>match e i with
  |.d (.int _ n)=>(match e x with
   |.d (.sl z' rows)|.cl z' rows=>∃row,(0<=n/\rows[n.toNat]?=some row/\Nat.beq z' z=true)/\K (.e row 0)
   |.os id=>(match get? h id with
    |some (.rows z' rs)=>(0<=n/\n<rs.length/\Nat.beq z' z=true)/\K (.q id z n.toNat 0)
    |some (.lk z' rs)=>(0<=n/\n<rs.length/\Nat.beq z' z=true)/\K (.q id z n.toNat 0)
    |_=>False)
   |_=>False)
  |_=>False
 |.bin op x y,e,_,K=>match e x,e y with
  |.d (.str a),.d (.str b)=>(match op with
   |.add=>a.length+b.length<=9223372036854775807/\K (.d (.str (a++b)))
   |_=>False)
  |.d (.int k a),.d (.int k' b)=>bif TT op then(0<=b/\K (.d (.int k (A_ op k a b))))else bif Nat.beq (kn k) (kn k')then(match op with
   |.add=>Nl k (a+b) λn=>K (.d (.int k n))
   |.sub=>Nl k (a-b) λn=>K (.d (.int k n))
   |.mul=>Nl k (a*b) λn=>K (.d (.int k n))
   |.quo=>b≠0/\Nl k (a.tdiv b) λn=>K (.d (.int k n))
   |.rem=>b≠0/\K (.d (.int k (a.tmod b)))
   |.and=>K (.d (.int k (jF .and k a b)))
   |.or=>K (.d (.int k (jF .or k a b)))
   |.xor=>K (.d (.int k (jF .xor k a b)))
   |.andNot=>K (.d (.int k (jF .andNot k a b)))
   |.eql=>K (.d (.bool (a==b)))
   |.neq=>K (.d (.bool (a != b)))
   |.lss=>K (.d (.bool (decide (a<b))))
   |.leq=>K (.d (.bool (decide (a<=b))))
   |.gtr=>K (.d (.bool (decide (b<a))))
   |.geq=>K (.d (.bool (decide (b<=a))))
   |_=>False)else False
  |_,_=>False
 |.eq ne st ks x y,e,_,K=>((e x).pI=st/\(e y).pI=st)/\Su ks (e x).cs (e y).cs λe=>K (.d (.bool (bif ne then !e else e)))
 |.un op x,e,_,K=>match e x,op with
  |.d (.bool b),.not=>K (.d (.bool (!b)))
  |.d (.int k a),.neg=>Nl k (-a) λn=>K (.d (.int k n))
  |_,_=>False
 |.cv k x,e,_,K=>match e x with
  |.d (.int _ a)=>Nl k a λn=>K (.d (.int k n))
  |_=>False
 |.mn x y,e,_,K=>match e x,e y with
  |.d (.int k a),.d (.int _ b)=>K (.d (.int k (min a b)))
  |_,_=>False
 |.mx x y,e,_,K=>match e x,e y with
  |.d (.int k a),.d (.int _ b)=>K (.d (.int k (max a b)))
  |_,_=>False
 |.ss x lo hi,e,_,K=>
  match(match lo with|some lo=>e lo|none=>.d (.int .i64 0)),hi with
  |.d (.int _ l),none=>(match e x with
   |.d (.str r)=>(0<=l/\l<=r.length)/\K (.d (.str (r.drop l.toNat)))
   |_=>False)
  |.d (.int _ l),some hi=>(match e hi with
   |.d (.int _ u)=>(match e x with
    |.d (.str r)=>(0<=l/\l<=u/\u<=r.length)/\K (.d (.str ((r.take u.toNat).drop l.toNat)))
    |_=>False)
   |_=>False)
  |_,_=>False
 |.mf f caps,e,_,K=>match Sx f (caps.map e) with
  |some r=>fl r.2 λcs=>K (.fc r.1 cs)
  |none=>((Nat.blt f 1000000||!caps.isEmpty)&&caps.all λx=>sP (e x))=true/\fl (caps.map e) λcs=>K (.fc f cs)
 |.ex x i,e,_,K=>match e x with
  |.tu vs=>(match get? vs i with|some v=>K v|none=>False)
  |_=>False
 |.nc x,e,_,K=>match e x with
  |.p i o=>K (.p i o)
  |.e r o=>K (.e r o)
  |.q i z j o=>K (.q i z j o)
  |.fc f c=>bif Nat.blt f 2000000 then K (.fc f c)else False
  |.d (.fn f)=>K (.d (.fn f))
  |.d (.pt row off)=>K (.e row off)
  |_=>False
 |.ix x i,e,_,K=>match e x,e i with
  |.d (.str s),.d (.int _ n)=>∃b,(0<=n/\s[n.toNat]?=some b)/\K (.d (.int .u8 b.toNat))
  |_,_=>False
 |.ja x i z m,e,_,K=>match e i with
  |.d (.int _ n)=>(match e x with
   |.e row off=>∃sub,(0<=n/\(chunk z m (row.drop off))[n.toNat]?=some sub/\Nat.ble (off+m*z) row.length=true)/\K (.e sub 0)
   |.p id off=>(0<=n/\n<m)/\iO (off+n.toNat*z) λo=>K (.p id o)
   |_=>False)
  |_=>False
 |.lm x,e,h,K=>match e x with
  |.mp id=>(match get? h id with
   |some (.mp es)=>K (.d (.int .i64 es.length))
   |some (.dm es)=>K (.d (.int .i64 es.length))
   |some (.di es _ _)=>K (.d (.int .i64 es.length))
   |some (.ms _ es _ _)=>K (.d (.int .i64 es.length))
   |_=>False)
  |.d .nm=>K (.d (.int .i64 0))
  |_=>False
 |.pu f x,e,_,K=>match pu f (e x) with
  |some v=>K v
  |none=>False
 |_,_,_,_=>False
def dV:X->T->H->(V->T->H->Prop)->(V->T->H->Prop)->Prop
  |.nil z,t,h,K,_=>fl (h++[.rows z []]) λh'=>iO h.length λn=>K (.os n) t h'
  |.bx x,t,h,K,_=>(gv t x).cs.all fP=true/\fl (gv t x).cs λcs=>fl (h++[.cells cs]) λh'=>iO h.length λn=>K (.p n 0) t h'
  |.al cs,t,h,K,_=>fl (h++[.cells cs]) λh'=>iO h.length λn=>K (.p n 0) t h'
  |.bs z zero n parts,t,h,K,_=>fl (parts.foldl (λcs p=>lay cs (p.1*z) (gv t p.2).cs) (List.replicate n zero).flatten) λcs=>
      (parts.all λp=>Nat.beq (gv t p.2).cs.length z&&Nat.ble (p.1*z+z) (n*z)&&(gv t p.2).cs.all fP)=true /\
        FP cs t h λds t h=>fl (chunk z n ds) λrows=>Pn (fl (h++[.rows z rows]) λh'=>iO h.length λid=>K (.os id) t h') (K (.d (.sl z rows)) t h)
  |.st x v n,t,h,K,_=>match gv t x with
    |.p id off=>(match get? h id with
      |some (.cells cs)=>fl (lay cs off (gv t v).cs) λcs'=>fl (h.set id (.cells cs')) λh'=>
          (Nat.beq (gv t v).cs.length n=true/\Nat.ble (off+n) cs.length=true/\(gv t v).cs.all fP=true)/\K .ud t h'
      |_=>False)
    |.q id z i off=>(match gv t v with
      |.os j=>TV (stx id z i off n j h λh=>K .ud t h) (Vm id z i off n [.os j] t h λt h=>K .ud t h)
      |v=>Vm id z i off n v.cs t h λt h=>K .ud t h)
    |_=>False
  |.ln x,t,h,K,_=>match dv (gv t x) with
    |.d (.sl _ r)|.cl _ r=>r.length<=9223372036854775807->K (.d (.int .i64 r.length)) t h
    |.os id=>(match get? h id with
      |some (.rows _ r)=>r.length<=9223372036854775807->K (.d (.int .i64 r.length)) t h
      |some (.lk _ r)=>r.length<=9223372036854775807->K (.d (.int .i64 r.length)) t h
      |_=>False)
    |_=>False
  |.ls x,t,h,K,_=>match gv t x with
    |.d (.str s)=>s.length<=9223372036854775807->K (.d (.int .i64 s.length)) t h
    |_=>False
  |.s3 x lo hi m z,t,h,K,_=>
    match(match lo with|some lo=>gv t lo|none=>.d (.int .i64 0)),hi,m with
    |.d (.int _ l),none,none=>(match dv (gv t x) with
      |.d (.sl z' r)|.cl z' r=>(0<=l/\l<=r.length/\Nat.beq z' z=true)/\K (.d (.sl z (r.drop l.toNat))) t h
      |.os id=>(match get? h id with
        |some (.rows z' r)=>(0<=l/\l<=r.length/\Nat.beq z' z=true)/\K (.ov id z l.toNat) t h
        |_=>False)
      |_=>False)
    | .d (.int _ l), some hi, none => (match gv t hi with
      |.d (.int _ u)=>(match dv (gv t x) with
        |.d (.sl z' r)|.cl z' r=>(0<=l/\l<=u/\u<=r.length/\Nat.beq z' z=true)/\K (.d (.sl z ((r.take u.toNat).drop l.toNat))) t h
        |.os id=>(match get? h id with
          |some (.rows z' r)=>(0<=l/\l<=u/\u<=r.length/\Nat.beq z' z=true)/\pB (ye id (.d (.sl z r)) t) λt=>flb (qG id (.d (.sl z r)) h) λh=>K (.d (.sl z ((r.take u.toNat).drop l.toNat))) t h
          |_=>False)
        |_=>False)
      |_=>False)
    |.d (.int _ l),some hi,some m=>(match gv t hi,gv t m with
      |.d (.int _ u),.d (.int _ v)=>(match dv (gv t x) with
        |.d (.sl z' r)|.cl z' r=>(0<=l/\l<=u/\u=v/\u<=r.length/\Nat.beq z' z=true)/\K (.cl z ((r.take u.toNat).drop l.toNat)) t h
        |_=>False)
      |_,_=>False)
    |_,_,_=>False
  |.ap x y z bytes,t,h,K,_=>match dv (gv t y) with
    |.d (.sl z' ys)|.cl z' ys=>(match Sm t x with
      |.os id=>(match get? h id with
        |some (.rows z'' rs)=>(Nat.beq z z''=true/\Nat.beq z z'=true/\rs.length+ys.length<=9223372036854775807/\(rs.length+ys.length)*bytes<=140737488355328) /\
            pB (mK id t) λt=>flb ((h.map (jP id)).set id (.rows z (rs++ys))) λh=>K (.os id) t h
        |_=>False)
      |.nl _=>(Nat.beq z z'=true/\ys.length<=9223372036854775807/\ys.length*bytes<=140737488355328)/\Pq (fl (h++[.rows z ys]) λh'=>iO h.length λn=>K (.os n) t h') (K (.d (.sl z ys)) t h)
      |.cl z'' rs=>(Nat.beq z z''=true/\Nat.beq z z'=true/\rs.length+ys.length<=9223372036854775807/\(rs.length+ys.length)*bytes<=140737488355328)/\K (.d (.sl z (rs++ys))) t h
      |_=>False)
    |_=>False
  |.cf f args,t,h,K,KP=>
    fl (args.map λa=>fi (gv t a)) λvs=>bif own f then(bif own (f+7000000)then Du S f vs t h K KP else pR S f vs t h K KP)else qc S f vs t h K KP
  |.cc x args,t,h,K,KP=>match XO (gv t x) with
    |.fc f caps=>bif Nat.blt f 1000000 then fl ((args.map λa=>fi (gv t a))++caps) λvs=>qc S f vs t h K KP
        else bif Nat.blt f 1500000 then fl (caps++args.map λa=>fi (gv t a)) λvs=>qc S (f-1000000) vs t h K KP
        else bif Nat.blt f 2000000 then fl (.ag caps::args.map λa=>fi (gv t a)) λvs=>qc S (f-1500000) vs t h K KP else False
    |.d (.fn f)=>bif Nat.blt f 5000000 then fl (args.map λa=>fi (gv t a)) λvs=>qc S f vs t h K KP else False
    |_=>False
  |.nq ne x,t,h,K,_=>match gv t x with
    |.d (.sl _ r)|.cl _ r=>(match r with
      |[]=>K (.d (.bool true)) t h/\K (.d (.bool false)) t h
      |_::_=>K (.d (.bool ne)) t h)
    |.os id=>(match get? h id with
      |some (.rows _ r)=>(match r with
        |[]=>K (.d (.bool true)) t h/\K (.d (.bool false)) t h
        |_::_=>K (.d (.bool ne)) t h)
      |_=>False)
    |_=>False
  |.ns z,t,h,K,_=>fl (h++[.rows z []]) λh'=>iO h.length λn=>K (.os n) t h'
  |.gT x zs z,t,h,K,_=>match gv t x with
    |.ov id z' i=>(match get? h id with
      |some (.rows z'' r)=>(Nat.beq z' z=true/\Nat.beq z'' z=true/\Nat.ble i r.length=true)/\fl (h.set id (.rows z (r.take i++List.replicate (r.length-i) zs))) λh=>K (.tu []) t h
      |_=>False)
    |_=>False
  |.mm pl,t,h,K,_=>fl (h++[M7 pl]) λh'=>iO h.length λn=>K (.mp n) t h'
  |.ml x k ks zero ok,t,h,K,_=>match gv t x with
    |.mp id=>(match get? h id with
      |some (.mp es)=>kY ks (gv t k)=true/\∃r,nI ks (gv t k).cs es 0=some r/\(match r with
        |some (_,v)=>(yi v=true)/\K (bif ok then .tu [v,.d (.bool true)]else v) t h
        |none=>K (bif ok then .tu [zero,.d (.bool false)]else zero) t h)
      |some (.dm es)=>kY ks (gv t k)=true/\∃r,nI ks (gv t k).cs (fC es) 0=some r/\(match r with
        |some (_,v)=>(yi v=true)/\K (bif ok then .tu [v,.d (.bool true)]else v) t h
        |none=>K (bif ok then .tu [zero,.d (.bool false)]else zero) t h)
      |some (.di es _ _)=>kY ks (gv t k)=true/\∃r,nI ks (gv t k).cs (fC es) 0=some r/\(match r with
        |some (_,v)=>(yi v=true)/\K (bif ok then .tu [v,.d (.bool true)]else v) t h
        |none=>K (bif ok then .tu [zero,.d (.bool false)]else zero) t h)
      |some (.ms _ _ _ _)=>ok=false/\PC id t h λt h=>(match get? h id,Ew (gv t k) with
        |some (.ms z es none it),some key=>Nat.beq (ks.headD 0) 9=true /\
          ((∃ i b rs, (lW key es = some i ∧ (es[i]?).map (·.2) = some (some (b, rs))) ∧ fl (h.set id (.ms z (eQ i none es) (some (i, .os h.length)) it) ++ [.rows z rs]) fun h' => iO h.length fun n => K (.os n) t h') ∨
           ((lW key es=none/\Uy zero=true)/\fl (h++[.rows z []]) λh'=>iO h.length λn=>K (.os n) t h'))
        |_,_=>False)
      |_=>False)
    |.d .nm=>kY ks (gv t k)=true/\K (bif ok then .tu [zero,.d (.bool false)]else zero) t h
    |_=>False
  |.mu x k v ks,t,h,K,_=>match gv t x with
    |.mp id=>(match get? h id with
      |some (.mp es)=>(yi (gv t v)=true/\kY ks (gv t k)=true)/\∃r,nI ks (gv t k).cs es 0=some r/\(match r with
        |some (i,_)=>fl (h.set id (.mp (es.set i (gv t k,gv t v)))) λh=>K .ud t h
        |none=>fl (h.set id (.mp (es++[(gv t k,gv t v)]))) λh=>K .ud t h)
      |some (.dm _)=>(match gv t k with
        |.d kd=>(((gv t v).cs.all fP&&((gv t v).pI||sP (gv t v)))=true/\kY ks (.d kd)=true)/\FP (gv t v).cs t h λds t' h'=>(match get? h' id with
          |some (.dm es)=>∃r,nI ks [.d kd] (fC es) 0=some r/\(match r with
            |some (i,_)=>fl (h'.set id (.dm (es.set i (kd,(gv t v).pI,ds)))) λh=>K .ud t' h
            |none=>fl (h'.set id (.dm (es++[(kd,(gv t v).pI,ds)]))) λh=>K .ud t' h)
          |_=>False)
        |_=>False)
      |some (.ms z es out it)=>(match Ew (gv t k),Sm t v with
        |some key,.os m=>(match get? h m with
          |some (.rows z' rs)=>(Nat.beq z z'=true/\Nat.beq (ks.headD 0) 9=true) /\
            ((∃ i, (lW key es = some i ∧ ∀ j v, out = some (j, v) → j = i) ∧ ∀ b, pB (mK m t) fun t => flb (((h.map (jP m)).set m .no).set id (.ms z (eQ i (some (b, rs)) es) none it)) fun h => K .ud t h) ∨
             ((lW key es=none/\out=none/\it=none)/\∀b,pB (mK m t) λt=>flb (((h.map (jP m)).set m .no).set id (.ms z (es++[(key,some (b,rs))]) none none)) λh=>K .ud t h))
          |_=>False)
        |some key,.nl z'=>(Nat.beq z z'=true/\Nat.beq (ks.headD 0) 9=true) /\
            ((∃ i, (lW key es = some i ∧ ∀ j v, out = some (j, v) → j = i) ∧ fl (h.set id (.ms z (eQ i (some (none, [])) es) none it)) fun h => K .ud t h) ∨
             ((lW key es=none/\out=none/\it=none)/\fl (h.set id (.ms z (es++[(key,some (none,[]))]) none none)) λh=>K .ud t h))
        |_,_=>False)
      |_=>False)
    |_=>False
  |.md x k ks,t,h,K,_=>match gv t x with
    |.mp id=>(match get? h id with
      |some (.mp es)=>kY ks (gv t k)=true/\∃r,nI ks (gv t k).cs es 0=some r/\(match r with
        |some (i,_)=>fl (h.set id (.mp (es.eraseIdx i))) λh=>K (.tu []) t h
        |none=>K (.tu []) t h)
      |some (.dm es)=>kY ks (gv t k)=true/\∃r,nI ks (gv t k).cs (fC es) 0=some r/\(match r with
        |some (i,_)=>fl (h.set id (.dm (es.eraseIdx i))) λh=>K (.tu []) t h
        |none=>K (.tu []) t h)
      |some (.ms z es none none)=>(match Ew (gv t k) with
        |some key=>Nat.beq (ks.headD 0) 9=true/\∃r,lW key es=r/\(match r with
          |some i=>fl (h.set id (.ms z (es.eraseIdx i) none none)) λh=>K (.tu []) t h
          |none=>K (.tu []) t h)
        |none=>False)
      |_=>False)
    |_=>False
  |.rg x,t,h,K,_=>match gv t x with
    |.mp id=>(match get? h id with
      |some (.dm es)=>∀r,fl (h.set id (.di es r (List.range es.length,none))) λh=>iO id λid=>K (.it id r) t h
      |some (.ms _ _ _ none)=>PC id t h λt h=>(match get? h id with
        |some (.ms z es none none)=>∀r,fl (h.set id (.ms z es none (some (r,List.range es.length,none)))) λh=>iO id λid=>K (.it id r) t h
        |_=>False)
      |_=>False)
    |_=>False
  |.nx x,t,h,K,_=>match gv t x with
    |.it id r=>(match get? h id with
      |some (.di es r' (left,_))=>r=r'/\(left=[]->fl (h.set id (.dm es)) λh=>K (.tu [.d (.bool false)]) t h) /\
          ∀i,i∈left->fl (h.set id (.di es r' (left.erase i,some i))) λh=>K (.tu [.d (.bool true),.un,.un]) t h
      |some (.ms _ _ _ _)=>PC id t h λt h=>(match get? h id with
        |some (.ms z es none (some (r',left,_)))=>r=r'/\(left=[]->fl (h.set id (.ms z es none none)) λh=>K (.tu [.d (.bool false)]) t h) /\
          ∀i,i∈left->fl (h.set id (.ms z es none (some (r',left.erase i,some i)))) λh=>K (.tu [.d (.bool true),.un,.un]) t h
        |_=>False)
      |_=>False)
    |_=>False
  |.en x,t,h,K,_=>match gv t x with
    |.it id r=>(match get? h id with
      |some (.di es r' (_,some i))=>∃e,(r=r'/\es[i]?=some e)/\K (.tu [.d e.1,Ny e.2]) t h
      |some (.ms z es none (some (r',left,some i)))=>∃k b rs,(r=r'/\es[i]?=some (k,some (b,rs)))/\fl (h.set id (.ms z (eQ i none es) (some (i,.os h.length)) (some (r',left,some i)))++[.rows z rs]) λh'=>iO h.length λn=>K (.tu [vY k,.os n]) t h'
      |_=>False)
    |_=>False
  |.pn x,t,h,_,KP=>match gv t x with
    |.fc F cs=>bif Nat.ble 2000000 F then KP (.fc F cs) t h else False
    |_=>False
  |.mk zs z b l c,t,h,K,_=>match gv t l,gv t c with
    |.d (.int _ l),.d (.int _ c)=>(0<=l/\l<=c/\c*b<=140737488355328/\c<=9223372036854775807)/\fl (h++[.rows z (List.replicate l.toNat zs)]) λh'=>iO h.length λn=>K (.os n) t h'
    |_,_=>False
  |.aa d m,t,h,K,_=>fl (h++[.rows 1 (List.replicate m [d])]) λh'=>iO h.length λn=>K (.q n 1 0 0) t h'
  |.la x m,t,h,K,_=>match gv t x with
    |.q id z i off=>(match get? h id with
      |some (.rows z' rs)=>(Nat.beq z 1&&Nat.beq z' 1&&Nat.beq i 0&&Nat.beq off 0)=true/\∃ds:List D,(rs=(ds.map λd=>[d])/\ds.length=m)/\K (.ag (ds.map .d)) t h
      |_=>False)
    |_=>False
  |.jq x i m,t,h,K,_=>match gv t x,gv t i with
    |.q id z j off,.d (.int _ n)=>(Nat.beq z 1&&Nat.beq j 0&&Nat.beq off 0)=true/\(0<=n/\n<m)/\K (.q id 1 n.toNat 0) t h
    |_,_=>False
  |.ai x i m,t,h,K,_=>match gv t x,gv t i with
    |.ag cs,.d (.int _ n)=>∃v:D,(0<=n/\n<m/\cs[n.toNat]?=some (.d v))/\K (.d v) t h
    |_,_=>False
  |.sb x,t,h,K,_=>match dv (gv t x) with
    |.d (.sl _ r)|.cl _ r=>∃s:List UInt8,(r=s.map λb=>[D.int .u8 b.toNat])/\K (.d (.str s)) t h
    |.os id=>(match get? h id with
      |some (.rows _ r)=>∃s:List UInt8,(r=s.map λb=>[D.int .u8 b.toNat])/\K (.d (.str s)) t h
      |_=>False)
    |_=>False
  |x,t,h,K,_=>qv x (gv t) h λv=>K v t h
def A6(i:I)(ih:T->H->(Ex->T->H->Prop)->Prop)(t:T)(h:H)(K:Ex->T->H->Prop):Prop:=
  match i.g with
    |none=>dV S own i.o t h (λv t h=>pU i.d v t λt=>ih t h K) λv t h=>K (.eU v) t h
    | some (j, w) => match gs t j with
      | .d (.bool b) => sp b
          (bif w then dV S own i.o ((j,.d (.bool true))::t) h (λv t h=>pU i.d v t λt=>ih t h K) λv t h=>K (.eU v) t h
            else pU i.d .ud ((j,.d (.bool true))::t) λt=>ih t h K)
          (bif w then pU i.d .ud ((j,.d (.bool false))::t) λt=>ih t h K
            else dV S own i.o ((j,.d (.bool false))::t) h (λv t h=>pU i.d v t λt=>ih t h K) λv t h=>K (.eU v) t h)
      |.ud=>pU i.d .ud t λt=>ih t h K
      |_=>False
def rx(l:List I):T->H->(Ex->T->H->Prop)->Prop:=
 List.rec (motive:=λ_=>T->H->(Ex->T->H->Prop)->Prop) (λt h K=>K .qD t h) (λi _ ih t h K=>A6 S own i ih t h K) l
theorem Cl(i:I)(r:List I)(t:T)(h:H)(K:Ex->T->H->Prop):rx S own (i::r) t h K=A6 S own i (rx S own r) t h K:=rfl
@[irreducible] def Sw(p q:Prop):Prop:=p/\q
theorem SX{p q:Prop}(h:p)(k:q):Sw p q:=by unfold Sw;exact⟨h,k⟩
theorem Dx{p q:Prop}(h:Sw p q):p/\q:=by unfold Sw at h;exact h
def Ki(l:List Nat)(f:Nat->Prop):Prop:=
 List.rec (motive:=λ_=>Prop) True (λj r ih=>List.rec (motive:=λ_=>Prop) (f j) (λ_ _ _=>Sw (f j) ih) r) l
theorem vB{f:Nat->Prop}:∀{l:List Nat},Ki l f->∀j∈l,f j
 |[],_,j,hj=>by cases hj
 |[i],h,j,hj=>by rw[aF.1 hj];exact h
 |i::k::r,h,j,hj=>by
  rcases ah.1 hj with rfl|hj
  .exact(Dx h).1
  .exact vB (l:=k::r) (Dx h).2 j hj
def qx:X->T->H->(V->Prop)->Prop
 |.ln x,t,h,K=>match dv (gv t x) with
  |.d (.sl _ r)|.cl _ r=>K (.d (.int .i64 r.length))
  |.os id=>(match get? h id with
   |some (.rows _ r)=>K (.d (.int .i64 r.length))
   |_=>False)
  |_=>False
 |.ls x,t,_,K=>match gv t x with
  |.d (.str s)=>K (.d (.int .i64 s.length))
  |_=>False
 |.cf f args,t,h,K=>fl (args.map λa=>fi (gv t a)) λvs=>match vs.flatMap l8 with
  |[]=>∃r,(S f vs [] λout h=>out=.ret r/\h=[])/\K r
  |i::is=>Pg (reach h 100 (i::is) []) λids=>(LD h ids (i::is)&&(rowsOf h ids).isEmpty&&(vs.flatMap Tg).isEmpty&&!own f)=true/\fl (ids.map λi=>nG (pos ids) ((get? h i).getD .no)) λbl=>
    back ids (home h.length ids) h bl=h/\∃r,(S f (vs.map (qy (pos ids))) bl λout h'=>out=.ret r/\h'=bl)/\K (qy (home h.length ids) r)
 |.bs z zero n parts,t,_,K=>fl (parts.foldl (λcs p=>lay cs (p.1*z) (gv t p.2).cs) (List.replicate n zero).flatten) λcs=>
   (parts.all λp=>Nat.beq (gv t p.2).cs.length z&&Nat.ble (p.1*z+z) (n*z)&&(gv t p.2).cs.all fP)=true ∧
    FP cs [] [] λds _ _=>fl (chunk z n ds) λrows=>K (.d (.sl z rows))
 |.s3 x lo hi m z,t,_,K=>
  match(match lo with|some lo=>gv t lo|none=>.d (.int .i64 0)),hi,m with
  |.d (.int _ l),none,none=>(match dv (gv t x) with
   |.d (.sl z' r)|.cl z' r=>(0<=l/\l<=r.length/\Nat.beq z' z=true)/\K (.d (.sl z (r.drop l.toNat)))
   |_=>False)
  |.d (.int _ l),some hi,none=>(match gv t hi with
   |.d (.int _ u)=>(match dv (gv t x) with
    |.d (.sl z' r)|.cl z' r=>(0<=l/\l<=u/\u<=r.length/\Nat.beq z' z=true)/\K (.d (.sl z ((r.take u.toNat).drop l.toNat)))
    |_=>False)
   |_=>False)
  |_,_,_=>False
 |.ml x k ks zero ok,t,h,K=>match gv t x with
  |.mp id=>(match get? h id with
   |some (.mp es)=>kY ks (gv t k)=true/\∃r,nI ks (gv t k).cs es 0=some r/\(match r with
    |some (_,v)=>(yi v=true)/\K (bif ok then .tu [v,.d (.bool true)]else v)
    |none=>K (bif ok then .tu [zero,.d (.bool false)]else zero))
   |some (.dm es)=>kY ks (gv t k)=true/\∃r,nI ks (gv t k).cs (fC es) 0=some r/\(match r with
    |some (_,v)=>(yi v=true)/\K (bif ok then .tu [v,.d (.bool true)]else v)
    |none=>K (bif ok then .tu [zero,.d (.bool false)]else zero))
   |_=>False)
  |_=>False
 |x,t,h,K=>qv x (gv t) h K
def Sk (h:H) (i:I) (ih:T→(T→Prop)→Prop) (t:T) (K:T→Prop):Prop:=
  match i.g with
  |none=>qx S own i.o t h λv=>pU i.d v t λt=>ih t K
  | some (j, w) => (match gs t j with
    | .d (.bool b) => sp b
        (bif w then qx S own i.o ((j,.d (.bool true))::t) h λv=>pU i.d v ((j,.d (.bool true))::t) λt=>ih t K
          else pU i.d .ud ((j,.d (.bool true))::t) λt=>ih t K)
        (bif w then pU i.d .ud ((j,.d (.bool false))::t) λt=>ih t K
          else qx S own i.o ((j,.d (.bool false))::t) h λv=>pU i.d v ((j,.d (.bool false))::t) λt=>ih t K)
    |.ud=>pU i.d .ud t λt=>ih t K
    |_=>False)
def qr(h:H)(q:List (I×List Nat)):T->(T->Prop)->Prop:=
 List.rec (motive:=λ_=>T->(T->Prop)->Prop) (λt K=>K t) (λi _ ih t K=>Sk S own h i.1 ih t K) q
theorem MJ(h:H)(i:I×List Nat)(q:List (I×List Nat))(t:T)(K:T->Prop):qr S own h (i::q) t K=Sk S own h i.1 (qr S own h q) t K:=rfl
def Sq:X->Bool
 |.al _|.mm _=>true
 |_=>false
def XG:X->Bool
 |.st _ _ _=>true
 |_=>false
def WJ:List (I×List Nat)->Nat->List (Option Nat)
 |[],_=>[]
 |x::r,n=>bif Sq x.1.o then some n::WJ r (n+1)else none::WJ r n
noncomputable def Vl(qa:List ((I×List Nat)×Option Nat))(t:T)(h:H):Nat->O->Option (Nat×Nat)
 |f+1,.s s=>match qa.find? λx=>match x.1.1.d with
   |some d=>Nat.beq d s
   |none=>false with
  |some x=>(match x.1.1.o with
   |.al _=>x.2.map λn=>(n,0)
   |.fa y k=>(Vl qa t h f y).map λp=>(p.1,p.2+k)
   |.nc y|.mv y=>Vl qa t h f y
   |.ld y none=>(match Vl qa t h f y with
    |some p=>(match get? h p.1 with
     |some (.cells cs)=>(match get? cs p.2 with
      |some (.p i o)=>some (i,o)
      |_=>none)
     |_=>none)
    |none=>none)
   |_=>none)
  |none=>(match gs t s with
   |.p i o=>some (i,o)
   |_=>none)
 |_,_=>none
noncomputable def YX(q:List (I×List Nat))(n:Nat)(t:T)(h:H):List (Option Nat):=(q.zip (WJ q n)).map λx=>match x.2,x.1.1.o with
 |some n,_=>some n
 |none,.st a _ _=>(Vl (q.zip (WJ q n)) t h 20 a).map (·.1)
 |none,_=>none
def XM(l:List (Option Nat)):(List (Option Nat)->Prop)->Prop:=
 List.rec (motive:=λ_=>(List (Option Nat)->Prop)->Prop) (λK=>K []) (λx _ ih K=>match x with
  |some n=>iO n λn=>ih λr=>K (some n::r)
  |none=>ih λr=>K (none::r)) l
def LU(q:List (I×List Nat))(W:List (Option Nat))(j:Nat)(dj:List Nat):List Nat:=(q.zip W).zipIdx.filterMap λp=>match p.1.2 with
 |some b=>bif Nat.beq p.2 j||(has dj p.2||has p.1.1.2 j)then none else some b
 |none=>none
def gone(ids:List Nat)(h:H):H:=h.zipIdx.map λp=>bif has ids p.2 then .no else p.1
def Vt(n0:Nat)(W:List (Option Nat))(j:Nat)(U:List Nat)(i:I)(ih:T->H->(T->H->Prop)->Prop)(t:T)(h:H)(K:T->H->Prop):Prop:=
 match i.o with
 |.al cs=>i.g=none/\(match get? W j with
  |some (some n)=>(match get? (gone U h) n with
   |some .nw=>(Nat.ble n0 n&&(jL (.cells cs)).isEmpty)=true/\pU i.d (.p n 0) t λt=>fl (h.set n (.cells cs)) λh=>ih t h K
   |_=>False)
  |_=>False)
 |.mm pl=>i.g=none/\(match get? W j with
  |some (some n)=>(match get? (gone U h) n with
   |some .nw=>Nat.ble n0 n=true/\pU i.d (.mp n) t λt=>fl (h.set n (M7 pl)) λh=>ih t h K
   |_=>False)
  |_=>False)
 |.st x v n=>i.g=none/\(match gv t x with
  |.p id off=>(match get? W j,get? (gone U h) id with
   |some (some w),some (.cells b)=>Nat.beq w id=true/\fl (lay b off (gv t v).cs) λcs=>(Nat.beq (gv t v).cs.length n=true/\Nat.ble (off+n) b.length=true/\(gv t v).cs.all fP=true)/\fl (h.set id (.cells cs)) λh=>pU i.d .ud t λt=>ih t h K
   |_,_=>False)
  |_=>False)
 |_=>(match get? W j with
  |some none=>fl (gone U h) λhv=>Sk S own hv i (λt _=>ih t h K) t λ_=>True
  |_=>False)
def qs(n0:Nat)(q:List (I×List Nat))(W:List (Option Nat))(r:List ((I×List Nat)×Nat)):T->H->(T->H->Prop)->Prop:=
 List.rec (motive:=λ_=>T->H->(T->H->Prop)->Prop) (λt h K=>K t h) (λp _ ih t h K=>Pg (LU q W p.2 p.1.2) λU=>Vt S own n0 W p.2 U p.1.1 ih t h K) r
theorem MH(n0:Nat)(q:List (I×List Nat))(W:List (Option Nat))(p:(I×List Nat)×Nat)(r:List ((I×List Nat)×Nat))(t:T)(h:H)(K:T->H->Prop):qs S own n0 q W (p::r) t h K=Pg (LU q W p.2 p.1.2) λU=>Vt S own n0 W p.2 U p.1.1 (qs S own n0 q W r) t h K:=rfl
def T2(h:H)(q:List (I×List Nat))(s:List I)(t:T)(K:Ex->T->H->Prop):Prop:=
 bif q.any λi=>Sq i.1.o||XG i.1.o then fl (h++(q.filter λi=>Sq i.1.o).map λ_=>.nw) λh'=>XM (YX q h.length t h') λW=>qs S own h.length q W q.zipIdx t h' λt h=>flb h λh=>rx S own s t h K
 else qr S own h q t λt=>rx S own s t h K
def tc(q:List (I×List Nat))(done:List Nat):List Nat:=
 (List.range q.length).filter λj=> !(has done j)&&(match get? q j with
  |some x=>x.2.all (has done)
  |none=>false)
noncomputable def V4(q:List (I×List Nat))(s:List I)(n:Nat):List Nat->T->H->(Ex->T->H->Prop)->Prop:=
 Nat.rec (motive:=λ_=>List Nat->T->H->(Ex->T->H->Prop)->Prop) (λ_ t h K=>rx S own s t h K)
  (λ_ ih done t h K=>Ki (tc q done) λj=>match get? q j with
   |some x=>A6 S own x.1 (λt h K=>ih (j::done) t h K) t h K
   |none=>False) n
theorem Kh(q:List (I×List Nat))(s:List I)(n:Nat)(done:List Nat)(t:T)(h:H)(K:Ex->T->H->Prop):V4 S own q s (n+1) done t h K=Ki (tc q done) λj=>match get? q j with
 |some x=>A6 S own x.1 (λt h K=>V4 S own q s n (j::done) t h K) t h K
 |none=>False:=rfl
def qL:X->Bool
 |.mv _|.nc _|.fa _ _|.ex _ _|.bd _ _|.ia _ _ _=>true
 |_=>false
def LA:X->Bool
 |.ld _ _=>true
 |_=>false
def Gr:X->Bool
 |.mv _|.ex _ _|.ld _ _|.al _|.bd _ _|.bs _ _ _ _|.s3 _ _ _ _ _=>true
 |_=>false
def D9(q:List (I×List Nat))(done:List Nat)(j:Nat):Bool:=match get? q j with
 |some x=>qL x.1.o||(LA x.1.o&&(List.range q.length).all λk=>has done k||(Nat.beq k j||(match get? q k with
  |some y=>has y.2 j||Gr y.1.o
  |none=>false)))
 |none=>false
def u7(q:List (I×List Nat))(done:List Nat):Option Nat:=(tc q done).find? (D9 q done)
noncomputable def Pr(q:List (I×List Nat))(s:List I)(n:Nat):List Nat->T->H->(Ex->T->H->Prop)->Prop:=
 Nat.rec (motive:=λ_=>List Nat->T->H->(Ex->T->H->Prop)->Prop) (λ_ t h K=>rx S own s t h K)
  (λ_ ih done t h K=>match u7 q done with
   |some j=>(match get? q j with
    |some x=>A6 S own x.1 (λt h K=>ih (j::done) t h K) t h K
    |none=>False)
   |none=>Ki (tc q done) λj=>match get? q j with
    |some x=>A6 S own x.1 (λt h K=>ih (j::done) t h K) t h K
    |none=>False) n
theorem AT(q:List (I×List Nat))(s:List I)(n:Nat)(done:List Nat)(t:T)(h:H)(K:Ex->T->H->Prop):Pr S own q s (n+1) done t h K=(match u7 q done with
 |some j=>(match get? q j with
  |some x=>A6 S own x.1 (λt h K=>Pr S own q s n (j::done) t h K) t h K
  |none=>False)
 |none=>Ki (tc q done) λj=>match get? q j with
  |some x=>A6 S own x.1 (λt h K=>Pr S own q s n (j::done) t h K) t h K
  |none=>False):=rfl
def Ww(K:Ex->T->H->Prop)(e:Ex)(t:T)(h:H):Prop:=match e with
 |.eU _=>False
 |e=>K e t h
def GN:V->V->Prop
 |.nl z,.d (.sl z' [])=>z=z'
 |v,v'=>v=v'
def Vj:List V->List V->Prop
 |[],[]=>True
 |a::r,b::s=>GN a b/\Vj r s
 |_,_=>False
def LO:B->B->Prop
 |.cells cs,.cells cs'=>cs=cs'\/Vj cs cs'
 |b,b'=>b=b'
def lR(t:T):T->Prop
 |[]=>True
 |(i,v)::r=>GN (gs t i) v/\lR t r
def kX:H->H->Prop
 |_,[]=>True
 |[],_::_=>False
 |.lk _ _::_,.no::_=>False
 |_::h,.no::h'=>kX h h'
 |b::h,b'::h'=>LO b b'/\kX h h'
def zV(n0:Nat)(t:T)(h:H):Bool:=
 Nat.ble n0 h.length&&(t.all λp=>(l8 p.2).all λi=>Nat.blt i h.length)&&h.all λb=>(jL b).all λi=>Nat.blt i h.length
@[irreducible] def lx (n0 : Nat) (ih : T → H → (Ex → T → H → Prop) → Prop) (t : T) (h : H) (K : Ex → T → H → Prop) : Prop :=
  ∃(A:Type)(I:A->Prop)(S1:A->T)(S2:A->H)(m:A->Nat)(x:A),
      (I x/\lR t (S1 x)/\kX h (S2 x)/\zV n0 (S1 x) (S2 x)=true)/\∀x,I x->ih (S1 x) (S2 x) λe t h=>match e with
        |.qD=>fl (Uf h) λl=>Up l t h λt h=>∃y,I y/\m y<m x/\lR t (S1 y)/\kX h (S2 y)/\zV n0 (S1 y) (S2 y)=true
        |.ext i=>K (.ext i) t h
        |.ret=>K .ret t h
        |.eU v=>K (.eU v) t h
def PH:V->Bool
 |.os _|.q _ _ _ _|.ov _ _ _=>true
 |_=>false
def PJ:V->Bool
 |.fc _ c=>c.any PH
 |v=>PH v
def Sj:V->Bool
 |.ag c=>c.any PJ
 |v=>PJ v
def Kx:V->Bool
 |.tu c=>c.any Sj
 |v=>Sj v
def Xx:B->Bool
 |.cells cs=>cs.all λx=> !(PJ x)
 |_=>false
def TW:D->Prop
 |.int _ _|.bool _=>True
 |.str s=>s.length<=9223372036854775807
 |_=>False
def Sp:List Nat->List D->T->T
 |p::ps,d::ds,t=>Sp ps ds ((p,.d d)::t)
 |_,_,t=>t
@[irreducible] def TX (n0 : Nat) (iha ihb : Nat → T → H → (Ex → T → H → Prop) → Prop) (g : O) (ps : List Nat) (t : T) (h : H) (K : Ex → T → H → Prop) : Prop :=
  ∃(f:Nat) (caps:List V) (ids:List Nat) (T0:T) (A:Type) (I:Nat→A→Prop) (Hs:A→H) (x0:A) (n1 z:Nat) (xs:List (List D)),
    (gv t g=.fc f caps/\Nat.blt f 1000000=true/\(LD h ids (caps.flatMap lN)=true/\(caps.all λx=> !(PH x))=true/\(ids.all λi=>Xx ((get? h i).getD .no))=true)) /\
    (S (5000000+f) (caps.map (L_ (pos ids))) (ids.map λi=>nG (pos ids) ((get? h i).getD .no)) λo h'=>o=.ret (.d (.sl z xs))/\h'=[]) /\
    (Nat.beq z ps.length=true/\∀r∈xs,r.length=z/\∀d∈r,TW d) /\
    (lR t T0/\(I 0 x0/\kX h (Hs x0))/\(T0.all λp=> !(Kx p.2))=true) /\
    (∀x,(Hs x).length=n1/\zV n0 T0 (Hs x)=true/\(ids.map λj=>get? (Hs x) j)=ids.map λj=>get? h j) /\
    (∀ (i : Nat) (r : List D) (x : A), xs[i]? = some r → I i x → iha n1 (Sp ps r T0) (Hs x) fun e t h => match e with
      |.qD=>ihb h.length t h λe _ h=>(match e with
        |.qD=>∃y,I (i+1) y/\kX h (Hs y)
        |.ext j=>K (.ext j) T0 h
        |.ret=>K .ret T0 h
        |.eU _=>False)
      |_=>False) /\
    ∀x,I xs.length x->K .qD T0 (Hs x)
def wx(n0:Nat)(c:C):T->H->(Ex->T->H->Prop)->Prop:=
 C.rec (motive:=λ_=>Nat->T->H->(Ex->T->H->Prop)->Prop)
  (λ_ t h K=>K .qD t h)
  (λl _ t h K=>rx S own l t h K)
  (λq s _ t h K=>KV (Bw λo=>q9 o.1 t h [] λt h _=>T2 S own h q s t K) (KV (V4 S own q s q.length [] t h K) (Bw λo=>q9 o.1 t h [] λt h _=>Pr S own q s q.length [] t h (Ww K))))
  (λ_ _ iha ihb n0 t h K=>iha n0 t h λe t h=>match e with
   |.qD=>ihb n0 t h K
   |.ext i=>K (.ext i) t h
   |.ret=>K .ret t h
   |.eU v=>K (.eU v) t h)
  (λc _ _ iha ihb n0 t h K=>match gv t c with
   |.d (.bool x)=>sp x (iha n0 t h K) (ihb n0 t h K)
   |_=>False)
  (λid _ ih n0 t h K=>ih n0 t h λe t h=>match e with
   |.qD=>K .qD t h
   |.ext i=>bif Nat.beq i id then K .qD t h else K (.ext i) t h
   |.ret=>K .ret t h
   |.eU v=>K (.eU v) t h)
  (λ_ ih n0 t h K=>lx n0 (ih n0) t h K)
  (λid _ t h K=>K (.ext id) t h)
  (λ_ t h K=>K .ret t h)
  (λ_ _ _ _=>False)
  (λg ps _ _ iha ihb n0 t h K=>TX S n0 iha ihb g ps t h K) c n0
variable(n0:Nat)
theorem TC(g:O)(ps:List Nat)(ca cb:C)(t:T)(h:H)(K:Ex->T->H->Prop):wx S own n0 (.rf g ps ca cb) t h K=TX S n0 (λn=>wx S own n ca) (λn=>wx S own n cb) g ps t h K:=rfl
theorem QD(q:List (I×List Nat))(s:List I)(t:T)(h:H)(K:Ex->T->H->Prop):wx S own n0 (.y_ q s) t h K=KV (Bw λo=>q9 o.1 t h [] λt h _=>T2 S own h q s t K) (KV (V4 S own q s q.length [] t h K) (Bw λo=>q9 o.1 t h [] λt h _=>Pr S own q s q.length [] t h (Ww K))):=rfl
def Y1(ex:List Nat):X->Bool
 |.cf f _=> !(has ex f)
 |.bs _ _ _ _=> !(has ex 10000000)
 |.s3 _ _ _ _ _=>has ex 30000000
 |.ml _ _ _ _ _=>has ex 40000000
 |.mv _|.pk _ _ _|.bd _ _|.ld _ _|.fa _ _|.ia _ _ _|.bin _ _ _|.eq _ _ _ _ _|.un _ _|.cv _ _|.ln _|.ls _|.mn _ _|.mx _ _|.ss _ _ _|.ex _ _|.nc _|.ix _ _|.ja _ _ _ _|.pu _ _|.lm _|.mf _ _=>true
 |_=>false
theorem da(ex:List Nat){q:List (I×List Nat)}{s:List I}{t:T}{h:H}{K:Ex->T->H->Prop}{B:Prop}(hk:Bw λo=>q9 o.1 t h [] λt h _=>T2 S own h q s t K)(_:(q.all λi=>Y1 ex i.1.o||Sq i.1.o||(XG i.1.o&&!has ex 20000000))=true) :
 KV (Bw λo=>q9 o.1 t h [] λt h _=>T2 S own h q s t K) B:=Dn hk
theorem QC(a b:C)(t:T)(h:H)(K:Ex->T->H->Prop):wx S own n0 (.seq a b) t h K=wx S own n0 a t h λe t h=>match e with
 |.qD=>wx S own n0 b t h K
 |.ext i=>K (.ext i) t h
 |.ret=>K .ret t h
 |.eU v=>K (.eU v) t h:=rfl
theorem LK(c:O)(a b:C)(t:T)(h:H)(K:Ex->T->H->Prop):wx S own n0 (.cond c a b) t h K=match gv t c with
 |.d (.bool x)=>sp x (wx S own n0 a t h K) (wx S own n0 b t h K)
 |_=>False:=rfl
theorem GJ(id:Nat)(c:C)(t:T)(h:H)(K:Ex->T->H->Prop):wx S own n0 (.block id c) t h K=wx S own n0 c t h λe t h=>match e with
 |.qD=>K .qD t h
 |.ext i=>bif Nat.beq i id then K .qD t h else K (.ext i) t h
 |.ret=>K .ret t h
 |.eU v=>K (.eU v) t h:=rfl
theorem LJ(c:C)(t:T)(h:H)(K:Ex->T->H->Prop):wx S own n0 (.loop c) t h K=lx n0 (wx S own n0 c) t h K:=rfl
end
inductive RV where
  |s (t:Nat)
  |c (t:Nat) (n:Option Nat)
  deriving Inhabited
def BG(P:Program)(fn:Func):Option (List RV):=
 fn.results.toList.mapM fun
  |.tmp t=>some (.s t)
  |.cell a t=>(vW P t).map (.c a)
def Vp:RV->T->H->(V->Prop)->Prop
 |.s i,t,_,K=>K (gs t i)
 |.c i n,t,h,K=>match gs t i with
  |.p id off=>(match get? h id with
   |some (.cells cs)=>(match n with
    |none=>(match get? cs off with|some v=>K v|none=>False)
    |some n=>fl ((cs.drop off).take n) λcs=>Nat.beq cs.length n=true/\K (.ag cs))
   |_=>False)
  |_=>False
def PK(l:List RV):T->H->(List V->Prop)->Prop:=
 List.rec (motive:=λ_=>T->H->(List V->Prop)->Prop) (λ_ _ K=>K []) (λr _ ih t h K=>Vp r t h λv=>ih t h λvs=>K (v::vs)) l
theorem HE(r:RV)(rs:List RV)(t:T)(h:H)(K:List V->Prop):PK (r::rs) t h K=Vp r t h λv=>PK rs t h λvs=>K (v::vs):=rfl
def Ub:V->V
 |.nl z=>.d (.sl z [])
 |v=>v
def R1:V->V
 |.ag c=>.ag (c.map clean)
 |v=>Ub v
def yS:V->Bool
 |.tu _=>false
 |_=>true
def outs:List V->Out
 |[v]=>.ret v
 |vs=>.ret (.tu vs)
def Y3:B->List Nat
 |.rx _ _ _ row=>row.flatMap Wb
 |_=>[]
def fin(keep:Bool)(n0:Nat)(vs:List V)(t:T)(h:H)(K:Out->H->Prop):Prop:=
 vs.all yS=true/\fl (h.flatMap Y3++(bif keep then[]else vs.flatMap Tg)) λos=>q9 os t h (vs.map R1) λt h vs=>fl (Uf h) λl=>Gi l t h λ_ h=>fl (h.map NN) λh=>
  match n0,vs.flatMap l8 with
  |0,[]=>K (outs vs) []
  |_,l=>Pg (reach h 100 ((List.range n0).flatMap (λi=>jL ((get? h i).getD .no))++l) (List.range n0)) λids=>
   (rI ids&&(ids.all λi=>Nat.blt i h.length&&(jL ((get? h i).getD .no)).all (has ids))&&l.all (has ids))=true∧ids.take n0=List.range n0 ∧
    flb (ids.map λi=>nG (pos ids) ((get? h i).getD .no)) λh'=>K (outs (vs.map (qy (pos ids)))) h'
def FJ:Nat->List V->T
 |_,[]=>[]
 |n,v::vs=>(n,v)::FJ (n+1) vs
def fx(S:Nat->List V->H->(Out->H->Prop)->Prop)(own:Nat->Bool)(keep:Bool)(c:C)(rs:List RV)(vs:List V)(h:H)(K:Out->H->Prop):Prop:=
 wx S own h.length c (FJ 0 vs) h λe t h1=>match e with
  |.qD|.ret=>PK rs t h1 λvs=>fin keep h.length vs t h1 K
  |.ext _=>False
  |.eU v=>fin keep h.length [v] t h1 λo h=>match o with
   |.ret v=>K (.eU v) h
   |.eU _=>False
abbrev KT:=Out->H->Prop
end Go.Vx
