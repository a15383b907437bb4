/- Lemmas. Conditions: none. -/
import Derived.Test.YtjpgfgajkjhonaaGreatDoorQRAB
import Derived.Orders
import Derived.KernelRfl
namespace Go.Vx
inductive V where
  |un
  |ud
  |d (x:D)
  |ag (cs:List V)
  |tu (vs:List V)
  |p (id off:Nat)
  |e (row:List D) (off:Nat)
  |os (id:Nat)
  |q (id z i off:Nat)
  |cl (z:Nat) (rows:List (List D))
  |nl (z:Nat)
  |fc (f:Nat) (caps:List V)
  |mp (id:Nat)
  |ov (id z i:Nat)
  |it (id r:Nat)
  deriving Inhabited
abbrev ME:=(List UInt8×List UInt8)×Option (Option Nat×List (List D))
abbrev It:=List Nat×Option Nat
inductive B where
  |no
  |cells (cs:List V)
  |rows (z:Nat) (rs:List (List D))
  |rx (z:Nat) (rs:List (List D)) (i:Nat) (row:List V)
  |nw
  |mp (es:List (V×V))
  |dm (es:List (D×Bool×List D))
  |di (es:List (D×Bool×List D)) (r:Nat) (left:It)
  |ms (z:Nat) (es:List ME) (out:Option (Nat×V)) (it:Option (Nat×It))
  deriving Inhabited
inductive O where
  |s (t:Nat)
  |k (v:V)
  |g (i:Nat)
  deriving Inhabited
inductive PU where
  |mi (F:Nat)
  |Vl (F:Nat)
  |ta (ty:Nat) (ag:Bool) (zero:V) (ok:Bool)
  |iq (ne:Bool)
  |pq (ne:Bool)
  |fd (off:Nat) (n:Option Nat)
  deriving Inhabited
inductive X where
  |mv (x:O)
  |nil (z:Nat)
  |pk (c a b:O)
  |bx (x:O)
  |al (cs:List V)
  |bd (zero:List V) (parts:List (Nat×Nat×O))
  |bs (z:Nat) (zero:List V) (n:Nat) (parts:List (Nat×O))
  |ld (x:O) (n:Option Nat)
  |st (x v:O) (n:Nat)
  |fa (x:O) (off:Nat)
  |ia (x i:O) (z:Nat)
  |bin (op:BinOp) (x y:O)
  |eq (ne st:Bool) (ks:List Nat) (x y:O)
  |un (op:UnOp) (x:O)
  |cv (k:IntKind) (x:O)
  |ln (x:O)
  |ls (x:O)
  |mn (x y:O)
  |mx (x y:O)
  |s3 (x:O) (lo hi m:Option O) (z:Nat)
  |ss (x:O) (lo hi:Option O)
  |ap (x y:O) (z bytes:Nat)
  |cf (f:Nat) (args:List O)
  |cc (x:O) (args:List O)
  |mf (f:Nat) (caps:List O)
  |ex (x:O) (i:Nat)
  |nc (x:O)
  |nq (ne:Bool) (x:O)
  |ns (z:Nat)
  |fo (x:O) (zs:List D) (z:Nat)
  |ix (x i:O)
  |ja (x i:O) (z n:Nat)
  |mm (k:Nat)
  |ml (x k:O) (ks:List Nat) (zero:V) (ok:Bool)
  |mu (x k v:O) (ks:List Nat)
  |md (x k:O) (ks:List Nat)
  |lm (x:O)
  |pu (f:PU) (x:O)
  |pn (x:O)
  |mk (zs:List D) (z b:Nat) (l c:O)
  |aa (d:D) (m:Nat)
  |la (x:O) (m:Nat)
  |jq (x i:O) (m:Nat)
  |ai (x i:O) (m:Nat)
  |sb (x:O)
  |rg (x:O)
  |nx (x:O)
  |en (x:O)
  |bad
  deriving Inhabited
structure I where
  d:Option Nat
  o:X
  g:Option (Nat×Bool)
  deriving Inhabited
inductive C where
  |skip
  |gz (l:List I)
  |zh (q:List (I×List Nat)) (s:List I)
  |seq (a b:C)
  |cond (c:O) (a b:C)
  |block (id:Nat) (c:C)
  |loop (c:C)
  |exit (id:Nat)
  |ret
  |bad
  |rf (g:O) (ps:List Nat) (ca cb:C)
  deriving Inhabited
abbrev T:=List (Nat×V)
abbrev H:=List B
inductive Ex where
  |p7
  |ext (id:Nat)
  |ret
  |fg (v:V)
inductive Out where
  |ret (v:V)
  |fg (v:V)
noncomputable def gs(t:T)(i:Nat):V:=List.rec (motive:=λ_=>V) .un (λp _ h=>bif Nat.beq p.1 i then p.2 else h) t
theorem Qr(i:Nat):gs [] i=.un:=rfl
theorem gI(p:Nat×V)(r:T)(i:Nat):gs (p::r) i=bif Nat.beq p.1 i then p.2 else gs r i:=rfl
def AE:List (Nat×List D)->Nat->Option (List D)
 |[],_=>none
 |p::r,g=>bif Nat.beq p.1 g then some p.2 else AE r g
def Sm:D->V
 |.pt row off=>.e row off
 |x=>.d x
def Vv:V->V
 |.d (.fc f caps)=>.fc f (caps.map Sm)
 |x=>x
noncomputable def gv(t:T):O->V
 |.g i=>(match AE UF i with
  |some row=>.e row 0
  |none=>.un)
 |.s i=>gs t i
 |.k (.nl z)=>.d (.sl z [])
 |.k v=>v
noncomputable def KL(t:T):O->V
 |.k (.nl z)=>.nl z
 |x=>gv t x
@[irreducible] def PD(p q:Prop):Prop:=p\/q
theorem NB{p q:Prop}(h:p):PD p q:=by unfold PD;grind
theorem uR{p q:Prop}(h:q):PD p q:=by unfold PD;grind
@[irreducible] def KQ(p q:Prop):Prop:=p\/q
theorem xT{p q:Prop}(h:p):KQ p q:=by unfold KQ;grind
theorem zM{p q:Prop}(h:q):KQ p q:=by unfold KQ;grind
theorem RZ{p q:Prop}(h:KQ p q):p\/q:=by unfold KQ at h;exact h
@[irreducible] def S6(p q:Prop):Prop:=p\/q
theorem LG{p q:Prop}(h:p):S6 p q:=by unfold S6;grind
theorem Pj{p q:Prop}(h:S6 p q):p\/q:=by unfold S6 at h;exact h
@[irreducible] def Nj(p q:Prop):Prop:=p\/q
theorem C9{p q:Prop}(h:p):Nj p q:=by unfold Nj;grind
theorem Ln{p q:Prop}(h:q):Nj p q:=by unfold Nj;grind
theorem Qd{p q:Prop}(h:Nj p q):p\/q:=by unfold Nj at h;exact h
@[irreducible] def E9(K:List Nat×Nat->Prop):Prop:=∃o,K o
theorem MN{K:List Nat×Nat->Prop}(h:K ([],0)):E9 K:=by unfold E9;grind
theorem iy(ids:List Nat){K:List Nat×Nat->Prop}(h:K (ids,0)):E9 K:=by unfold E9;grind
theorem gW(n:Nat){K:List Nat×Nat->Prop}(h:K ([],n)):E9 K:=by unfold E9;grind
theorem yt{K:List Nat×Nat->Prop}(h:E9 K):∃o,K o:=by unfold E9 at h;exact h
@[irreducible] def J8(p q:Prop):Prop:=p\/q
theorem xM{p q:Prop}(h:p):J8 p q:=by unfold J8;grind
theorem dG{p q:Prop}(h:q):J8 p q:=by unfold J8;grind
theorem J7{p q:Prop}(h:J8 p q):p\/q:=by unfold J8 at h;exact h
@[irreducible] def eO(p q:Prop):Prop:=p\/q
theorem bu{p q:Prop}(h:p):eO p q:=by unfold eO;grind
theorem bh{p q:Prop}(h:q):eO p q:=by unfold eO;grind
theorem Jj{p q:Prop}(h:eO p q):p\/q:=by unfold eO at h;exact h
def dv:V->V
 |.nl z=>.d (.sl z [])
 |v=>v
def V.cs:V->List V
 |.ag cs=>cs
 |v=>[v]
def kn:IntKind->Nat
 |.i8=>0|.i16=>1|.i32=>2|.i64=>3|.u8=>4|.u16=>5|.u32=>6|.u64=>7
def fA:V->Bool
 |.un|.ud|.ag _|.tu _=>false
 |_=>true
def V.oJ:V->Bool
 |.ag _=>true
 |_=>false
def JL:Nat->V->V->Option Bool
 |0,.d (.int k a),.d (.int h b)=>bif Nat.beq (kn k) (kn h)then some (a==b)else none
 |1,.d (.bool a),.d (.bool b)=>some (a==b)
 |2,.d (.str a),.d (.str b)=>some (a==b)
 |_,_,_=>none
def rH:List Nat->List V->List V->Option Bool
 |[],[],[]=>some true
 |k::ks,x::r,y::s=>match JL k x y with
  |some b=>(match rH ks r s with
   |some e=>some (b&&e)
   |none=>none)
  |none=>none
 |_,_,_=>none
def UK(ks:List Nat)(x y:List V)(K:Bool->Prop):Prop:=
 match rH ks x y with
 |some e=>K e
 |none=>False
def lP:List Nat->V->Bool
 |[0,j],.d (.int k _)=>Nat.beq (kn k) j
 |[1],.d (.bool _)=>true
 |[2],.d (.str _)=>true
 |_,_=>false
def qI(ks:List Nat)(k:List V):List (V×V)->Nat->Option (Option (Nat×V))
 |[],_=>some none
 |e::r,i=>bif lP ks e.1 then(match rH (ks.take 1) k e.1.cs with
  |some b=>bif b then some (some (i,e.2))else qI ks k r (i+1)
  |none=>none)else none
def De:V->Bool
 |.un|.ud|.tu _=>false
 |.ag c=>c.all fA
 |_=>true
def uI:V->Bool
 |.fc _ _|.ag _|.tu _=>false
 |_=>true
def pu:PU->V->Option V
 |.Vl F,.ag cs=>bif !cs.isEmpty&&(cs.all fA&&cs.all uI)then some (.fc F cs)else none
 |.mi F,x=>bif fA x&&uI x then some (.fc F [x])else none
 |.ta ty ag z ok,.fc F caps=>bif Nat.beq F (bif ag then ty+2000000 else ty+3000000) then
  (match ag,caps with
   |true,_=>some (bif ok then .tu [.ag caps,.d (.bool true)]else .ag caps)
   |false,x::_=>some (bif ok then .tu [x,.d (.bool true)]else x)
   |false,[]=>none)
  else bif ok&&(Nat.ble 2000000 F&&(!(Nat.beq F (ty+2000000))&&!(Nat.beq F (ty+3000000))))then some (.tu [z,.d (.bool false)])else none
 |.ta _ _ z ok,.d .ni=>bif ok then some (.tu [z,.d (.bool false)])else none
 |.iq ne,.fc F _=>bif Nat.ble 2000000 F then some (.d (.bool ne))else none
 |.iq ne,.d .ni=>some (.d (.bool (!ne)))
 |.pq ne,.p _ _=>some (.d (.bool ne))
 |.pq ne,.e _ _=>some (.d (.bool ne))
 |.pq ne,.q _ _ _ _=>some (.d (.bool ne))
 |.pq ne,.d .np=>some (.d (.bool (!ne)))
 |.fd off none,.ag cs=>cs[off]?
 |.fd off (some n),.ag cs=>bif Nat.beq ((cs.drop off).take n).length n then some (.ag ((cs.drop off).take n))else none
 |_,_=>none
def NM:Bool×List D->V
 |(true,ds)=>.ag (ds.map .d)
 |(false,d::_)=>.d d
 |(false,[])=>.un
def fz(es:List (D×Bool×List D)):List (V×V):=es.map λp=>(.d p.1,NM p.2)
def KM:Nat->B
 |0=>.mp []
 |1=>.dm []
 |z+2=>.ms z [] none none
def BM(es:List ME):List Nat:=es.filterMap λe=>e.2.bind (·.1)
def Np:Option (Nat×It)->List Nat
 |some (r,_)=>[r]
 |none=>[]
def gh:B->List Nat
 |.di _ r _=>[r]
 |.ms _ es _ it=>BM es++Np it
 |_=>[]
def ES:V->Option (List UInt8×List UInt8)
 |.ag [.d (.str a),.d (.str b)]=>some (a,b)
 |_=>none
def ua(k:List UInt8×List UInt8):V:=.ag [.d (.str k.1),.d (.str k.2)]
def lJ(k:List UInt8×List UInt8)(es:List ME):Option Nat:=es.findIdx? λe=>e.1==k
def eM(i:Nat)(x:Option (Option Nat×List (List D)))(es:List ME):List ME:=es.modify i λe=>(e.1,x)
def chunk{α:Type}(z:Nat):Nat->List α->List (List α)
 |0,_=>[]
 |n+1,l=>l.take z::chunk z n (l.drop z)
def sp:Bool->Prop->Prop->Prop
 |true,p,_=>p
 |false,_,q=>q
def fv(v:V)(K:V->Prop):Prop:=
 match v with
 |.un=>K .un
 |.ud=>K .ud
 |.d (.int k n)=>K (.d (.int k n))
 |.d (.bool b)=>K (.d (.bool b))
 |.d (.str b)=>K (.d (.str b))
 |.d (.sl z b)=>K (.d (.sl z b))
 |.d (.fn f)=>K (.d (.fn f))
 |.d x=>K (.d x)
 |.ag cs=>K (.ag cs)
 |.tu cs=>K (.tu cs)
 |.p i o=>K (.p i o)
 |.e r o=>K (.e r o)
 |.os i=>K (.os i)
 |.q i z j o=>K (.q i z j o)
 |.cl z r=>K (.cl z r)
 |.nl z=>K (.nl z)
 |.fc f c=>K (.fc f c)
 |.mp i=>K (.mp i)
 |.ov i z j=>K (.ov i z j)
 |.it i r=>K (.it i r)
def ub(d:Option Nat)(v:V)(t:T)(K:T->Prop):Prop:=
 match d with
 |some i=>fv v λv=>K ((i,v)::t)
 |none=>K t
def fl{α:Type}(l:List α):(List α->Prop)->Prop:=
 List.rec (motive:=λ_=>(List α->Prop)->Prop) (λK=>K []) (λx _ h K=>h λr=>K (x::r)) l
theorem MS{α:Type}(x:α)(r:List α)(K:List α->Prop):fl (x::r) K=fl r λr=>K (x::r):=rfl
def JD(l:List Nat):Nat->(Nat->Prop)->Prop:=
 List.rec (motive:=λ_=>Nat->(Nat->Prop)->Prop) (λn K=>K n) (λk _ h n K=>bif Nat.beq n k then K k else h n K) l
def iX(n:Nat)(K:Nat->Prop):Prop:=JD [0,1,2,3,4,5,6,7,8,9,10,11,12,13,14,15,16,17,18,19,20,21,22,23,24,25,26,27,28,29,30,31] n K
def SA(v:V)(K:V->Prop):Prop:=
 match v with
 |.p i o=>iX i λi=>K (.p i o)
 |.os i=>iX i λi=>K (.os i)
 |.mp i=>iX i λi=>K (.mp i)
 |.it i r=>iX i λi=>K (.it i r)
 |v=>fv v K
def Qw(l:List V):(List V->Prop)->Prop:=
 List.rec (motive:=λ_=>(List V->Prop)->Prop) (λK=>K []) (λx _ h K=>SA x λx=>h λr=>K (x::r)) l
def fb(b:B)(K:B->Prop):Prop:=
 match b with
 |.cells cs=>Qw cs λcs=>K (.cells cs)
 |.no=>K .no
 |.nw=>K .nw
 |.rows z rs=>K (.rows z rs)
 |.rx z rs i row=>Qw row λrow=>K (.rx z rs i row)
 |.mp es=>K (.mp es)
 |.dm es=>K (.dm es)
 |.di es r l=>K (.di es r l)
 |.ms z es none it=>K (.ms z es none it)
 |.ms z es (some (i,v)) it=>SA v λv=>K (.ms z es (some (i,v)) it)
def flb(l:List B):(List B->Prop)->Prop:=
 List.rec (motive:=λ_=>(List B->Prop)->Prop) (λK=>K []) (λb _ h K=>fb b λb=>h λr=>K (b::r)) l
def BS(l:T):(T->Prop)->Prop:=
 List.rec (motive:=λ_=>(T->Prop)->Prop) (λK=>K []) (λp _ h K=>match p with|(i,v)=>SA v λv=>h λr=>K ((i,v)::r)) l
def Uw(l:List Nat):(List Nat->Prop)->Prop:=
 List.rec (motive:=λ_=>(List Nat->Prop)->Prop) (λK=>K []) (λi _ h K=>iX i λi=>h λr=>K (i::r)) l
def get?{α:Type}:List α->Nat->Option α
 |[],_=>none
 |x::_,0=>some x
 |_::r,n+1=>get? r n
def UC:V->Bool
 |.nl _=>true
 |_=>false
def Qn(h:H):V->Bool
 |.mp id=>(match get? h id with
  |some (.ms _ _ _ _)=>true
  |_=>false)
 |_=>false
def Sl(x:V)(j o:Nat):V:=
 match x with
 |.d (.pt row off)=>bif Nat.beq off 0 then .e row o else .p j o
 |_=>.p j o
def AI(id:Nat)(x:V):V->V
 |.os j=>bif Nat.beq j id then x else .os j
 |.p j o=>bif Nat.beq j id then Sl x j o else .p j o
 |v=>v
def xz(id:Nat)(x:V):V->V
 |.fc f c=>.fc f (c.map (AI id x))
 |v=>AI id x v
def AH(id:Nat)(x:V):V->V
 |.ag cs=>.ag (cs.map (xz id x))
 |v=>xz id x v
def Dc(id:Nat)(x:V):V->V
 |.tu vs=>.tu (vs.map (AH id x))
 |v=>AH id x v
def xy(id:Nat)(x:V)(t:T):T:=t.map λp=>match p with|(i,v)=>(i,Dc id x v)
def XF:V->Option D
 |.d x=>some x
 |_=>none
def qh:List V->Option (List D)
 |[]=>some []
 |x::r=>match XF x,qh r with
  |some a,some b=>some (a::b)
  |_,_=>none
def PX(z:Nat)(rs:List (List D))(i:Nat)(row:List V):B:=
 match qh row with
 |some ds=>.rows z (rs.set i ds)
 |none=>.rx z rs i row
def Kn(id:Nat)(x:V):B->B
 |.rx z rs i row=>PX z rs i (row.map (xz id x))
 |.cells cs=>.cells (cs.map (xz id x))
 |.mp es=>.mp (es.map λp=>(AH id x p.1,AH id x p.2))
 |.ms z es out it=>.ms z es (out.map λp=>(p.1,xz id x p.2)) it
 |b=>b
def oI(id:Nat)(x:V)(h:H):H:=(h.map (Kn id x)).set id .no
def uo(id:Nat):V->V
 |.os j=>bif Nat.beq j id then .un else .os j
 |.q j z i o=>bif Nat.beq j id then .un else .q j z i o
 |.ov j z i=>bif Nat.beq j id then .un else .ov j z i
 |v=>v
def rT(id:Nat):V->V
 |.fc f c=>.fc f (c.map (uo id))
 |v=>uo id v
def qX(id:Nat):V->V
 |.ag cs=>.ag (cs.map (rT id))
 |v=>rT id v
def Aw(id:Nat):V->V
 |.tu vs=>.tu (vs.map (qX id))
 |v=>qX id v
def ju(id:Nat)(t:T):T:=t.map λp=>match p with|(i,v)=>(i,Aw id v)
def gV(id:Nat):B->B
 |.rx z rs i row=>.rx z rs i (row.map (rT id))
 |.cells cs=>.cells (cs.map (rT id))
 |.mp es=>.mp (es.map λp=>(qX id p.1,qX id p.2))
 |.ms z es out it=>.ms z es (out.map λp=>(p.1,rT id p.2)) it
 |b=>b
def NQ(id:Nat)(t:T)(h:H)(K:T->H->Prop):Prop:=
 match get? h id with
 |some (.ms z es (some (i,v)) it)=>(match v with
  |.os n=>(match get? h n with
   |some (.rows x rs)=>Nat.beq z x=true/\∀b,BS (ju n t) λt=>flb (((h.map (gV n)).set n .no).set id (.ms z (eM i (some (b,rs)) es) none it)) λh=>K t h
   |_=>False)
  |_=>flb (h.set id (.ms z es none it)) λh=>K t h)
 |_=>K t h
def Fg(l:List Nat):T->H->(T->H->Prop)->Prop:=
 List.rec (motive:=λ_=>T->H->(T->H->Prop)->Prop) (λt h K=>K t h) (λi _ x t h K=>NQ i t h λt h=>x t h K) l
theorem Df(i:Nat)(r:List Nat)(t:T)(h:H)(K:T->H->Prop):Fg (i::r) t h K=NQ i t h λt h=>Fg r t h K:=rfl
def Tw(l:List Nat)(t:T)(h:H)(K:T->H->Prop):Prop:=match l with
 |[]=>K t h
 |i::r=>K t h\/Fg (i::r) t h K
def UB:B->Bool
 |.ms _ _ (some _) _=>true
 |_=>false
def Tm(h:H):List Nat:=(h.zipIdx.filter λp=>UB p.1).map (·.2)
def M1:B->B
 |.di es _ _=>.dm es
 |.ms z es out _=>.ms z es out none
 |b=>b
def W5:V->Option D
 |.d x=>some x
 |.e row off=>some (.pt row off)
 |_=>none
def vp:List V->Option (List D)
 |[]=>some []
 |x::r=>match W5 x,vp r with
  |some a,some b=>some (a::b)
  |_,_=>none
def tv(x:V)(y:T->H->(List D->T->H->Prop)->Prop)(t:T)(h:H)(K:List D->T->H->Prop):Prop:=
 match x with
 |.d x=>y t h λxs t h=>K (x::xs) t h
 |.cl z rs=>y t h λxs t h=>K (.sl z rs::xs) t h
 |.fc f []=>y t h λxs t h=>K (.fn f::xs) t h
 |.fc f (c::r)=>match vp (c::r) with
  |some ds=>y t h λxs t h=>K (.fc f ds::xs) t h
  |none=>False
 |.os id=>
  match get? h id with
  |some (.rows z rs)=>BS (xy id (.d (.sl z rs)) t) λt=>flb (oI id (.d (.sl z rs)) h) λh=>y t h λxs t h=>K (.sl z rs::xs) t h
  |_=>False
 |_=>False
def BP(l:List V):T->H->(List D->T->H->Prop)->Prop:=
 List.rec (motive:=λ_=>T->H->(List D->T->H->Prop)->Prop) (λt h K=>K [] t h) (λx _ y t h K=>tv x y t h K) l
theorem iP(x:V)(r:List V)(t:T)(h:H)(K:List D->T->H->Prop):BP (x::r) t h K=tv x (BP r) t h K:=rfl
def lay{α:Type}:List α->Nat->List α->List α
 |cs,0,[]=>cs
 |_::r,0,v::vs=>v::lay r 0 vs
 |[],_,_=>[]
 |c::r,n+1,vs=>c::lay r n vs
def Ui(id z i off n:Nat)(vs:List V)(t:T)(h:H)(K:T->H->Prop):Prop:=
 BP vs t h λds t h=>(match get? h id with
  |some (.rows x rs)=>∃row,rs[i]?=some row/\(Nat.beq z x=true/\Nat.beq ds.length n=true/\Nat.ble (off+n) z=true)/\fl (h.set id (.rows x (rs.set i (lay row off ds)))) λy=>K t y
  |_=>False)
def stx(id z i off n j:Nat)(h:H)(K:H->Prop):Prop:=
 match get? h id with
 |some (.rows y rs)=>∃row,rs[i]?=some row/\(Nat.beq z y=true/\Nat.beq 1 n=true/\Nat.ble (off+1) z=true)/\Qw (lay (row.map .d) off [V.os j]) λx=>fl (h.set id (.rx y rs i x)) λw=>K w
 |_=>False
def eK:IntKind->Int->Prop
 |.i8,n=> -128<=n/\n<=127
 |.i16,n=> -32768<=n/\n<=32767
 |.i32,n=> -2147483648<=n/\n<=2147483647
 |.i64,n=> -9223372036854775808<=n/\n<=9223372036854775807
 |.u8,n=>0<=n/\n<=255
 |.u16,n=>0<=n/\n<=65535
 |.u32,n=>0<=n/\n<=4294967295
 |.u64,n=>0<=n/\n<=18446744073709551615
def xX(k:IntKind)(n:Int)(K:Int->Prop):Prop:=(eK k n/\K n)\/K (k.wrap n)
def S5:BinOp->Bool
 |.shl|.shr=>true
 |_=>false
def AS(op:BinOp)(k:IntKind)(a b:Int):Int:=
 match op with
 |.shl=>k.wrap (a*2 ^ min b.toNat k.bits)
 |_=>a.fdiv (2 ^ min b.toNat k.bits)
def jG(op:BinOp)(k:IntKind)(a b:Int):Int:=
 match op with
 |.and=>k.wrap (BitVec.ofInt k.bits a &&& BitVec.ofInt k.bits b).toNat
 |.or=>k.wrap (BitVec.ofInt k.bits a ||| BitVec.ofInt k.bits b).toNat
 |.xor=>k.wrap (BitVec.ofInt k.bits a ^^^ BitVec.ofInt k.bits b).toNat
 |_=>k.wrap (BitVec.ofInt k.bits a &&& ~~~BitVec.ofInt k.bits b).toNat
def ij:V->List Nat
 |.p i _=>[i]
 |.q i _ _ _=>[i]
 |.mp i=>[i]
 |.os i=>[i]
 |.ov i _ _=>[i]
 |.it i _=>[i]
 |_=>[]
def kI:V->List Nat
 |.fc _ c=>c.flatMap ij
 |v=>ij v
def jJ:V->List Nat
 |.ag c=>c.flatMap kI
 |v=>kI v
def eT:V->List Nat
 |.tu c=>c.flatMap jJ
 |v=>jJ v
def eZ:B->List Nat
 |.rx _ _ _ row=>row.flatMap kI
 |.cells c=>c.flatMap kI
 |.mp es=>es.flatMap λp=>jJ p.1++jJ p.2
 |.ms _ _ (some (_,v)) _=>kI v
 |_=>[]
def has(l:List Nat)(i:Nat):Bool:=l.any (Nat.beq i)
def reach(h:H):Nat->List Nat->List Nat->List Nat
 |0,_,acc=>acc
 |_,[],acc=>acc
 |n+1,i::r,acc=>bif has acc i then reach h n r acc else reach h n (eZ ((get? h i).getD .no)++r) (acc++[i])
def pos(ids:List Nat)(i:Nat):Nat:=ids.findIdx (Nat.beq i)
def wW(f:Nat->Nat):V->V
 |.p i o=>.p (f i) o
 |.q i z j o=>.q (f i) z j o
 |.mp i=>.mp (f i)
 |.os i=>.os (f i)
 |.ov i z j=>.ov (f i) z j
 |.it i r=>.it (f i) r
 |v=>v
def sk(f:Nat->Nat):V->V
 |.fc g c=>.fc g (c.map (wW f))
 |v=>wW f v
def pK(f:Nat->Nat):V->V
 |.ag c=>.ag (c.map (sk f))
 |v=>sk f v
def gS(f:Nat->Nat):V->V
 |.tu c=>.tu (c.map (pK f))
 |v=>pK f v
def eR(f:Nat->Nat):B->B
 |.rx z rs i row=>.rx z rs i (row.map (sk f))
 |.cells c=>.cells (c.map (sk f))
 |.mp es=>.mp (es.map λp=>(pK f p.1,pK f p.2))
 |.ms z es out it=>.ms z es (out.map λp=>(p.1,sk f p.2)) it
 |b=>b
def back(ids:List Nat)(g:Nat->Nat)(h x:H):H:=
 (h.zipIdx.map λp=>bif has ids p.2 then eR g ((get? x (pos ids p.2)).getD .no)else p.1)++(x.drop ids.length).map (eR g)
def HX(l:List Nat):T->(T->Prop)->Prop:=
 List.rec (motive:=λ_=>T->(T->Prop)->Prop) (λt K=>K t) (λi _ h t K=>BS (ju i t) λt=>h t K) l
theorem ET(i:Nat)(r:List Nat)(t:T)(K:T->Prop):HX (i::r) t K=BS (ju i t) λt=>HX r t K:=rfl
def mP:List Nat->H->H
 |[],h=>h
 |i::r,h=>mP r (h.map (gV i))
def BC:B->Bool
 |.rows _ _=>true
 |.rx _ _ _ _=>true
 |_=>false
def Vo:B->Bool
 |.no=>true
 |_=>false
def rowsOf(h:H)(ids:List Nat):List Nat:=ids.filter λi=>BC ((get? h i).getD .no)
def lu:List Nat->Bool
 |[]=>true
 |i::r=> !(has r i)&&lu r
def FQ(h:H)(ids x:List Nat):Bool:=
 lu ids&&(ids.all λi=>Nat.blt i h.length&&!(Vo ((get? h i).getD .no))&&(eZ ((get? h i).getD .no)).all (has ids))&&x.all (has ids)
def home(n:Nat)(ids:List Nat)(i:Nat):Nat:=(get? ids i).getD (n+i-ids.length)
def clean:V->V
 |.cl z r=>.d (.sl z r)
 |.fc f []=>.d (.fn f)
 |.nl z=>.d (.sl z [])
 |v=>v
def cH:V->V
 |.ag c=>.ag (c.map clean)
 |v=>clean v
def Ch(id:Nat)(x:T->H->List V->(T->H->List V->Prop)->Prop)(t:T)(h:H)(vs:List V)(K:T->H->List V->Prop):Prop:=
 match get? h id with
 |some (.rows z rs)=>BS (xy id (.d (.sl z rs)) t) λt=>flb (oI id (.d (.sl z rs)) h) λh=>Qw (vs.map (Dc id (.d (.sl z rs)))) λvs=>x t h vs K
 |some (.cells cs)=>(match qh cs with
  |some ds=>BS (xy id (.d (.pt ds 0)) t) λt=>flb (oI id (.d (.pt ds 0)) h) λh=>Qw (vs.map (Dc id (.d (.pt ds 0)))) λvs=>x t h vs K
  |none=>False)
 |_=>False
def tq(l:List Nat):T->H->List V->(T->H->List V->Prop)->Prop:=
 List.rec (motive:=λ_=>T->H->List V->(T->H->List V->Prop)->Prop) (λt h vs K=>K t h vs) (λi _ x t h vs K=>Ch i x t h vs K) l
theorem ve(i:Nat)(r:List Nat)(t:T)(h:H)(vs:List V)(K:T->H->List V->Prop):tq (i::r) t h vs K=Ch i (tq r) t h vs K:=rfl
def Uq:V->List Nat
 |.os i=>[i]
 |_=>[]
def Wr:V->List Nat
 |.ag c=>c.flatMap Uq
 |v=>Uq v
def Ur:V->List Nat
 |.tu c=>c.flatMap Wr
 |v=>Wr v
def Mt:V->Option D
 |.d x=>some x
 |.cl z r=>some (.sl z r)
 |.nl z=>some (.sl z [])
 |.fc f []=>some (.fn f)
 |_=>none
def uv(h:H):V->V
 |.os i=>(match get? h i with
  |some (.rows z rs)=>.d (.sl z rs)
  |_=>.un)
 |.p i o=>(match get? h i with
  |some (.cells cs)=>(match cs.mapM Mt with
   |some ds=>.e ds o
   |none=>.un)
  |_=>.un)
 |.q _ _ _ _|.mp _|.ov _ _ _|.it _ _=>.un
 |v=>v
def uw(h:H):V->V
 |.fc f c=>.fc f (c.map (uv h))
 |v=>uv h v
def FD(h:H):V->V
 |.ag c=>.ag (c.map (uw h))
 |v=>uw h v
def rY(h:H):V->V
 |.tu _=>.un
 |v=>FD h v
def KI:D->Bool
 |.sl _ _|.fc _ _|.pt _ _=>false
 |_=>true
def Ph:V->Bool
 |.d x=>KI x
 |_=>false
def Pg:V->Bool
 |.tu c=>c.all Ph
 |v=>Ph v
def yE:B->Bool
 |.rows _ rs=>rs.all λr=>r.all KI
 |_=>false
def GA:V->Bool
 |.os _=>true
 |v=>Ph v
def Di:V->Bool
 |.tu c=>c.all GA
 |v=>GA v
def isRow:B->Bool
 |.rows _ _=>true
 |_=>false
def UU(P:Program)(t:TypeId):Value->Option V
 |.int k n=>some (.d (.int k n))
 |.bool b=>some (.d (.bool b))
 |.string s=>if s.size<=1000000 then some (.d (.str s.data.toList))else none
 |.slice none 0 0=>some (.nl (match P.underlying t with|some (.slice e)=>P.cellsOf e|_=>0))
 |.pointer none=>some (.d .np)
 |.nilFunc=>some (.d .nf)
 |.nilIface=>some (.d .ni)
 |.map none=>some (.d .nm)
 |_=>none
def cX(P:Program)(t:TypeId):Operand->Option O
 |.tmp i=>some (.s i)
 |.const v=>(UU P t v).map .k
 |.func f=>some (.k (.d (.fn f)))
 |.global g=>some (.g g)
def kO(P:Program)(t:TypeId):Option Bool:=
 (P.underlying t).map λ|.struct _|.array _ _=>true|_=>false
def RL(P:Program):Nat->TypeId->List TypeId
 |0,_=>[]
 |n+1,t=>match P.underlying t with
  |some (.struct fs)=>fs.toList.flatMap λf=>RL P n f.type
  |some (.array k e)=>(List.replicate k (RL P n e)).flatten
  |_=>[t]
def rM(P:Program)(t:TypeId):Option (List V):=do
 let i <-P.info? t
 let z <-i.zero
 let ts:=RL P 20 t
 if ts.length=z.cells.size then(z.cells.toList.zip ts).mapM λp=>UU P p.2 p.1 else none
def uj(P:Program)(t:TypeId):Option (Option Nat):=do
 let i <-P.info? t
 if <-kO P t then some (some i.size)else some none
def args(P:Program):List Operand->List TypeId->Option (List O)
 |[],_=>some []
 |x::r,t::ts=>do some ((<-cX P t x)::(<-args P r ts))
 |x::r,[]=>do some ((<-cX P 0 x)::(<-args P r []))
def xJ(f:TypeId->Option (List Nat)):Nat->List Field->Option (List Nat)
 |_,[]=>some []
 |off,fd::r=>if fd.name = "_" || fd.offset != off then none else do
  let a <-f fd.type
  let b <-xJ f (off+a.length) r
  some (a++b)
def flat(P:Program):Nat->TypeId->Option (List Nat)
 |0,_=>none
 |n+1,t=>match P.underlying t with
  |some (.int _)=>some [0]
  |some .bool=>some [1]
  |some .string=>some [2]
  |some (.struct fs)=>if P.stoodInHeld t then none else do
   let a <-xJ (flat P n) 0 fs.toList
   if a.length=P.cellsOf t then some a else none
  |_=>none
def zk(P:Program)(t:TypeId):Option V:=do
 let zs <-rM P t
 let i <-P.info? t
 let z <-i.zero
 match z,zs with
 |.agg _,zs=>some (.ag zs)
 |_,[x]=>some x
 |_,_=>none
def isStr(P:Program)(t:TypeId):Bool:=match P.underlying t with
 |some .string=>true
 |_=>false
def xh(P:Program)(t:TypeId):Option (List Nat):=
 match P.underlying t with
 |some (.int k)=>some [0,kn k]
 |some .bool=>some [1]
 |some .string=>some [2]
 |some (.struct fs)=>match fs.toList with
  |[f,g]=>if(f.name != "_" && g.name != "_" && f.offset==0&&g.offset==1&&isStr P f.type&&isStr P g.type&&flat P 100 t==some [2,2])=true then some [9]else none
  |_=>none
 |_=>none
def V_(P:Program):Nat->TypeId->Bool
 |0,_=>false
 |n+1,t=>match P.underlying t with
  |some (.int _)|some .bool|some .string=>true
  |some (.slice e)=>V_ P n e
  |some (.struct fs)=>fs.toList.all λf=>V_ P n f.type
  |_=>false
def Uu:D->V->Bool
 |.bool a,.d (.bool b)=>a==b
 |.int k a,.d (.int h b)=>Nat.beq (kn k) (kn h)&&a==b
 |_,_=>false
def SB:V->Option D
 |.d x=>some x
 |.nl z=>some (.sl z [])
 |_=>none
def fj (P:Program) (ty:TypeId):Op→Option X
  |.move x|.assign x=>match x with
    |.const (.slice none 0 0)=>some (.nil (match P.underlying ty with|some (.slice e)=>P.cellsOf e|_=>0))
    |x=>(cX P ty x).map .mv
  |.pick c a b=>do some (.pk (<-cX P ty c) (<-cX P ty a) (<-cX P ty b))
  |.box t x=>(cX P t x).map .bx
  |.alloc t=>match P.underlying t with
    |some (.array m _)=>if 64<=m&&m<=1000000 then(do
        let zs <-rM P t
        match zs with
        |.d d::_=>if zs.length=m&&zs.all (Uu d)then some (.aa d m)else none
        |_=>none)else(rM P t).map .al
    |_=>(rM P t).map .al
  |.build t ps=>match P.underlying t with
    |some (.struct fs)=>do
      let pl <-fs.toList.mapM λf=>(P.info? f.type).map λi=>(f.offset,i.size)
      let qs <-ps.toList.mapM λ(i,x)=>do
        let f <-fs[i]?
        let q <-pl[i]?
        some (q.1,q.2,<-cX P f.type x)
      some (.bd (<-rM P t) qs)
    |_=>none
  |.buildSlice t n ps=>match P.underlying t with
    |some (.slice e)=>do
      let qs <-ps.toList.mapM λ(i,x)=>do some (i,<-cX P e x)
      let zs <-rM P e
      if n=0&&qs.isEmpty&&P.cellsOf e != 0&&zs.length=P.cellsOf e then some (.ns (P.cellsOf e)) else
      if P.cellsOf e=0||n*P.cellsOf e>16777216||n=0||zs.length != P.cellsOf e then none else some (.bs (P.cellsOf e) zs n qs)
    |_=>none
  |.load t x=>match P.underlying t with
    |some (.array m e)=>if 64<=m then(if P.cellsOf e=1 then(do
        let k <-uj P t
        let ox <-cX P t x
        if k=some m then some (.la ox m)else none)else none)else do some (.ld (<-cX P t x) (<-uj P t))
    |_=>do some (.ld (<-cX P t x) (<-uj P t))
  |.store t x v=>do some (.st (<-cX P t x) (<-cX P t v) (<-(P.info? t).map (·.size)))
  |.fieldAddr t x f=>match P.underlying t with
    |some (.struct fs)=>do
      let f <-fs[f]?
      if P.cellsOf f.type=0 then none else some (.fa (<-cX P t x) f.offset)
    |_=>none
  |.indexAddr t x i=>match P.underlying t with
    |some (.slice e)=>if P.cellsOf e=0 then none else do some (.ia (<-cX P t x) (<-cX P 0 i) (P.cellsOf e))
    |some (.array m e)=>if P.cellsOf e=0 then none else if 64<=m then(if P.cellsOf e=1 then(do some (.jq (<-cX P t x) (<-cX P 0 i) m))else none)else do some (.ja (<-cX P t x) (<-cX P 0 i) (P.cellsOf e) m)
    |_=>none
  |.makeMap t none=>match P.underlying t with
    |some (.map kt e)=>match xh P kt with
      |some [9]=>match P.underlying e with
        |some (.slice x)=>if P.cellsOf x=0 then none else some (.mm (P.cellsOf x+2))
        |_=>none
      |_=>some (.mm (if V_ P 20 e then 1 else 0))
    |_=>none
  |.range t x=>match P.underlying t with
    |some (.map _ _)=>(cX P t x).map .rg
    |_=>none
  |.next x false=>(cX P 0 x).map .nx
  |.entry x=>(cX P 0 x).map .en
  |.lookup t x k ok=>match P.underlying t with
    |some (.map kt e)=>do some (.ml (<-cX P t x) (<-cX P kt k) (<-xh P kt) (<-zk P e) ok)
    |_=>none
  |.mapUpdate t x k v|.insert t x k v=>match P.underlying t with
    |some (.map kt e)=>do some (.mu (<-cX P t x) (<-cX P kt k) (<-cX P e v) (<-xh P kt))
    |_=>none
  |.binOp op t x y u=>match P.underlying t with
    |some (.int _)=>do some (.bin op (<-cX P t x) (<-cX P u y))
    |some (.slice _)=>match op,y with
      |.eql,.const (.slice none 0 0)=>(cX P t x).map (.nq false)
      |.neq,.const (.slice none 0 0)=>(cX P t x).map (.nq true)
      |_,_=>none
    |some (.interface _)=>match op,y with
      |.eql,.const .nilIface=>(cX P t x).map (.pu (.iq false))
      |.neq,.const .nilIface=>(cX P t x).map (.pu (.iq true))
      |_,_=>none
    |some (.pointer _)=>match op,y with
      |.eql,.const (.pointer none)=>(cX P t x).map (.pu (.pq false))
      |.neq,.const (.pointer none)=>(cX P t x).map (.pu (.pq true))
      |_,_=>none
    |uu=>match op with
      |.add=>match uu with
        |some .string=>do some (.bin op (<-cX P t x) (<-cX P u y))
        |_=>none
      |.eql=>if P.eqGuardType P.depth t then none else do
        let ks <-flat P 100 t
        some (.eq false (<-kO P t) ks (<-cX P t x) (<-cX P t y))
      |.neq=>if P.eqGuardType P.depth t then none else do
        let ks <-flat P 100 t
        some (.eq true (<-kO P t) ks (<-cX P t x) (<-cX P t y))
      |_=>none
  |.unOp op t x=>do some (.un op (<-cX P t x))
  |.convert a b x=>match P.underlying a,P.underlying b with
    |some (.int _),some (.int k)=>(cX P a x).map (.cv k)
    |some (.slice e),some .string=>match P.underlying e with
      |some (.int .u8)=>(cX P a x).map .sb
      |_=>none
    |_,_=>none
  |.slice t x lo hi m=>do
    let o (x:Option Operand):Option (Option O):=match x with|none=>some none|some x=>(cX P 0 x).map some
    match P.underlying t with
    |some (.slice e)=>if P.cellsOf e=0 then none else some (.s3 (<-cX P t x) (<-o lo) (<-o hi) (<-o m) (P.cellsOf e))
    |some .string=>match m with
      |none=>some (.ss (<-cX P t x) (<-o lo) (<-o hi))
      |some _=>none
    |_=>none
  |.nilCheck x=>(cX P 0 x).map .nc
  |.index t x i=>match P.underlying t with
    |some .string=>do some (.ix (<-cX P t x) (<-cX P 0 i))
    |some (.array m e)=>if kO P e=some false&&P.cellsOf e=1 then(do some (.ai (<-cX P t x) (<-cX P 0 i) m))else none
    |_=>none
  |.extract x i=>do some (.ex (<-cX P 0 x) i)
  |.makeInterface t x=>match P.underlying t with
    |some (.interface _)=>none
    |some _=>do
      let ag <-kO P t
      if t<1000000 then some (.pu (if ag then .Vl (t+2000000)else .mi (t+3000000)) (<-cX P t x))else none
    |none=>none
  |.typeAssert x _ t ok=>match P.underlying t with
    |some (.interface _)=>none
    |some _=>do
      let ag <-kO P t
      if t<1000000 then some (.pu (.ta t ag (<-zk P t) ok) (<-cX P t x))else none
    |none=>none
  |.field t x f=>match P.underlying t with
    |some (.struct fs)=>do
      let f <-fs[f]?
      some (.pu (.fd f.offset (<-uj P f.type)) (<-cX P t x))
    |_=>none
  |.panic x=>(cX P 0 x).map .pn
  |.makeSlice t l c=>match P.underlying t with
    |some (.slice e)=>do
      let zs <-rM P e
      let ds <-zs.mapM SB
      let i <-P.info? e
      if zs.length≠P.cellsOf e||P.cellsOf e=0 then none else some (.mk ds (P.cellsOf e) i.bytes (<-cX P 0 l) (<-cX P 0 c))
    |_=>none
  |.makeFunc (.func f) first caps=>if f<1000000 then(if first.size=0 then(args P caps.toList []).map (.mf f)else if caps.size=0 then(args P first.toList []).map (.mf (f+1000000))else none)else none
  |.call c=>match c.callee with
    |.value (.func f)=>if f<5000000 then(args P c.args.toList c.argTypes.toList).map (.cf f)else none
    |.value x=>do some (.cc (<-cX P 0 x) (<-args P c.args.toList c.argTypes.toList))
    |.builtin .len=>match c.args.toList,c.argTypes.toList with
      |[x],[u]=>match P.underlying u with
        |some (.slice _)=>(cX P u x).map .ln
        |some (.map _ _)=>(cX P u x).map .lm
        |some .string=>(cX P u x).map .ls
        |_=>none
      |_,_=>none
    |.builtin .clear=>match c.args.toList,c.argTypes.toList with
      |[x],[t]=>match P.underlying t with
        |some (.slice e)=>do
          let zs <-rM P e
          let ds <-zs.mapM SB
          if zs.length≠P.cellsOf e||P.cellsOf e=0 then none else some (.fo (<-cX P t x) ds (P.cellsOf e))
        |_=>none
      |_,_=>none
    |.builtin .delete=>match c.args.toList,c.argTypes.toList with
      |[x,k],[t,_]=>match P.underlying t with
        |some (.map kt _)=>do some (.md (<-cX P t x) (<-cX P kt k) (<-xh P kt))
        |_=>none
      |_,_=>none
    |.builtin .min=>match c.args.toList with
      |[x,y]=>do some (.mn (<-cX P 0 x) (<-cX P 0 y))
      |_=>none
    |.builtin .max=>match c.args.toList with
      |[x,y]=>do some (.mx (<-cX P 0 x) (<-cX P 0 y))
      |_=>none
    |.builtin .append=>match c.args.toList,c.argTypes.toList with
      |[x,y],[t,u]=>match P.underlying t,P.underlying u with
        |some (.slice e),some (.slice _)=>do
          let zs <-rM P e
          if zs.length≠P.cellsOf e||P.cellsOf e=0 then none else some (.ap (<-cX P t x) (<-cX P u y) (P.cellsOf e) (<-(P.info? e).map (·.bytes)))
        |_,_=>none
      |_,_=>none
    |_=>none
  |_=>none
def oY(P:Program)(n:Nat)(ops:Array Oper)(o:Oper):Option I:=do
 let x:=(fj P o.type o.op).getD .bad
 if !((o.dst.getD 0).blt n)then none else
 match o.guard with
 |none=>some ⟨o.dst,x,none⟩
 |some (j,w)=>some ⟨o.dst,x,some (<-(ops[j]?).bind (·.dst),w)⟩
def pD(o:Oper):List Nat:=(o.after.toList.filter λe=>Region.binds .any e).map (·.on)
def dd:List Nat->List Nat
 |[]=>[]
 |i::l=>bif has l i then dd l else i::dd l
def B9(ds:List (List Nat)):List (List Nat):=
 ds.foldl (λacc d=>acc++[dd (d++d.flatMap λi=>(acc[i]?).getD [])]) []
def lS:Nat->List (List Nat)->Bool
 |_,[]=>true
 |k,b::bs=>(List.range k).all (has b)&&lS (k+1) bs
def cutAt(bs:List (List Nat)):Nat:=((List.range bs.length).find? λm=>lS m (bs.drop m)).getD bs.length
def Xc(m:Nat)(bs:List (List Nat)):Bool:=lS m bs
def okB:Nat->List (List Nat)->Bool
 |_,[]=>true
 |k,b::bs=>b.all (λi=>Nat.blt i k)&&okB (k+1) bs
def qw:O->List Nat
 |.s t=>[t]
 |_=>[]
def KG:Option O->List Nat
 |none=>[]
 |some o=>qw o
def bU:X->List Nat
 |.mv x|.bx x|.ld x _|.fa x _|.un _ x|.cv _ x|.ln x|.ls x|.ex x _|.nc x|.nq _ x|.fo x _ _=>qw x
 |.nil _|.al _|.ns _|.mm _|.bad=>[]
 |.lm x|.pu _ x|.pn x|.la x _|.sb x|.rg x|.nx x|.en x=>qw x
 |.aa _ _=>[]
 |.jq x i _|.ai x i _=>qw x++qw i
 |.mk _ _ _ x y=>qw x++qw y
 |.ml x k _ _ _|.md x k _=>qw x++qw k
 |.mu x k v _=>qw x++qw k++qw v
 |.pk a b c=>qw a++qw b++qw c
 |.bd _ ps=>ps.flatMap λp=>qw p.2.2
 |.bs _ _ _ ps=>ps.flatMap λp=>qw p.2
 |.st x y _|.ia x y _|.ja x y _ _|.bin _ x y|.eq _ _ _ x y|.mn x y|.mx x y|.ap x y _ _|.ix x y=>qw x++qw y
 |.s3 x a b c _=>qw x++KG a++KG b++KG c
 |.ss x a b=>qw x++KG a++KG b
 |.cf _ xs|.mf _ xs=>xs.flatMap qw
 |.cc x xs=>qw x++xs.flatMap qw
def v7:Option (Nat×Bool)->List Nat
 |none=>[]
 |some p=>[p.1]
def pM(q:List (I×List Nat)):Bool:=
  let z:=q.zipIdx
  z.all λa=>z.all λb=>Nat.beq a.2 b.2 ||
    ((match a.1.1.d, b.1.1.d with | some x, some y => !(Nat.beq x y) | _, _ => true) &&
     (match b.1.1.d with|some y=> !(has (bU a.1.1.o++v7 a.1.1.g) y)||has a.1.2 b.2||has b.1.2 a.2|none=>true))
def Nd(o:Oper):Bool:=match o.op with
 |.select _ _=>false
 |_=>true
def Uy(ops:Array Oper)(bs:List (List Nat))(m:Nat):Bool:=
 ops.toList.all Nd&&(List.range m).all λk=>(List.range k).all λi=>has ((bs[k]?).getD []) i||(match ops[i]?,ops[k]? with
  |some x,some y=>x.apart ops y
  |_,_=>false)
def Ae(o:Oper):Bool:=match o.op with
 |.defer _=>false
 |_=>true
def comp(P:Program)(n:Nat):Code->Option C
 |.skip=>some .skip
 |.region _ ops false=>bif ops.toList.all Ae then(ops.toList.mapM (oY P n ops)).map .gz else some .bad
 |.region _ ops true=>bif !ops.toList.all Ae then some .bad else do
  let is <-ops.toList.mapM (oY P n ops)
  let bs:=B9 (ops.toList.map pD)
  let m:=cutAt bs
  let q:=(is.zip bs).take m
  if okB 0 bs&&pM q&&Xc m (bs.drop m)&&Uy ops bs m then some (.zh q (is.drop m))else some .bad
 |.seq a b=>do some (.seq (<-comp P n a) (<-comp P n b))
 |.cond c a b=>do some (.cond (<-cX P 0 c) (<-comp P n a) (<-comp P n b))
 |.block id c=>do some (.block id (<-comp P n c))
 |.loop c=>do some (.loop (<-comp P n c))
 |.exit id=>some (.exit id)
 |.ret=>some .ret
 |.rangeFunc g ps a b=>bif Nat.ble P.funcs.size 5000000&&ps.toList.all (λp=>Nat.blt p n)then(match cX P 0 g with
  |some g=>do some (.rf g ps.toList (<-comp P n a) (<-comp P n b))
  |none=>some .bad)else some .bad
 |_=>some .bad
section
variable (S : Nat → List V → H → (Out → H → Prop) → Prop)   -- what a call comes to
variable (own : Nat → Bool)                                  -- functions that take what is owned
def qA (f:Nat) (vs:List V) (t:T) (h:H) (K:V→T→H→Prop) (KP:V→T→H→Prop):Prop:=
  match vs.flatMap eT with
  |[]=>S f vs [] λout h'=>match h' with
    |[]=>(match out with
      |.ret r=>K r t h
      |.fg r=>KP r t h)
    |b::h'=>flb (h++(b::h').map (eR λi=>h.length+i)) λh1=>match out with
      |.ret r=>K (gS (λi=>h.length+i) r) t h1
      |.fg r=>KP (gS (λi=>h.length+i) r) t h1
  |i::is=>Uw (reach h 100 (i::is) []) λids=>FQ h ids (i::is)=true /\
      S f (vs.map (gS (pos ids))) (ids.map λi=>eR (pos ids) ((get? h i).getD .no)) λout h'=>
        fl (rowsOf h ids) λos=>HX os t λt=>flb (back ids (home h.length ids) (mP os h) h') λh1=>match out with
          |.ret r=>K (gS (home h.length ids) r) t h1
          |.fg r=>KP (gS (home h.length ids) r) t h1
def px(f:Nat)(vs:List V)(t:T)(h:H)(K:V->T->H->Prop)(KP:V->T->H->Prop):Prop:=
 match vs.flatMap eT with
 |[]=>qA S f vs t h K KP
 |_::_=>(∃r,S f (vs.map (rY h)) [] (λout h=>out=.ret r/\h=[])/\Pg r=true/\K r t h) \/
  Nj (fl (vs.flatMap Ur) λids=>tq ids t h vs λt h vs=>qA S f vs t h K KP)
   (∃r ns,(S f (vs.map (rY h)) [] λout x=>out=.ret r/\x=ns)/\(ns.all yE&&Di r)=true/\fl (h++ns) λx=>K (gS (λk=>h.length+k) r) t x)
def bq:X->T->H->(V->T->H->Prop)->(V->T->H->Prop)->Prop
  |.mv x,t,h,K,_=>K (gv t x) t h
  |.nil z,t,h,K,_=>fl (h++[.rows z []]) λh'=>iX h.length λn=>K (.os n) t h'
  |.pk c a b,t,h,K,_=>match gv t c with
    |.d (.bool x)=>sp x (K (gv t a) t h) (K (gv t b) t h)
    |_=>False
  |.bx x,t,h,K,_=>(gv t x).cs.all fA=true/\fl (gv t x).cs λcs=>fl (h++[.cells cs]) λh'=>iX h.length λn=>K (.p n 0) t h'
  |.al cs,t,h,K,_=>fl (h++[.cells cs]) λh'=>iX h.length λn=>K (.p n 0) t h'
  |.bd zero parts,t,h,K,_=>fl (parts.foldl (λcs p=>lay cs p.1 (gv t p.2.2).cs) zero) λcs=>
      (parts.all λp=>Nat.beq (gv t p.2.2).cs.length p.2.1&&Nat.ble (p.1+p.2.1) zero.length&&(gv t p.2.2).cs.all fA)=true/\K (.ag cs) t h
  |.bs z zero n parts,t,h,K,_=>fl (parts.foldl (λcs p=>lay cs (p.1*z) (gv t p.2).cs) (List.replicate n zero).flatten) λcs=>
      (parts.all λp=>Nat.beq (gv t p.2).cs.length z&&Nat.ble (p.1*z+z) (n*z)&&(gv t p.2).cs.all fA)=true /\
        BP cs t h λds t h=>fl (chunk z n ds) λrows=>KQ (fl (h++[.rows z rows]) λh'=>iX h.length λid=>K (.os id) t h') (K (.d (.sl z rows)) t h)
  |.ld x n,t,h,K,_=>match gv t x with
    |.p id off=>(match get? h id with
      |some (.cells cs)=>(match n with
        |none=>(match get? cs off with|some v=>K v t h|none=>False)
        |some n=>fl ((cs.drop off).take n) λcs=>Nat.beq cs.length n=true/\K (.ag cs) t h)
      |_=>False)
    |.e row off=>(match n with
      |none=>(match get? row off with|some v=>K (.d v) t h|none=>False)
      |some n=>fl (((row.drop off).take n).map .d) λcs=>Nat.beq cs.length n=true/\K (.ag cs) t h)
    |.q id z i off=>(match get? h id with
      |some (.rows z' rs)=>Nat.beq z z'=true/\∃row,rs[i]?=some row/\(match n with
        |none=>(match get? row off with|some v=>K (.d v) t h|none=>False)
        |some n=>fl (((row.drop off).take n).map .d) λcs=>Nat.beq cs.length n=true/\K (.ag cs) t h)
      |some (.rx z' _ i' row)=>(Nat.beq z z'=true/\i=i')/\(match n with
        |none=>(match get? row off with|some v=>K v t h|none=>False)
        |some _=>False)
      |_=>False)
    |_=>False
  |.st x v n,t,h,K,_=>match gv t x with
    |.p id off=>(match get? h id with
      |some (.cells cs)=>fl (lay cs off (gv t v).cs) λcs'=>fl (h.set id (.cells cs')) λh'=>
          (Nat.beq (gv t v).cs.length n=true/\Nat.ble (off+n) cs.length=true/\(gv t v).cs.all fA=true)/\K .ud t h'
      |_=>False)
    |.q id z i off=>(match gv t v with
      |.os j=>S6 (stx id z i off n j h λh=>K .ud t h) (Ui id z i off n [.os j] t h λt h=>K .ud t h)
      |v=>Ui id z i off n v.cs t h λt h=>K .ud t h)
    |_=>False
  |.fa x off,t,h,K,_=>match gv t x with
    |.p id o=>iX (o+off) λo=>K (.p id o) t h
    |.e row o=>iX (o+off) λo=>K (.e row o) t h
    |.q id z i o=>iX (o+off) λo=>K (.q id z i o) t h
    |_=>False
  |.ia x i z,t,h,K,_=>match gv t i with
    |.d (.int _ n)=>(match gv t x with
      |.d (.sl z' rows)|.cl z' rows=>∃row,(0<=n/\rows[n.toNat]?=some row/\Nat.beq z' z=true)/\K (.e row 0) t h
      |.os id=>(match get? h id with
        |some (.rows z' rs)=>(0<=n/\n<rs.length/\Nat.beq z' z=true)/\K (.q id z n.toNat 0) t h
        |_=>False)
      |_=>False)
    |_=>False
  |.bin op x y,t,h,K,_=>match gv t x,gv t y with
    |.d (.str a),.d (.str b)=>(match op with
      |.add=>a.length+b.length<=9223372036854775807/\K (.d (.str (a++b))) t h
      |_=>False)
    |.d (.int k a),.d (.int k' b)=>bif S5 op then(0<=b/\K (.d (.int k (AS op k a b))) t h)else bif Nat.beq (kn k) (kn k')then(match op with
      |.add=>xX k (a+b) λn=>K (.d (.int k n)) t h
      |.sub=>xX k (a-b) λn=>K (.d (.int k n)) t h
      |.mul=>xX k (a*b) λn=>K (.d (.int k n)) t h
      |.quo=>b≠0/\xX k (a.tdiv b) λn=>K (.d (.int k n)) t h
      |.rem=>b≠0/\K (.d (.int k (a.tmod b))) t h
      |.and=>K (.d (.int k (jG .and k a b))) t h
      |.or=>K (.d (.int k (jG .or k a b))) t h
      |.xor=>K (.d (.int k (jG .xor k a b))) t h
      |.andNot=>K (.d (.int k (jG .andNot k a b))) t h
      |.eql=>K (.d (.bool (a==b))) t h
      |.neq=>K (.d (.bool (a != b))) t h
      |.lss=>K (.d (.bool (decide (a<b)))) t h
      |.leq=>K (.d (.bool (decide (a<=b)))) t h
      |.gtr=>K (.d (.bool (decide (b<a)))) t h
      |.geq=>K (.d (.bool (decide (b<=a)))) t h
      |_=>False)else False
    |_,_=>False
  |.eq ne st ks x y,t,h,K,_=>((gv t x).oJ=st/\(gv t y).oJ=st)/\UK ks (gv t x).cs (gv t y).cs λe=>K (.d (.bool (bif ne then !e else e))) t h
  |.un op x,t,h,K,_=>match gv t x,op with
    |.d (.bool b),.not=>K (.d (.bool (!b))) t h
    |.d (.int k a),.neg=>xX k (-a) λn=>K (.d (.int k n)) t h
    |_,_=>False
  |.cv k x,t,h,K,_=>match gv t x with
    |.d (.int _ a)=>xX k a λn=>K (.d (.int k n)) t h
    |_=>False
  |.ln x,t,h,K,_=>match dv (gv t x) with
    |.d (.sl _ r)|.cl _ r=>r.length<=9223372036854775807->K (.d (.int .i64 r.length)) t h
    |.os id=>(match get? h id with
      |some (.rows _ r)=>r.length<=9223372036854775807->K (.d (.int .i64 r.length)) t h
      |_=>False)
    |_=>False
  |.ls x,t,h,K,_=>match gv t x with
    |.d (.str s)=>s.length<=9223372036854775807->K (.d (.int .i64 s.length)) t h
    |_=>False
  |.mn x y,t,h,K,_=>match gv t x,gv t y with
    |.d (.int k a),.d (.int _ b)=>K (.d (.int k (min a b))) t h
    |_,_=>False
  |.mx x y,t,h,K,_=>match gv t x,gv t y with
    |.d (.int k a),.d (.int _ b)=>K (.d (.int k (max a b))) t h
    |_,_=>False
  |.s3 x lo hi m z,t,h,K,_=>
    match(match lo with|some lo=>gv t lo|none=>.d (.int .i64 0)),hi,m with
    |.d (.int _ l),none,none=>(match dv (gv t x) with
      |.d (.sl z' r)|.cl z' r=>(0<=l/\l<=r.length/\Nat.beq z' z=true)/\K (.d (.sl z (r.drop l.toNat))) t h
      |.os id=>(match get? h id with
        |some (.rows z' r)=>(0<=l/\l<=r.length/\Nat.beq z' z=true)/\K (.ov id z l.toNat) t h
        |_=>False)
      |_=>False)
    | .d (.int _ l), some hi, none => (match gv t hi with
      |.d (.int _ u)=>(match dv (gv t x) with
        |.d (.sl z' r)|.cl z' r=>(0<=l/\l<=u/\u<=r.length/\Nat.beq z' z=true)/\K (.d (.sl z ((r.take u.toNat).drop l.toNat))) t h
        |.os id=>(match get? h id with
          |some (.rows z' r)=>(0<=l/\l<=u/\u<=r.length/\Nat.beq z' z=true)/\BS (xy id (.d (.sl z r)) t) λt=>flb (oI id (.d (.sl z r)) h) λh=>K (.d (.sl z ((r.take u.toNat).drop l.toNat))) t h
          |_=>False)
        |_=>False)
      |_=>False)
    |.d (.int _ l),some hi,some m=>(match gv t hi,gv t m with
      |.d (.int _ u),.d (.int _ v)=>(match dv (gv t x) with
        |.d (.sl z' r)|.cl z' r=>(0<=l/\l<=u/\u=v/\u<=r.length/\Nat.beq z' z=true)/\K (.cl z ((r.take u.toNat).drop l.toNat)) t h
        |_=>False)
      |_,_=>False)
    |_,_,_=>False
  |.ss x lo hi,t,h,K,_=>
    match(match lo with|some lo=>gv t lo|none=>.d (.int .i64 0)),hi with
    |.d (.int _ l),none=>(match gv t x with
      |.d (.str r)=>(0<=l/\l<=r.length)/\K (.d (.str (r.drop l.toNat))) t h
      |_=>False)
    |.d (.int _ l),some hi=>(match gv t hi with
      |.d (.int _ u)=>(match gv t x with
        |.d (.str r)=>(0<=l/\l<=u/\u<=r.length)/\K (.d (.str ((r.take u.toNat).drop l.toNat))) t h
        |_=>False)
      |_=>False)
    |_,_=>False
  |.ap x y z bytes,t,h,K,_=>match dv (gv t y) with
    |.d (.sl z' ys)|.cl z' ys=>(match KL t x with
      |.os id=>(match get? h id with
        |some (.rows z'' rs)=>(Nat.beq z z''=true/\Nat.beq z z'=true/\rs.length+ys.length<=9223372036854775807/\(rs.length+ys.length)*bytes<=140737488355328) /\
            BS (ju id t) λt=>flb ((h.map (gV id)).set id (.rows z (rs++ys))) λh=>K (.os id) t h
        |_=>False)
      |.nl _=>(Nat.beq z z'=true/\ys.length<=9223372036854775807/\ys.length*bytes<=140737488355328)/\PD (fl (h++[.rows z ys]) λh'=>iX h.length λn=>K (.os n) t h') (K (.d (.sl z ys)) t h)
      |.cl z'' rs=>(Nat.beq z z''=true/\Nat.beq z z'=true/\rs.length+ys.length<=9223372036854775807/\(rs.length+ys.length)*bytes<=140737488355328)/\K (.d (.sl z (rs++ys))) t h
      |_=>False)
    |_=>False
  |.cf f args,t,h,K,KP=>
    fl (args.map λa=>cH (gv t a)) λvs=>bif own f then qA S f vs t h K KP else px S f vs t h K KP
  |.cc x args,t,h,K,KP=>match Vv (gv t x) with
    |.fc f caps=>bif Nat.blt f 1000000 then fl ((args.map λa=>cH (gv t a))++caps) λvs=>px S f vs t h K KP
        else bif Nat.blt f 2000000 then fl (caps++args.map λa=>cH (gv t a)) λvs=>px S (f-1000000) vs t h K KP else False
    |.d (.fn f)=>bif Nat.blt f 5000000 then fl (args.map λa=>cH (gv t a)) λvs=>px S f vs t h K KP else False
    |_=>False
  |.mf f caps,t,h,K,_=>((Nat.blt f 1000000||!caps.isEmpty)&&caps.all λx=>uI (gv t x))=true/\fl (caps.map (gv t)) λcs=>K (.fc f cs) t h
  |.ex x i,t,h,K,_=>match gv t x with
    |.tu vs=>(match get? vs i with|some v=>K v t h|none=>False)
    |_=>False
  |.nc x,t,h,K,_=>match gv t x with
    |.p i o=>K (.p i o) t h
    |.e r o=>K (.e r o) t h
    |.q i z j o=>K (.q i z j o) t h
    |.fc f c=>bif Nat.blt f 2000000 then K (.fc f c) t h else False
    |.d (.fn f)=>K (.d (.fn f)) t h
    |.d (.pt row off)=>K (.e row off) t h
    |_=>False
  |.nq ne x,t,h,K,_=>match gv t x with
    |.d (.sl _ r)|.cl _ r=>(match r with
      |[]=>K (.d (.bool true)) t h/\K (.d (.bool false)) t h
      |_::_=>K (.d (.bool ne)) t h)
    |.os id=>(match get? h id with
      |some (.rows _ r)=>(match r with
        |[]=>K (.d (.bool true)) t h/\K (.d (.bool false)) t h
        |_::_=>K (.d (.bool ne)) t h)
      |_=>False)
    |_=>False
  |.ns z,t,h,K,_=>fl (h++[.rows z []]) λh'=>iX h.length λn=>K (.os n) t h'
  |.fo x zs z,t,h,K,_=>match gv t x with
    |.ov id z' i=>(match get? h id with
      |some (.rows z'' r)=>(Nat.beq z' z=true/\Nat.beq z'' z=true/\Nat.ble i r.length=true)/\fl (h.set id (.rows z (r.take i++List.replicate (r.length-i) zs))) λh=>K (.tu []) t h
      |_=>False)
    |_=>False
  |.ix x i,t,h,K,_=>match gv t x,gv t i with
    |.d (.str s),.d (.int _ n)=>∃b,(0<=n/\s[n.toNat]?=some b)/\K (.d (.int .u8 b.toNat)) t h
    |_,_=>False
  |.ja x i z m,t,h,K,_=>match gv t i with
    |.d (.int _ n)=>(match gv t x with
      |.e row off=>∃sub,(0<=n/\(chunk z m (row.drop off))[n.toNat]?=some sub/\Nat.ble (off+m*z) row.length=true)/\K (.e sub 0) t h
      |.p id off=>(0<=n/\n<m)/\iX (off+n.toNat*z) λo=>K (.p id o) t h
      |_=>False)
    |_=>False
  |.mm pl,t,h,K,_=>fl (h++[KM pl]) λh'=>iX h.length λn=>K (.mp n) t h'
  |.ml x k ks zero ok,t,h,K,_=>match gv t x with
    |.mp id=>(match get? h id with
      |some (.mp es)=>lP ks (gv t k)=true/\∃r,qI ks (gv t k).cs es 0=some r/\(match r with
        |some (_,v)=>(De v=true)/\K (bif ok then .tu [v,.d (.bool true)]else v) t h
        |none=>K (bif ok then .tu [zero,.d (.bool false)]else zero) t h)
      |some (.dm es)=>lP ks (gv t k)=true/\∃r,qI ks (gv t k).cs (fz es) 0=some r/\(match r with
        |some (_,v)=>(De v=true)/\K (bif ok then .tu [v,.d (.bool true)]else v) t h
        |none=>K (bif ok then .tu [zero,.d (.bool false)]else zero) t h)
      |some (.di es _ _)=>lP ks (gv t k)=true/\∃r,qI ks (gv t k).cs (fz es) 0=some r/\(match r with
        |some (_,v)=>(De v=true)/\K (bif ok then .tu [v,.d (.bool true)]else v) t h
        |none=>K (bif ok then .tu [zero,.d (.bool false)]else zero) t h)
      |some (.ms _ _ _ _)=>ok=false/\NQ id t h λt h=>(match get? h id,ES (gv t k) with
        |some (.ms z es none it),some key=>Nat.beq (ks.headD 0) 9=true /\
          ((∃ i b rs, (lJ key es = some i ∧ (es[i]?).map (·.2) = some (some (b, rs))) ∧ fl (h.set id (.ms z (eM i none es) (some (i, .os h.length)) it) ++ [.rows z rs]) fun h' => iX h.length fun n => K (.os n) t h') ∨
           ((lJ key es=none/\UC zero=true)/\fl (h++[.rows z []]) λh'=>iX h.length λn=>K (.os n) t h'))
        |_,_=>False)
      |_=>False)
    |.d .nm=>lP ks (gv t k)=true/\K (bif ok then .tu [zero,.d (.bool false)]else zero) t h
    |_=>False
  |.mu x k v ks,t,h,K,_=>match gv t x with
    |.mp id=>(match get? h id with
      |some (.mp es)=>(De (gv t v)=true/\lP ks (gv t k)=true)/\∃r,qI ks (gv t k).cs es 0=some r/\(match r with
        |some (i,_)=>fl (h.set id (.mp (es.set i (gv t k,gv t v)))) λh=>K .ud t h
        |none=>fl (h.set id (.mp (es++[(gv t k,gv t v)]))) λh=>K .ud t h)
      |some (.dm _)=>(match gv t k with
        |.d kd=>(((gv t v).cs.all fA&&((gv t v).oJ||uI (gv t v)))=true/\lP ks (.d kd)=true)/\BP (gv t v).cs t h λds t' h'=>(match get? h' id with
          |some (.dm es)=>∃r,qI ks [.d kd] (fz es) 0=some r/\(match r with
            |some (i,_)=>fl (h'.set id (.dm (es.set i (kd,(gv t v).oJ,ds)))) λh=>K .ud t' h
            |none=>fl (h'.set id (.dm (es++[(kd,(gv t v).oJ,ds)]))) λh=>K .ud t' h)
          |_=>False)
        |_=>False)
      |some (.ms z es out it)=>(match ES (gv t k),KL t v with
        |some key,.os m=>(match get? h m with
          |some (.rows z' rs)=>(Nat.beq z z'=true/\Nat.beq (ks.headD 0) 9=true) /\
            ((∃ i, (lJ key es = some i ∧ ∀ j v, out = some (j, v) → j = i) ∧ ∀ b, BS (ju m t) fun t => flb (((h.map (gV m)).set m .no).set id (.ms z (eM i (some (b, rs)) es) none it)) fun h => K .ud t h) ∨
             ((lJ key es=none/\out=none/\it=none)/\∀b,BS (ju m t) λt=>flb (((h.map (gV m)).set m .no).set id (.ms z (es++[(key,some (b,rs))]) none none)) λh=>K .ud t h))
          |_=>False)
        |some key,.nl z'=>(Nat.beq z z'=true/\Nat.beq (ks.headD 0) 9=true) /\
            ((∃ i, (lJ key es = some i ∧ ∀ j v, out = some (j, v) → j = i) ∧ fl (h.set id (.ms z (eM i (some (none, [])) es) none it)) fun h => K .ud t h) ∨
             ((lJ key es=none/\out=none/\it=none)/\fl (h.set id (.ms z (es++[(key,some (none,[]))]) none none)) λh=>K .ud t h))
        |_,_=>False)
      |_=>False)
    |_=>False
  |.md x k ks,t,h,K,_=>match gv t x with
    |.mp id=>(match get? h id with
      |some (.mp es)=>lP ks (gv t k)=true/\∃r,qI ks (gv t k).cs es 0=some r/\(match r with
        |some (i,_)=>fl (h.set id (.mp (es.eraseIdx i))) λh=>K (.tu []) t h
        |none=>K (.tu []) t h)
      |some (.dm es)=>lP ks (gv t k)=true/\∃r,qI ks (gv t k).cs (fz es) 0=some r/\(match r with
        |some (i,_)=>fl (h.set id (.dm (es.eraseIdx i))) λh=>K (.tu []) t h
        |none=>K (.tu []) t h)
      |some (.ms z es none none)=>(match ES (gv t k) with
        |some key=>Nat.beq (ks.headD 0) 9=true/\∃r,lJ key es=r/\(match r with
          |some i=>fl (h.set id (.ms z (es.eraseIdx i) none none)) λh=>K (.tu []) t h
          |none=>K (.tu []) t h)
        |none=>False)
      |_=>False)
    |_=>False
  |.lm x,t,h,K,_=>match gv t x with
    |.mp id=>(match get? h id with
      |some (.mp es)=>K (.d (.int .i64 es.length)) t h
      |some (.dm es)=>K (.d (.int .i64 es.length)) t h
      |some (.di es _ _)=>K (.d (.int .i64 es.length)) t h
      |some (.ms _ es _ _)=>K (.d (.int .i64 es.length)) t h
      |_=>False)
    |.d .nm=>K (.d (.int .i64 0)) t h
    |_=>False
  |.rg x,t,h,K,_=>match gv t x with
    |.mp id=>(match get? h id with
      |some (.dm es)=>∀r,fl (h.set id (.di es r (List.range es.length,none))) λh=>iX id λid=>K (.it id r) t h
      |some (.ms _ _ _ none)=>NQ id t h λt h=>(match get? h id with
        |some (.ms z es none none)=>∀r,fl (h.set id (.ms z es none (some (r,List.range es.length,none)))) λh=>iX id λid=>K (.it id r) t h
        |_=>False)
      |_=>False)
    |_=>False
  |.nx x,t,h,K,_=>match gv t x with
    |.it id r=>(match get? h id with
      |some (.di es r' (left,_))=>r=r'/\(left=[]->fl (h.set id (.dm es)) λh=>K (.tu [.d (.bool false)]) t h) /\
          ∀i,i∈left->fl (h.set id (.di es r' (left.erase i,some i))) λh=>K (.tu [.d (.bool true),.un,.un]) t h
      |some (.ms _ _ _ _)=>NQ id t h λt h=>(match get? h id with
        |some (.ms z es none (some (r',left,_)))=>r=r'/\(left=[]->fl (h.set id (.ms z es none none)) λh=>K (.tu [.d (.bool false)]) t h) /\
          ∀i,i∈left->fl (h.set id (.ms z es none (some (r',left.erase i,some i)))) λh=>K (.tu [.d (.bool true),.un,.un]) t h
        |_=>False)
      |_=>False)
    |_=>False
  |.en x,t,h,K,_=>match gv t x with
    |.it id r=>(match get? h id with
      |some (.di es r' (_,some i))=>∃e,(r=r'/\es[i]?=some e)/\K (.tu [.d e.1,NM e.2]) t h
      |some (.ms z es none (some (r',left,some i)))=>∃k b rs,(r=r'/\es[i]?=some (k,some (b,rs)))/\fl (h.set id (.ms z (eM i none es) (some (i,.os h.length)) (some (r',left,some i)))++[.rows z rs]) λh'=>iX h.length λn=>K (.tu [ua k,.os n]) t h'
      |_=>False)
    |_=>False
  |.pu f x,t,h,K,_=>match pu f (gv t x) with
    |some v=>K v t h
    |none=>False
  |.pn x,t,h,_,KP=>match gv t x with
    |.fc F cs=>bif Nat.ble 2000000 F then KP (.fc F cs) t h else False
    |_=>False
  |.mk zs z b l c,t,h,K,_=>match gv t l,gv t c with
    |.d (.int _ l),.d (.int _ c)=>(0<=l/\l<=c/\c*b<=140737488355328/\c<=9223372036854775807)/\fl (h++[.rows z (List.replicate l.toNat zs)]) λh'=>iX h.length λn=>K (.os n) t h'
    |_,_=>False
  |.aa d m,t,h,K,_=>fl (h++[.rows 1 (List.replicate m [d])]) λh'=>iX h.length λn=>K (.q n 1 0 0) t h'
  |.la x m,t,h,K,_=>match gv t x with
    |.q id z i off=>(match get? h id with
      |some (.rows z' rs)=>(Nat.beq z 1&&Nat.beq z' 1&&Nat.beq i 0&&Nat.beq off 0)=true/\∃ds:List D,(rs=(ds.map λd=>[d])/\ds.length=m)/\K (.ag (ds.map .d)) t h
      |_=>False)
    |_=>False
  |.jq x i m,t,h,K,_=>match gv t x,gv t i with
    |.q id z j off,.d (.int _ n)=>(Nat.beq z 1&&Nat.beq j 0&&Nat.beq off 0)=true/\(0<=n/\n<m)/\K (.q id 1 n.toNat 0) t h
    |_,_=>False
  |.ai x i m,t,h,K,_=>match gv t x,gv t i with
    |.ag cs,.d (.int _ n)=>∃v:D,(0<=n/\n<m/\cs[n.toNat]?=some (.d v))/\K (.d v) t h
    |_,_=>False
  |.sb x,t,h,K,_=>match dv (gv t x) with
    |.d (.sl _ r)|.cl _ r=>∃s:List UInt8,(r=s.map λb=>[D.int .u8 b.toNat])/\K (.d (.str s)) t h
    |.os id=>(match get? h id with
      |some (.rows _ r)=>∃s:List UInt8,(r=s.map λb=>[D.int .u8 b.toNat])/\K (.d (.str s)) t h
      |_=>False)
    |_=>False
  |.bad,_,_,_,_=>False
def qx:X->T->H->(V->Prop)->Prop
 |.ln x,t,h,K=>match dv (gv t x) with
  |.d (.sl _ r)|.cl _ r=>K (.d (.int .i64 r.length))
  |.os id=>(match get? h id with
   |some (.rows _ r)=>K (.d (.int .i64 r.length))
   |_=>False)
  |_=>False
 |.ls x,t,_,K=>match gv t x with
  |.d (.str s)=>K (.d (.int .i64 s.length))
  |_=>False
 |.cf f args,t,_,K=>fl (args.map λa=>cH (gv t a)) λvs=>
   ((vs.flatMap eT).isEmpty=true)/\∃r,(S f vs [] λout h=>out=.ret r/\h=[])/\K r
 |.bs z zero n parts,t,_,K=>fl (parts.foldl (λcs p=>lay cs (p.1*z) (gv t p.2).cs) (List.replicate n zero).flatten) λcs=>
   (parts.all λp=>Nat.beq (gv t p.2).cs.length z&&Nat.ble (p.1*z+z) (n*z)&&(gv t p.2).cs.all fA)=true ∧
    BP cs [] [] λds _ _=>fl (chunk z n ds) λrows=>K (.d (.sl z rows))
 |.ap x y z b,t,h,K=>match KL t x with
  |.cl z' r=>bq S own (.ap (.k (.cl z' r)) y z b) t h (λv _ _=>K v) λ_ _ _=>False
  |.nl _=>(match dv (gv t y) with
   |.d (.sl z' ys)|.cl z' ys=>(Nat.beq z z'=true/\ys.length<=9223372036854775807/\ys.length*b<=140737488355328)/\K (.d (.sl z ys))
   |_=>False)
  |_=>False
 |.s3 x lo hi m z,t,h,K=>match gv t x with
  |.os _=>False
  |_=>bq S own (.s3 x lo hi m z) t h (λv _ _=>K v) λ_ _ _=>False
 |.nil _,_,_,_|.ns _,_,_,_|.bx _,_,_,_|.al _,_,_,_|.st _ _ _,_,_,_|.cc _ _,_,_,_|.nq _ _,_,_,_|.fo _ _ _,_,_,_|.mm _,_,_,_|.mu _ _ _ _,_,_,_|.md _ _ _,_,_,_|.pn _,_,_,_|.mk _ _ _ _ _,_,_,_|.rg _,_,_,_|.nx _,_,_,_|.en _,_,_,_|.aa _ _,_,_,_|.la _ _,_,_,_|.jq _ _ _,_,_,_|.ai _ _ _,_,_,_|.sb _,_,_,_=>False
 |.ml x k ks zero ok,t,h,K=>bif Qn h (gv t x)then False else bq S own (.ml x k ks zero ok) t h (λv _ _=>K v) λ_ _ _=>False
 |x,t,h,K=>bq S own x t h (λv _ _=>K v) λ_ _ _=>False
def PB:List (I×List Nat)->Nat
 |[]=>0
 |i::r=>match i.1.o with
  |.al _=>PB r+1
  |.mm _=>PB r+1
  |_=>PB r
structure Lg where
  lr:List (Nat×Nat)
  lw:List (Nat×Nat)
  lk:List (Nat×Nat)
  fr:List Nat
  p:Nat
  ct:List (Nat×B)
def Lg.put(g:Lg)(rd:List Nat)(ws:List (Nat×B))(kl fr:List Nat):Lg:=
 ⟨rd.map (λi=>(i,g.p))++g.lr,ws.map (λw=>(w.1,g.p))++g.lw,kl.map (λi=>(i,g.p))++g.lk,fr,g.p+1,ws++g.ct⟩
def ky(l:List (Nat×Nat))(h ids:List Nat):Bool:=l.all λe=>has h e.2||!(has ids e.1)
def okW(g:Lg)(h wr:List Nat):Bool:=ky g.lw h wr&&ky g.lr h wr
noncomputable def X4:X->T->List Nat
 |.ld x _,t|.ml x _ _ _ _,t|.lm x,t=>ij (gv t x)
 |.ia x _ _,t|.ln x,t=>Uq (gv t x)
 |_,_=>[]
def yl(rd:List Nat)(a:H):H:=a.zipIdx.map λp=>bif has rd p.2 then p.1 else .no
def gm(ids nf:List Nat)(k:Nat):Nat:=(get? ids k).getD ((get? nf (k-ids.length)).getD 0)
def gt(k:Nat)(nf:List Nat)(i:Nat):Nat:=(get? nf (i-k)).getD 0
def MA:B->Bool
 |.nw=>true
 |_=>false
def free(kl l:List Nat):Bool:=l.all λi=> !(has kl i)
def Wn(t:T)(kl:List Nat):Bool:=kl.isEmpty||t.all λp=>free kl (eT p.2)
def jb(h:H)(ids kl:List Nat):Bool:=kl.isEmpty||h.zipIdx.all λp=>has ids p.2||free kl (eZ p.1)
def XH(l:List (Nat×B))(ids kl:List Nat):Bool:=kl.isEmpty||l.all λw=>has ids w.1||free kl (eZ w.2)
def Rr(x:X)(i:I×List Nat)(h:T->H->Lg->(T->H->Prop)->Prop)(t:T)(a:H)(g:Lg)(K:T->H->Prop):Prop:=
 fl (X4 x t) λrd=>ky g.lw i.2 rd=true/\qx S own x t (yl rd a) λv=>ky g.lk i.2 (eT v)=true/\ub i.1.d v t λt=>h t a (g.put rd [] [] g.fr) K
def S8 (x:X) (i:I×List Nat) (ih:T→H→Lg→(T→H→Prop)→Prop) (t:T) (a:H) (g:Lg) (K:T→H→Prop):Prop:=
  match i.1.g with
      |none=>Rr S own x i ih t a g K
      | some (j, w) => (match gs t j with
        | .d (.bool b) => sp b
            (bif w then Rr S own x i ih ((j,.d (.bool true))::t) a g K
              else ub i.1.d .ud ((j,.d (.bool true))::t) λt=>ih t a (g.put [] [] [] g.fr) K)
            (bif w then ub i.1.d .ud ((j,.d (.bool false))::t) λt=>ih t a (g.put [] [] [] g.fr) K
              else Rr S own x i ih ((j,.d (.bool false))::t) a g K)
        |.ud=>ub i.1.d .ud t λt=>ih t a (g.put [] [] [] g.fr) K
        |_=>False)
def kZ (lo:Nat) (h0:H) (f:Nat) (args:List O) (i:I×List Nat) (ih:T→H→Lg→(T→H→Prop)→Prop) (t:T) (a:H) (g:Lg) (K:T→H→Prop):Prop:=
  match i.1.g with
  | none => own f = false ∧ fl (args.map fun x => cH (gv t x)) fun vs => fl (reach a 100 (vs.flatMap eT) []) fun ids => (FQ a ids (vs.flatMap eT) && (vs.flatMap Ur).isEmpty) = true ∧
      fl (ids.map fun i => eR (pos ids) ((get? a i).getD .no)) fun bl => ∃ (r : V) (ns : List B), (S f (vs.map (gS (pos ids))) bl fun out h' => out = .ret r ∧ h' = bl ++ ns) ∧
        fl (g.fr.take ns.length) fun nf => fl (rowsOf a ids) fun kl => fl (nf.zip (ns.map (eR (gm ids nf)))) fun ws =>
          ((Nat.beq nf.length ns.length && (!(ids.isEmpty && ns.isEmpty)) && nf.all (fun i => Nat.ble lo i && MA ((get? a i).getD .no)) && lu nf) = true ∧ (ky g.lw i.2 ids && okW g i.2 nf && ky g.lk i.2 (eT (gS (gm ids nf) r) ++ ws.flatMap fun w => eZ w.2)) = true ∧
            (Wn t kl&&jb h0 ids kl&&XH g.ct ids kl)=true) /\
          fl (ws.foldl (λa w=>a.set w.1 w.2) a) λa=>ub i.1.d (gS (gm ids nf) r) t λt=>ih t a (g.put ids ws kl (g.fr.drop ns.length)) K
  |some _=>False
def VW(h:Nat)(f:Nat)(args:List O)(i:I×List Nat)(y:T->H->Lg->(T->H->Prop)->Prop)(t:T)(a:H)(g:Lg)(K:T->H->Prop):Prop:=
 match i.1.g with
 |none=>fl (args.map λx=>cH (gv t x)) λvs=>fl (vs.flatMap eT) λrd=>(own f=false/\vs.flatMap eT≠[])/\∃(r:V)(ns:List B),(S f (vs.map (rY a)) [] λout z=>out=.ret r/\z=ns) /\
  fl (g.fr.take ns.length) λnf=>fl (nf.zip ns) λws=>
   ((Nat.beq nf.length ns.length&&nf.all (λi=>Nat.ble h i&&MA ((get? a i).getD .no))&&lu nf&&ns.all yE&&Di r)=true/\(ky g.lw i.2 rd&&okW g i.2 nf&&ky g.lk i.2 (eT (gS (λk=>(get? nf k).getD 0) r)))=true) /\
   fl (ws.foldl (λa w=>a.set w.1 w.2) a) λa=>ub i.1.d (gS (λk=>(get? nf k).getD 0) r) t λt=>y t a (g.put rd ws [] (g.fr.drop ns.length)) K
 |some _=>False
def Up (lo:Nat) (f:Nat) (args:List O) (i:I×List Nat) (ih:T→H→Lg→(T→H→Prop)→Prop) (t:T) (a:H) (g:Lg) (K:T→H→Prop):Prop:=
  match i.1.g with
  |none=>fl (args.map λx=>cH (gv t x)) λvs=>fl (vs.flatMap eT) λids=>∃(r:V)(ns:List B),(S f (vs.map (gS (pos ids))) (ids.map λi=>eR (pos ids) ((get? a i).getD .no)) λout h'=>out=.ret r/\h'=List.replicate ids.length .no++ns) /\
      fl (g.fr.take ns.length) fun nf => fl ((ids.map fun i => (i, B.no)) ++ nf.zip (ns.map (eR (gt ids.length nf)))) fun ws =>
        ((lu ids && ids.all (fun i => isRow ((get? a i).getD .no)) && Nat.beq nf.length ns.length && nf.all (fun i => Nat.ble lo i && MA ((get? a i).getD .no)) && lu nf && (ns.flatMap eZ ++ eT r).all (fun k => Nat.ble ids.length k)) = true ∧
          (ky g.lw i.2 ids&&okW g i.2 (ids++nf)&&ky g.lk i.2 (eT (gS (gt ids.length nf) r)++ws.flatMap λw=>eZ w.2))=true) /\
        fl (ws.foldl (λa w=>a.set w.1 w.2) a) λa=>ub i.1.d (gS (gt ids.length nf) r) t λt=>ih t a (g.put ids ws [] (g.fr.drop ns.length)) K
  |some _=>False
def NV(lo:Nat)(h0:H)(i:I×List Nat)(ih:T->H->Lg->(T->H->Prop)->Prop)(t:T)(a:H)(g:Lg)(K:T->H->Prop):Prop:=
 match i.1.o with
  |.al cs=>(match i.1.g,i.1.d,g.fr with
   |none,some d,id::fr=>(match get? a id with
    |some .nw=>(Nat.ble lo id&&okW g i.2 [id]&&ky g.lk i.2 (id::eZ (.cells cs)))=true/\fl (a.set id (.cells cs)) λa=>ih ((d,.p id 0)::t) a (g.put [] [(id,.cells cs)] [] fr) K
    |_=>False)
   |_,_,_=>False)
  |.mm pl=>(match i.1.g,i.1.d,g.fr with
   |none,some d,id::fr=>(match get? a id with
    |some .nw=>(Nat.ble lo id&&okW g i.2 [id]&&ky g.lk i.2 [id])=true/\fl (a.set id (KM pl)) λa=>ih ((d,.mp id)::t) a (g.put [] [(id,KM pl)] [] fr) K
    |_=>False)
   |_,_,_=>False)
  |.st x v n=>(match i.1.g,i.1.d,gv t x with
   |none,none,.p id off=>(match get? a id with
    |some (.cells cs)=>fl (lay cs off (gv t v).cs) λcs'=>((Nat.beq (gv t v).cs.length n=true/\Nat.ble (off+n) cs.length=true/\(gv t v).cs.all fA=true)/\(okW g i.2 [id]&&ky g.lk i.2 (eZ (.cells cs')))=true) /\
     fl (a.set id (.cells cs')) λa=>ih t a (g.put [] [(id,.cells cs')] [] g.fr) K
    |_=>False)
   |_,_,_=>False)
  |.bs z zero n parts=>KQ (match i.1.g,i.1.d,g.fr with
   |none,some d,id::fr=>(match get? a id with
    |some .nw=>fl (parts.foldl (λcs p=>lay cs (p.1*z) (gv t p.2).cs) (List.replicate n zero).flatten) λcs=>
     (parts.all λp=>Nat.beq (gv t p.2).cs.length z&&Nat.ble (p.1*z+z) (n*z)&&(gv t p.2).cs.all fA)=true ∧
      BP cs [] [] λds _ _=>fl (chunk z n ds) λrows=>(Nat.ble lo id&&okW g i.2 [id]&&ky g.lk i.2 [id])=true/\fl (a.set id (.rows z rows)) λa=>ih ((d,.os id)::t) a (g.put [] [(id,.rows z rows)] [] fr) K
    |_=>False)
   |_,_,_=>False) (S8 S own (.bs z zero n parts) i ih t a g K)
  |.cf f args=>eO (S8 S own (.cf f args) i ih t a g K) (eO (kZ S own lo h0 f args i ih t a g K) (VW S own lo f args i ih t a g K\/Up S lo f args i ih t a g K))
  |x=>S8 S own x i ih t a g K
def rq(h:Nat)(x:H)(l:List (I×List Nat)):T->H->Lg->(T->H->Prop)->Prop:=
 List.rec (motive:=λ_=>T->H->Lg->(T->H->Prop)->Prop) (λt a _ K=>K t a) (λi _ y t a g K=>NV S own h x i y t a g K) l
theorem n9(h:Nat)(x:H)(i:I×List Nat)(r:List (I×List Nat))(t:T)(a:H)(g:Lg)(K:T->H->Prop):rq S own h x (i::r) t a g K=NV S own h x i (rq S own h x r) t a g K:=rfl
def Bz(i:I)(ih:T->H->(Ex->T->H->Prop)->Prop)(t:T)(h:H)(K:Ex->T->H->Prop):Prop:=
  match i.g with
    |none=>bq S own i.o t h (λv t h=>ub i.d v t λt=>ih t h K) λv t h=>K (.fg v) t h
    | some (j, w) => match gs t j with
      | .d (.bool b) => sp b
          (bif w then bq S own i.o ((j,.d (.bool true))::t) h (λv t h=>ub i.d v t λt=>ih t h K) λv t h=>K (.fg v) t h
            else ub i.d .ud ((j,.d (.bool true))::t) λt=>ih t h K)
          (bif w then ub i.d .ud ((j,.d (.bool false))::t) λt=>ih t h K
            else bq S own i.o ((j,.d (.bool false))::t) h (λv t h=>ub i.d v t λt=>ih t h K) λv t h=>K (.fg v) t h)
      |.ud=>ub i.d .ud t λt=>ih t h K
      |_=>False
def rx(l:List I):T->H->(Ex->T->H->Prop)->Prop:=
 List.rec (motive:=λ_=>T->H->(Ex->T->H->Prop)->Prop) (λt h K=>K .p7 t h) (λi _ x t h K=>Bz S own i x t h K) l
theorem By(i:I)(r:List I)(t:T)(h:H)(K:Ex->T->H->Prop):rx S own (i::r) t h K=Bz S own i (rx S own r) t h K:=rfl
def Js(l:List Nat)(f:Nat->Prop):Prop:=
 List.rec (motive:=λ_=>Prop) True (λj r h=>List.rec (motive:=λ_=>Prop) (f j) (λ_ _ _=>f j/\h) r) l
theorem uS{f:Nat->Prop}:∀{l:List Nat},Js l f->∀j∈l,f j
 |[],_,j,x=>by grind
 |[i],h,j,x=>by rw[aL.1 x];exact h
 |i::k::r,h,j,x=>by
  rcases af.1 x with rfl|x
  .exact h.1
  .exact uS (l:=k::r) h.2 j x
def sq(q:List (I×List Nat))(done:List Nat):List Nat:=
 (List.range q.length).filter λj=> !(has done j)&&(match get? q j with
  |some x=>x.2.all (has done)
  |none=>false)
noncomputable def U5(q:List (I×List Nat))(s:List I)(n:Nat):List Nat->T->H->(Ex->T->H->Prop)->Prop:=
 Nat.rec (motive:=λ_=>List Nat->T->H->(Ex->T->H->Prop)->Prop) (λ_ t h K=>rx S own s t h K)
  (λ_ ih done t h K=>Js (sq q done) λj=>match get? q j with
   |some x=>Bz S own x.1 (λt h K=>ih (j::done) t h K) t h K
   |none=>False) n
theorem Jr(q:List (I×List Nat))(s:List I)(n:Nat)(done:List Nat)(t:T)(h:H)(K:Ex->T->H->Prop):U5 S own q s (n+1) done t h K=Js (sq q done) λj=>match get? q j with
 |some x=>Bz S own x.1 (λt h K=>U5 S own q s n (j::done) t h K) t h K
 |none=>False:=rfl
def yL:X->Bool
 |.mv _|.nc _|.fa _ _|.ex _ _|.bd _ _=>true
 |_=>false
def Rz:X->Bool
 |.ld _ _=>true
 |_=>false
def Fq:X->Bool
 |.mv _|.ex _ _|.ld _ _|.al _|.bd _ _|.bs _ _ _ _|.s3 _ _ _ _ _=>true
 |_=>false
def Cl(q:List (I×List Nat))(done:List Nat)(j:Nat):Bool:=match get? q j with
 |some x=>(match x.1.g with|none=>true|some _=>false)&&(yL x.1.o||(Rz x.1.o&&(List.range q.length).all λk=>has done k||(Nat.beq k j||(match get? q k with
  |some y=>has y.2 j||Fq y.1.o
  |none=>false))))
 |none=>false
def tz(q:List (I×List Nat))(done:List Nat):Option Nat:=(sq q done).find? (Cl q done)
noncomputable def PE(q:List (I×List Nat))(s:List I)(n:Nat):List Nat->T->H->(Ex->T->H->Prop)->Prop:=
 Nat.rec (motive:=λ_=>List Nat->T->H->(Ex->T->H->Prop)->Prop) (λ_ t h K=>rx S own s t h K)
  (λ_ ih done t h K=>match tz q done with
   |some j=>(match get? q j with
    |some x=>Bz S own x.1 (λt h K=>ih (j::done) t h K) t h K
    |none=>False)
   |none=>Js (sq q done) λj=>match get? q j with
    |some x=>Bz S own x.1 (λt h K=>ih (j::done) t h K) t h K
    |none=>False) n
theorem zT(q:List (I×List Nat))(s:List I)(n:Nat)(done:List Nat)(t:T)(h:H)(K:Ex->T->H->Prop):PE S own q s (n+1) done t h K=(match tz q done with
 |some j=>(match get? q j with
  |some x=>Bz S own x.1 (λt h K=>PE S own q s n (j::done) t h K) t h K
  |none=>False)
 |none=>Js (sq q done) λj=>match get? q j with
  |some x=>Bz S own x.1 (λt h K=>PE S own q s n (j::done) t h K) t h K
  |none=>False):=rfl
def Vg(K:Ex->T->H->Prop)(e:Ex)(t:T)(h:H):Prop:=match e with
 |.fg _=>False
 |e=>K e t h
def FL:V->V->Prop
 |.nl z,.d (.sl h [])=>z=h
 |v,v'=>v=v'
def Uf:List V->List V->Prop
 |[],[]=>True
 |a::r,b::s=>FL a b/\Uf r s
 |_,_=>False
def K0:B->B->Prop
 |.cells cs,.cells h=>cs=h\/Uf cs h
 |b,x=>b=x
def lD(t:T):T->Prop
 |[]=>True
 |(i,v)::r=>FL (gs t i) v/\lD t r
def lE:H->H->Prop
 |_,[]=>True
 |[],_::_=>False
 |_::h,.no::x=>lE h x
 |b::h,y::x=>K0 b y/\lE h x
def yb(n0:Nat)(t:T)(h:H):Bool:=
 Nat.ble n0 h.length&&(t.all λp=>(eT p.2).all λi=>Nat.blt i h.length)&&h.all λb=>(eZ b).all λi=>Nat.blt i h.length
@[irreducible] def lx (n0 : Nat) (ih : T → H → (Ex → T → H → Prop) → Prop) (t : T) (h : H) (K : Ex → T → H → Prop) : Prop :=
  ∃(A:Type)(I:A->Prop)(S1:A->T)(S2:A->H)(m:A->Nat)(x:A),
      (I x/\lD t (S1 x)/\lE h (S2 x)/\yb n0 (S1 x) (S2 x)=true)/\∀x,I x->ih (S1 x) (S2 x) λe t h=>match e with
        |.p7=>fl (Tm h) λl=>Tw l t h λt h=>∃y,I y/\m y<m x/\lD t (S1 y)/\lE h (S2 y)/\yb n0 (S1 y) (S2 y)=true
        |.ext i=>K (.ext i) t h
        |.ret=>K .ret t h
        |.fg v=>K (.fg v) t h
def NS:V->Bool
 |.os _|.q _ _ _ _|.ov _ _ _=>true
 |_=>false
def NT:V->Bool
 |.fc _ c=>c.any NS
 |v=>NS v
def Rq:V->Bool
 |.ag c=>c.any NT
 |v=>NT v
def KH:V->Bool
 |.tu c=>c.any Rq
 |v=>Rq v
def Wq:B->Bool
 |.cells cs=>cs.all λx=> !(NT x)
 |_=>false
def S7:D->Prop
 |.int _ _|.bool _=>True
 |.str s=>s.length<=9223372036854775807
 |_=>False
def Ry:List Nat->List D->T->T
 |p::ps,d::ds,t=>Ry ps ds ((p,.d d)::t)
 |_,_,t=>t
@[irreducible] def Sb (n0 : Nat) (iha ihb : Nat → T → H → (Ex → T → H → Prop) → Prop) (g : O) (ps : List Nat) (t : T) (h : H) (K : Ex → T → H → Prop) : Prop :=
  ∃(f:Nat) (caps:List V) (ids:List Nat) (T0:T) (A:Type) (I:Nat→A→Prop) (Hs:A→H) (x0:A) (n1 z:Nat) (xs:List (List D)),
    (gv t g=.fc f caps/\Nat.blt f 1000000=true/\(FQ h ids (caps.flatMap ij)=true/\(caps.all λx=> !(NS x))=true/\(ids.all λi=>Wq ((get? h i).getD .no))=true)) /\
    (S (5000000+f) (caps.map (wW (pos ids))) (ids.map λi=>eR (pos ids) ((get? h i).getD .no)) λo h'=>o=.ret (.d (.sl z xs))/\h'=[]) /\
    (Nat.beq z ps.length=true/\∀r∈xs,r.length=z/\∀d∈r,S7 d) /\
    (lD t T0/\(I 0 x0/\lE h (Hs x0))/\(T0.all λp=> !(KH p.2))=true) /\
    (∀x,(Hs x).length=n1/\yb n0 T0 (Hs x)=true/\(ids.map λj=>get? (Hs x) j)=ids.map λj=>get? h j) /\
    (∀ (i : Nat) (r : List D) (x : A), xs[i]? = some r → I i x → iha n1 (Ry ps r T0) (Hs x) fun e t h => match e with
      |.p7=>ihb h.length t h λe _ h=>(match e with
        |.p7=>∃y,I (i+1) y/\lE h (Hs y)
        |.ext j=>K (.ext j) T0 h
        |.ret=>K .ret T0 h
        |.fg _=>False)
      |_=>False) /\
    ∀x,I xs.length x->K .p7 T0 (Hs x)
def wx(n0:Nat)(c:C):T->H->(Ex->T->H->Prop)->Prop:=
 C.rec (motive:=λ_=>Nat->T->H->(Ex->T->H->Prop)->Prop)
  (λ_ t h K=>K .p7 t h)
  (λl _ t h K=>rx S own l t h K)
  (λq s _ t h K=>J8 (E9 λo=>tq o.1 t h [] λt h _=>fl (h++List.replicate (PB q+o.2) .nw) λh1=>rq S own h.length h1 q t h1 ⟨[],[],[],List.range' h.length (PB q+o.2),0,[]⟩ λt h=>rx S own s t h K) (J8 (U5 S own q s q.length [] t h K) (E9 λo=>tq o.1 t h [] λt h _=>PE S own q s q.length [] t h (Vg K))))
  (λ_ _ iha ihb n0 t h K=>iha n0 t h λe t h=>match e with
   |.p7=>ihb n0 t h K
   |.ext i=>K (.ext i) t h
   |.ret=>K .ret t h
   |.fg v=>K (.fg v) t h)
  (λc _ _ iha ihb n0 t h K=>match gv t c with
   |.d (.bool x)=>sp x (iha n0 t h K) (ihb n0 t h K)
   |_=>False)
  (λid _ ih n0 t h K=>ih n0 t h λe t h=>match e with
   |.p7=>K .p7 t h
   |.ext i=>bif Nat.beq i id then K .p7 t h else K (.ext i) t h
   |.ret=>K .ret t h
   |.fg v=>K (.fg v) t h)
  (λ_ ih n0 t h K=>lx n0 (ih n0) t h K)
  (λid _ t h K=>K (.ext id) t h)
  (λ_ t h K=>K .ret t h)
  (λ_ _ _ _=>False)
  (λg ps _ _ iha ihb n0 t h K=>Sb S n0 iha ihb g ps t h K) c n0
variable(n0:Nat)
theorem SJ(g:O)(ps:List Nat)(ca x:C)(t:T)(h:H)(K:Ex->T->H->Prop):wx S own n0 (.rf g ps ca x) t h K=Sb S n0 (λn=>wx S own n ca) (λn=>wx S own n x) g ps t h K:=rfl
theorem PL(q:List (I×List Nat))(s:List I)(t:T)(h:H)(K:Ex->T->H->Prop):wx S own n0 (.zh q s) t h K=J8 (E9 λo=>tq o.1 t h [] λt h _=>fl (h++List.replicate (PB q+o.2) .nw) λx=>rq S own h.length x q t x ⟨[],[],[],List.range' h.length (PB q+o.2),0,[]⟩ λt h=>rx S own s t h K) (J8 (U5 S own q s q.length [] t h K) (E9 λo=>tq o.1 t h [] λt h _=>PE S own q s q.length [] t h (Vg K))):=rfl
theorem PK(a b:C)(t:T)(h:H)(K:Ex->T->H->Prop):wx S own n0 (.seq a b) t h K=wx S own n0 a t h λe t h=>match e with
 |.p7=>wx S own n0 b t h K
 |.ext i=>K (.ext i) t h
 |.ret=>K .ret t h
 |.fg v=>K (.fg v) t h:=rfl
theorem KV(c:O)(a b:C)(t:T)(h:H)(K:Ex->T->H->Prop):wx S own n0 (.cond c a b) t h K=match gv t c with
 |.d (.bool x)=>sp x (wx S own n0 a t h K) (wx S own n0 b t h K)
 |_=>False:=rfl
theorem FX(id:Nat)(c:C)(t:T)(h:H)(K:Ex->T->H->Prop):wx S own n0 (.block id c) t h K=wx S own n0 c t h λe t h=>match e with
 |.p7=>K .p7 t h
 |.ext i=>bif Nat.beq i id then K .p7 t h else K (.ext i) t h
 |.ret=>K .ret t h
 |.fg v=>K (.fg v) t h:=rfl
theorem KU(c:C)(t:T)(h:H)(K:Ex->T->H->Prop):wx S own n0 (.loop c) t h K=lx n0 (wx S own n0 c) t h K:=rfl
end
inductive RV where
  |s (t:Nat)
  |c (t:Nat) (n:Option Nat)
  deriving Inhabited
def Ds(P:Program)(fn:Func):Option (List RV):=
 fn.results.toList.mapM fun
  |.tmp t=>some (.s t)
  |.cell a t=>(uj P t).map (.c a)
def Un:RV->T->H->(V->Prop)->Prop
 |.s i,t,_,K=>K (gs t i)
 |.c i n,t,h,K=>match gs t i with
  |.p id off=>(match get? h id with
   |some (.cells cs)=>(match n with
    |none=>(match get? cs off with|some v=>K v|none=>False)
    |some n=>fl ((cs.drop off).take n) λcs=>Nat.beq cs.length n=true/\K (.ag cs))
   |_=>False)
  |_=>False
def NU(l:List RV):T->H->(List V->Prop)->Prop:=
 List.rec (motive:=λ_=>T->H->(List V->Prop)->Prop) (λ_ _ K=>K []) (λr _ x t h K=>Un r t h λv=>x t h λvs=>K (v::vs)) l
theorem GC(r:RV)(rs:List RV)(t:T)(h:H)(K:List V->Prop):NU (r::rs) t h K=Un r t h λv=>NU rs t h λvs=>K (v::vs):=rfl
def Tl:V->V
 |.nl z=>.d (.sl z [])
 |v=>v
def Q5:V->V
 |.ag c=>.ag (c.map clean)
 |v=>Tl v
def we:V->Bool
 |.tu _=>false
 |_=>true
def outs:List V->Out
 |[v]=>.ret v
 |vs=>.ret (.tu vs)
def X6:B->List Nat
 |.rx _ _ _ row=>row.flatMap Uq
 |_=>[]
def fin(keep:Bool)(n0:Nat)(vs:List V)(t:T)(h:H)(K:Out->H->Prop):Prop:=
 vs.all we=true/\fl (h.flatMap X6++(bif keep then[]else vs.flatMap Ur)) λos=>tq os t h (vs.map Q5) λt h vs=>fl (Tm h) λl=>Fg l t h λ_ h=>fl (h.map M1) λh=>
  match n0,vs.flatMap eT with
  |0,[]=>K (outs vs) []
  |_,l=>Uw (reach h 100 ((List.range n0).flatMap (λi=>eZ ((get? h i).getD .no))++l) (List.range n0)) λids=>
   (lu ids&&(ids.all λi=>Nat.blt i h.length&&(eZ ((get? h i).getD .no)).all (has ids))&&l.all (has ids))=true∧ids.take n0=List.range n0 ∧
    flb (ids.map λi=>eR (pos ids) ((get? h i).getD .no)) λh'=>K (outs (vs.map (gS (pos ids)))) h'
def FO:Nat->List V->T
 |_,[]=>[]
 |n,v::vs=>(n,v)::FO (n+1) vs
def fx(S:Nat->List V->H->(Out->H->Prop)->Prop)(own:Nat->Bool)(keep:Bool)(c:C)(rs:List RV)(vs:List V)(h:H)(K:Out->H->Prop):Prop:=
 wx S own h.length c (FO 0 vs) h λe t x=>match e with
  |.p7|.ret=>NU rs t x λvs=>fin keep h.length vs t x K
  |.ext _=>False
  |.fg v=>fin keep h.length [v] t x λo h=>match o with
   |.ret v=>K (.fg v) h
   |.fg _=>False
abbrev KT:=Out->H->Prop
end Go.Vx
