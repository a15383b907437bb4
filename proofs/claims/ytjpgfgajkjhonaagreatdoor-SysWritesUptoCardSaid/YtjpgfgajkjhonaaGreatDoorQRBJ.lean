/- Lemmas. Conditions: none. -/
import Derived.Shelf.SlIter.Collect
import Derived.Shelf.SlSortCmp.NoneTotal
import Derived.Test.YtjpgfgajkjhonaaGreatDoorQRBI
set_option maxHeartbeats 40000000
namespace Go.Proofs.YtjpgfgajkjhonaaGreatDoor
open Go.Vx
set_option maxRecDepth 100000
open Go.RowKit Go.Maps Go.Sort Go.Shelf Go.Proofs
theorem vn:∀a,cmpL a a=0
 |[]=>rfl
 |x::a=>by rw[cmpL,ζ (vo _)];exact vn a
theorem B6(x y:Nat):(x<y/\oL x y = -1)\/(x=y/\oL x y=0)\/(y<x/\oL x y=1):=by
 unfold oL;rcases eB x y with h|h|h
 .exact .inl ⟨h,ζ (by omega)⟩
 .exact .inr (.inl ⟨h,by rw[η (by omega),η (by omega)]⟩)
 .exact .inr (.inr ⟨h,by rw[η (by omega),ζ (by omega)]⟩)
theorem DB(a:List Nat):∀b c,(cmpL a b<0->cmpL b c<0->cmpL a c<0)/\(0<=cmpL a b->0<=cmpL b c->0<=cmpL a c):=by
 induction a with
 |nil=>
  intro b c;cases b with
  |nil=>exact⟨λh=>absurd h (by decide),λ_ h=>h⟩
  |cons y b=>exact⟨λ_ h=>by cases c with|nil=>exact absurd h (by decide:¬(1:Int)<0)|cons _ _=>exact(by decide:(-1:Int)<0),λh=>absurd h (by decide:¬(0:Int)<=-1)⟩
 |cons x a ih=>
  intro b c;cases b with
  |nil=>exact⟨λh=>absurd h (by decide:¬(1:Int)<0),λ_ h=>by cases c with|nil=>exact(by decide:(0:Int)<=1)|cons _ _=>exact absurd h (by decide:¬(0:Int)<=-1)⟩
  |cons y b=>
   cases c with
   |nil=>exact⟨λ_ h=>absurd h (by decide:¬(1:Int)<0),λ_ _=>(by decide:(0:Int)<=1)⟩
   |cons z c=>
    have ih:=ih b c;have e:∀(u v:Nat)(l m:List Nat),cmpL (u::l) (v::m)=if oL u v=0 then cmpL l m else oL u v:=λ_ _ _ _=>rfl;rw[e,e,e];rcases B6 x y with⟨h1,h2⟩|⟨h1,h2⟩|⟨h1,h2⟩<;>rcases B6 y z with⟨k1,k2⟩|⟨k1,k2⟩|⟨k1,k2⟩<;>rcases B6 x z with⟨m1,m2⟩|⟨m1,m2⟩|⟨m1,m2⟩
    all_goals first|(exfalso;omega)|(rw[h2,k2,m2];simp;try omega)|(rw[h2,k2,m2];simp only[if_true];exact ih)
abbrev Gn:={l:List Nat // ee l}
instance:Inhabited Gn:=⟨⟨[3],by unfold ee;decide⟩⟩
def uq(x:Gn):Value:=encStr (bm x.1)
def RW(x y:Gn):Int:=cmpL x.1 y.1
def tG(d:Array Gn):Array (List UInt8):=d.map λx=>bm x.1
theorem VM:SWO (ltOf RW) where
 irrefl x:=by unfold ltOf RW;rw[vn];rfl
 trans x y z h1 h2:=φ ((DB _ _ _).1 (θ h1) (θ h2))
 ntrans x y z h1 h2:=τ λh=>by
  have h1:=ι h1;have h2:=ι h2;have:=(DB x.1 y.1 z.1).2 (by unfold RW at h1;omega) (by unfold RW at h2;omega);unfold RW at h;omega
theorem Sg(w:World)(fO:Nat)(d:Array Gn):putRow uq w fO 0 d=putRow encStr w fO 0 (tG d):=by
 unfold putRow;congr 1
 funext c
 unfold putCells tG;apply Array.ext_getElem?;intro i;simp only[Array.getElem?_mapIdx,Array.size_map];cases c[i]? with
 |none=>rfl
 |some x=>
  simp only[bE];split
  .rename_i h;have hi:i-0<d.size:=by omega
   rw[getElem!_pos d _ hi,getElem!_pos (d.map _) _ (by rw[Array.size_map];exact hi),Array.getElem_map];rfl
  .rfl
theorem Hj{G:Nat->Prop}{w W:World}{ρ:List Value}{h:H}(hR:HR G w ρ h)(hg:gK w W):HR G W [] []:=
 ⟨rfl,λid v x h=>by simp at h,λid _ v _ _ _ _ h=>by simp at h,λb hb=>b9 (hR.gl b hb) hg.size,(λb _ ho=>by
  obtain⟨id,v,x,h,_⟩:=ho;simp at h),hR.sF.mono (λ_ h=>h) λb hb=>hg.iE b (hR.gl b hb)⟩
theorem MJ{G G':Nat->Prop}{W w:World}{ρ:List Value}(hO:Ok ⟨W,G,[],[],[],[]⟩ G' w ρ [])(hd:W.drawn<=w.drawn):∃q os,w=grow (W.drewN q) os:=by
 have h1:w.heap=W.heap++w.heap.extract W.heap.size w.heap.size:=by
  apply Array.ext_getElem?;intro i;rw[Array.getElem?_append];split
  .rename_i hi;refine hO.frame i hi ?_
   rintro ⟨id,v,x,h,_⟩
   simp at h
  .rename_i hi;rw[Array.getElem?_extract];have hs:=hO.size;have hs:W.heap.size<=w.heap.size:=hs
   by_cases h:i<w.heap.size
   .rw[ζ (by omega),show W.heap.size+(i-W.heap.size)=i by omega]
   .rw[η (by omega),kG (by omega)]
 refine⟨w.drawn-W.drawn,w.heap.extract W.heap.size w.heap.size,?_⟩;have h2:=hO.tape;have h3:=hO.os;have h4:=hO.out;have h5:w.drawn=W.drawn+(w.drawn-W.drawn):=by omega
 dsimp only at h2 h3 h4;generalize w.heap.extract W.heap.size w.heap.size=e at h1⊢;generalize w.drawn-W.drawn=q at h5⊢;cases w;dsimp only at h1 h2 h3 h4 h5;subst h1 h2 h3 h4 h5;rfl
theorem CE{G:Nat->Prop}{w:World}{ρ:List Value}(x:Gn):au G w ρ (uq x) (.d (.str (bm x.1))):=by
 have h:=kP x.2.2.2;have h2:=x.2.2.1;refine .o (.c (.k (.d (.str ⟨(bm x.1).toArray⟩ ?_))));show(bm x.1).length<=maxLen;simp only[maxLen];omega
theorem Qh{G:Nat->Prop}{w W:World}{ρ:List Value}{h:H}(hR:HR G w ρ h)(hb:Below w.heap.size w W){fO:Nat}(hblk:w.heap.size<=fO)(size:Nat):CmpLays1 Tryz.prog 47 #[] uq RW fO 0 size W:=by
 intro m os dk hs x y;obtain⟨W2,hW2⟩:∃W2,W2=sortWorld uq W fO 0 m dk os:=⟨_,rfl⟩
 rw[<-hW2];have hg:gK w W2:=by
  have:Below w.heap.size w W2:=by
   rw[hW2];unfold sortWorld;rw[Sg];exact hb.grown (grownBy_sorted _) hb.size (λj hj=>by cases hj;exact hblk)
  exact⟨this.size,this.block,this.os,this.tape,this.output⟩
 have hc:=(Sat.fn (wb x.1 y.1 x.2.1 x.2.2.1 x.2.2.2 y.2.1 y.2.2.1 y.2.2.2) (by decide)).run G W2 [] [uq x,uq y] (Hj hR hg) rfl (λi v hv=>by
  match i,hv with
  |0,hv=>cases hv;exact CE x
  |1,hv=>cases hv;exact CE y)
 refine(Go.Od.Jl hc ?_).mono ?_
 .rintro w' ⟨G',ρ',h',out,hO,he,rfl,rfl⟩
  obtain⟨v,hv,_⟩:=he;cases hv
 .rintro e w' ⟨⟨G',ρ',h',out,hO,he,rfl,rfl⟩,hdr⟩
  obtain⟨v,rfl,hv⟩:=he;exact⟨by rw[au.int hv];rfl,MJ hO hdr⟩
theorem G6{α β:Type}{f:α->β}{ss ms:List β}(h:ss.Perm ms):∀ks:List α,ms=ks.map f->∃l:List α,l.Perm ks/\ss=l.map f:=by
 induction h with
 |nil=>
  intro ks e;cases ks with
  |nil=>exact⟨[],.nil,rfl⟩
  |cons _ _=>cases e
 |cons x h ih=>
  intro ks e;cases ks with
  |nil=>cases e
  |cons k ks=>
   injection e with e1 e2
   obtain⟨l,h1,h2⟩:=ih ks e2;exact⟨k::l,h1.cons k,by rw[e1,h2];rfl⟩
 |swap x y l=>
  intro ks e
  match ks,e with
  |[],e=>cases e
  |[_],e=>cases e
  |a::b::ks,e=>
   injection e with e1 e
   injection e with e2 e3
   exact⟨b::a::ks,.swap a b ks,by rw[e1,e2,e3];rfl⟩
 |trans h1 h2 ih1 ih2=>
  intro ks e;obtain⟨l2,a,b⟩:=ih2 ks e;obtain⟨l1,c,d⟩:=ih1 l2 b;exact⟨l1,c.trans a,d⟩
theorem Ql{s:List UInt8}(h:s.length<=maxLen):keyOf Tryz.prog 9 (encStr s)=some (.string s):=by
 simp[keyOf,Tryz.underlying9,mapKey];exact h
theorem P1(d:Array Gn)(j:Nat)(hj:j<d.size):uq d[j]! = encStr (tG d)[j]! :=by
 unfold tG;rw[getElem!_pos d _ hj,getElem!_pos (d.map _) _ (by rw[Array.size_map];exact hj),Array.getElem_map];rfl
theorem PR{w:World}{a0 a1:Value}{R1:Ending->World->Prop}{R:Value->World->Prop}(h1:Calls Tryz.prog 97 #[a0] w R1)(h2:∀e W,R1 e W->∃v,e=.returned v/\Calls Tryz.prog 98 #[v,a1] W λe' W'=>e'=.returned (.tuple #[])/\R v W') :
  Calls Tryz.prog 64 #[a0,a1] w λe w'=>∃v,e=.returned v/\R v w':=by
 go_enter Tryz.func64,Tryz.ntmps64
 go_wp2_with fail
 refine h1.mono ?_;intro e W hr;obtain⟨v,rfl,hc⟩:=h2 e W hr
 go_wp2_with fail
 refine hc.mono ?_
 rintro e' W' ⟨rfl,hR⟩
 go_wp2
 go_ret
 exact⟨v,rfl,hR⟩
theorem Vy:∀args w,(callFunc 99 args).run Tryz.prog w=.ok (.enter 99 args) w:=enters_of Tryz.func99 zx0 rfl
theorem Vz:∀args w,(callFunc 47 args).run Tryz.prog w=.ok (.enter 47 args) w:=enters_of Tryz.func47 zx0 rfl
theorem P9{G:Nat->Prop}{w W:World}{ρ:List Value}{h:H}(hR:HR G w ρ h)(hb:Below w.heap.size w W)(l:List (List Nat))(hg:∀k∈l,ee k)(hlen:l.length<=1000000000){v:Value}(hrow:W.ownsRow w.heap.size 9 1 v l.length ((l.map bm).map encStr)) :
  Calls Tryz.prog 98 #[v,.func (.func 47) #[] #[]] W λe' W'=>e'=.returned (.tuple #[])/\∃l':List (List Nat),l'.Perm l/\W'.ownsRow w.heap.size 9 1 v l.length ((l'.map bm).map encStr)/\Below w.heap.size w W':=by
 rcases hrow.2 with⟨rfl,hz⟩|⟨gb,cap,cur,rfl,hbase,hgb,r1,r2,r3,r4⟩
 .have hz:l=[]:=bP hz;subst hz;refine(AnyF.slices_SortFunc_none (ρ :=wD) {Fo with} none 0 _ W).mono ?_
  rintro e' W' ⟨rfl,rfl⟩
  exact⟨rfl,[],.refl _,hrow,hb⟩
 .obtain⟨d,hd⟩:∃d:Array Gn,d=(l.pmap Subtype.mk hg).toArray:=⟨_,rfl⟩
  have hds:d.size=l.length:=by rw[hd];simp
  have hdl:d.toList.map (·.1)=l:=by rw[hd];simp[List.map_pmap]
  have hdt:tG d=(l.map bm).toArray:=by
   apply Array.ext';unfold tG;rw[kr,<-hdl];simp
  have hH:Holds uq W gb 0 d:=λj hj=>by
   have:=holds_of_block (ss:=l.map bm) hgb (by rw[aH];simpa using r4) j (by simpa using(hds ▸ hj));rw[P1 d j hj,hdt];exact this
  have hgl:gb<W.heap.size:=(aQ.1 hgb).1;have cS:=Any.slices_SortFunc (ρ :=wD) Fo uq (λ_=>rfl) RW VM 47 #[] gb 0 cap d W Vz (Qh hR hb hbase d.size) hH hgl (by rw[hds];omega);rw[hds]at cS;refine Calls.mono cS ?_
  rintro e' W' ⟨rfl,d',n,os,hp,_,rfl⟩
  have hpl:(d'.toList.map (·.1)).Perm l:=by
   have h3:=hp.2.2;have h4:=hp.1;rw[<-hdl];refine List.Perm.map _ ?_;rw[show d'.extract 0 l.length=d' by rw[<-hds,<-h4];simp,show d.extract 0 l.length=d by rw[<-hds];simp]at h3;exact h3
  have hts:tG d'=((d'.toList.map (·.1)).map bm).toArray:=by
   apply Array.ext';unfold tG;simp
  have hw:sortWorld uq W gb 0 n d' os=grow (putRow encStr (Sort.ahead W n) gb 0 ((d'.toList.map (·.1)).map bm).toArray) os:=by
   unfold sortWorld;rw[Sg,hts]
  rw[hw];have ho:=ownsRow_sorted (ss:=l.map bm) (ts:=(d'.toList.map (·.1)).map bm) (n:=n) (os:=os) (by simpa using hpl.length_eq) hbase hgb (by rw[aH];exact r1) r2 r3;rw[aH]at ho;exact⟨rfl,_,hpl,ho,hb.grown (grownBy_sorted _) hb.size (λj hj=>by cases hj;exact hbase)⟩
theorem Fp {K:KT} (es:List (D×Bool×List D)) (ks:List (List Nat)) (hks:es.map (·.1)=ks.map λk=>D.str (bm k)) (hg:∀k∈ks,ee k) (hnd:(ks.map bm).Nodup) (hlen:ks.length≤1000000000)
    (hk:∀l:List (List Nat),l.Perm ks->K (.ret (.os 2)) [.cells [.mp 1],.dm es,.rows 1 (cW (l.map bm))]) :
    Z1 64 [.fc 99 [.p 0 0],.d (.fn 47)] [.cells [.mp 1],.dm es] K:=by
  refine .inl ⟨by kernel_rfl,λG w ρ vs hR hl hv=>?_⟩
  have hρ :=hR.len
  match ρ,hρ with
  |[v0,v1],_=>
  match vs,hl with
  |[a0,a1],_=>
  obtain⟨b,arr,ty,rfl,hb,hsz,hr⟩:=hR.rep 0 v0 _ rfl rfl
  obtain⟨r,arr',clk,hv1,hb',hsz',hord,hre⟩:=hR.rep 1 v1 _ rfl rfl
  have hc:=hr 0 (.mp 1) rfl
  have hcell:w.cell? ⟨b,0,none⟩=some (.map (some r)):=by
    cases hc with
    |k hc=>
      generalize hav:arr.getD 0 undef=av at hc
      cases hc with
      |mp _ r2 h2=>
        simp only[eY,gE,aE]at h2
        rw[hv1]at h2
        cases h2
        have h0:0<arr.size:=by rw[hsz];exact Nat.one_pos
        rw[dC hb,aN h0]
        rw[aF,aN h0]at hav
        exact κ some hav
  have ha0:a0=.func (.func 99) #[] #[.pointer (some ⟨b,0,none⟩)]:=by
    obtain⟨cs,hfc,hcs,hcr⟩:=(hv 0 _ rfl).Nv
    have h1:=uB hfc (by decide)
    have h2:=hcr 0 _ rfl
    have:cs=#[.pointer (some ⟨b,0,none⟩)]:=by
      cases cs with
      |mk l=>
        match l,hcs with
        |[x],_=>
          have h3:(#[x]:Array Value).getD 0 undef=x:=rfl
          rw[h3]at h2
          cases h2 with
          |p _ _ b2 h4=>
            simp only[gE,aE,Value.pointer.injEq,Addr.mk.injEq,ω]at h4
            rw[h4]
    rw[this]at h1
    exact h1
  subst ha0
  have ha1:a1=.func (.func 47) #[] #[]:=by
    have:=(hv 1 _ rfl).qu
    cases this
    rfl
  subst ha1
  have hks:(fz es).map (·.1)=ks.map λk=>.d (.str (bm k)):=by
    have h1:(fz es).map (·.1)=(es.map (·.1)).map V.d:=by simp[fz]
    rw[h1,hks,bn]
    rfl
  generalize fz es=es1 at *
  have hkl:arr'.toList.map (·.key)=(ks.map bm).map encStr:=by
    rw[bn]
    apply cR
    intro i
    rw[aB,aB]
    have hlk:es1.length=ks.length:=by simpa using κ List.length hks
    cases he:arr'.toList[i]? with
    |none=>
      have:ks[i]?=none:=by
        rw[List.getElem?_eq_none_iff]at he⊢
        simp at he
        omega
      rw[this];rfl
    |some e=>
      have hi:i<es1.length:=by
        have:=(aC.1 he).1
        simp at this
        omega
      have hx:=aA hi
      have h1:=(hre i e es1[i] (by simpa using he) hx).1
      have h2:(es1.map (·.1))[i]?=some es1[i].1:=by rw[aB,hx];rfl
      rw[hks,aB]at h2
      cases hk:ks[i]? with
      |none=>rw[hk]at h2;cases h2
      |some n=>
        rw[hk]at h2
        simp only[bE,aE]at h2
        rw[<-h2]at h1
        obtain⟨s,h3,h4,_⟩:=au.str (.o h1)
        rw[bE,bE,h3]
        show some (Value.string s)=some (encStr (bm n))
        rw[<-h4]
  have hkey:∀e∈arr'.toList,∃k∈ks,e.key=encStr (bm k):=by
    intro e he
    have:e.key∈arr'.toList.map (·.key):=bJ.2 ⟨e,he,rfl⟩
    rw[hkl,bn]at this
    obtain⟨n,hn,h⟩:=bJ.1 this
    exact⟨n,hn,h.symm⟩
  have hsz2:arr'.size=ks.length:=by
    have:=κ List.length hkl
    simpa using this
  let R:Value->Option (DataW Unit×List MemPlace):=λ_=>some (.nil,[])
  have hrd:∀e∈arr'.toList,∃k:List Nat,e.key=encStr (bm k)/\WideElems.rd Tryz.prog 9 R e=some (.string (bm k),.nil):=by
    intro e he
    obtain⟨k,hn,hk⟩:=hkey e he
    have h3:=kP (hg k hn).2.2
    have h4:=(hg k hn).2.1
    refine⟨k,hk,?_⟩
    simp only[WideElems.rd,hk,Ql (s:=bm k) (by simp only[maxLen];omega)]
    rfl
  have hown:w.ownsMap Tryz.prog 9 R r arr'.size (.map ((arr'.toList.map (WideElems.rg Tryz.prog 9 R)).foldr DataW.insert [])):=by
    refine⟨arr',clk,hb',⟨by rw[hsz2];simp only[maxLen];omega,⟨hord.1,?_,?_⟩,λx hx=>?_⟩,aM _,rfl⟩
    · exact hord.2.imp λh=>Nat.ne_of_lt h
    · rw[hkl]
      exact kB.2 (hnd.imp λh e=>h (encStr_inj e))
    · obtain⟨n,_,h⟩:=hrd x hx
      exact⟨_,h⟩
  have hperm:(strKeys (.map ((arr'.toList.map (WideElems.rg Tryz.prog 9 R)).foldr DataW.insert []):DataW Unit)).Perm (ks.map bm):=by
    have h1:(strKeys (.map ((arr'.toList.map (WideElems.rg Tryz.prog 9 R)).foldr DataW.insert []):DataW Unit)).Perm ((arr'.toList.map (WideElems.rg Tryz.prog 9 R)).map λp=>strOf p.1):=(WideShapes.sorted_perm _).map _
    have h2:((arr'.toList.map (WideElems.rg Tryz.prog 9 R)).map λp=>strOf p.1)=ks.map bm:=by
      have h3:((arr'.toList.map (WideElems.rg Tryz.prog 9 R)).map λp=>strOf p.1)=(arr'.toList.map (·.key)).map λv=>match v with|.string s=>s.data.toList|_=>[]:=by
        rw[bn,bn]
        refine aZ λe he=>?_
        obtain⟨n,h4,h5⟩:=hrd e he
        simp only[Function.comp,WideElems.rg_of h5,h4,strOf,encStr]
      rw[h3,hkl,bn]
      exact(aZ λn _=>rfl).trans (List.map_id' _)
    exact h2 ▸ h1
  have hsize:Maps.size (.map ((arr'.toList.map (WideElems.rg Tryz.prog 9 R)).foldr DataW.insert []):DataW Unit)=ks.length:=by
    have:=(WideShapes.sorted_perm (arr'.toList.map (WideElems.rg Tryz.prog 9 R))).length_eq
    simp only[Maps.size,aH,dW]at this⊢
    rw[this,hsz2]
  have hblt:b<w.heap.size:=(aQ.1 hb).1
  have hseq:=AnyZ.keys_gives (ρ :=H3) UA Fence.wide 2 trivial rfl (by omega) b r arr'.size _ w hblt hcell hown
  have cC:=AnyZ.collect_in (ρ :=C_) RM Fence.wide 4 trivial trivial rfl (by omega) 99 #[.pointer (some ⟨b,0,none⟩)] trivial Vy _ _ (by rw[hsize];simp only[maxLen];omega) (by rw[hsize];omega) w hseq
  have cC:=callsIn_wide.1 cC
  have cS:=PR (a1:=.func (.func 47) #[] #[]) (R:=λv W=>∃l:List (List Nat),l.Perm ks/\W.ownsRow w.heap.size 9 1 v ks.length ((l.map bm).map encStr)/\Below w.heap.size w W) cC (λe W hh=>by
    obtain⟨v,ss,rfl,hS,hrow,_,hbel⟩:=hh
    obtain⟨l,hl1,rfl⟩:=G6 (hS.trans hperm) ks rfl
    refine⟨v,rfl,?_⟩
    rw[aH]at hrow
    refine(P9 hR hbel l (λk hk=>hg k (hl1.mem_iff.1 hk)) (by rw[hl1.length_eq];exact hlen) hrow).mono ?_
    rintro e' W' ⟨rfl,l',h1,h2,h3⟩
    rw[hl1.length_eq]at h2
    exact⟨rfl,l',h1.trans hl1,h2,h3⟩)
  refine Calls.mono cS ?_
  rintro e w' ⟨v,rfl,l,hlp,hrow,hbel⟩
  have hll:=hlp.length_eq
  have hgrw:gK w w':=⟨hbel.size,hbel.block,hbel.os,hbel.tape,hbel.output⟩
  have hrl:(cW (l.map bm)).length=ks.length:=by rw[gr,aH,hll]
  have hO:=(Ok.refl hR).push hgrw v (.rows 1 (cW (l.map bm))) (λb2 hb2=>by
    rcases hrow.2 with⟨rfl,_⟩|⟨g2,cap,cur,rfl,h1,_⟩
    · cases hb2
    · simp only[fO,aE]at hb2
      omega) (by
    rcases hrow.2 with⟨rfl,h0⟩|⟨g2,cap,cur,rfl,h1,h2,h3,h4,h5,h6⟩
    · refine .inl ⟨rfl,?_⟩
      exact bP (by rw[hrl,h0])
    · refine .inr ⟨g2,cap,cur,_,by rw[hrl],h2,by rw[hrl];exact h3,h4,h5,λi row hi=>?_⟩
      rw[cW,aB]at hi
      cases hk:(l.map bm)[i]? with
      |none=>rw[hk]at hi;cases hi
      |some n=>
        rw[hk]at hi
        cases hi
        refine⟨rfl,λj x hx=>?_⟩
        match j,hx with
        |0,hx=>
          cases hx
          have hil:i<ks.length:=by rw[<-hll];have:=(aC.1 hk).1;rwa[aH]at this
          have h7:(cur.toList.take (ks.length*1))[i]?=some (encStr n):=by rw[h6,aB,hk];rfl
          rw[ao,ζ (by omega),bt]at h7
          have h8:cur.getD (i*1+0) undef=encStr n:=by
            rw[aF,show i*1+0=i by omega,h7];rfl
          rw[h8]
          obtain⟨k,hkm,rfl⟩:=bJ.1 (aJ hk)
          have h9:=hg k (hlp.mem_iff.1 hkm)
          have:=kP h9.2.2
          have:=h9.2.1
          exact .str ⟨(bm k).toArray⟩ (by show(bm k).length<=maxLen;simp only[maxLen];omega))
  refine⟨G,_,_,.ret (.os 2),hO,⟨v,rfl,?_⟩,hk l hlp⟩
  rcases hrow.2 with⟨rfl,_⟩|⟨g2,cap,cur,rfl,_⟩
  · exact .k (.os 2 none 0 0 rfl)
  · exact .k (.os 2 _ _ _ rfl)
theorem Qk{K:KT}(es:List (D×Bool×List D))(hk:K (.ret (.fc 99 [.p 1 0])) [.dm es,.cells [.mp 0]]):Z1 65 [.mp 0] [.dm es] K:=by
 refine sh0 Tryz.f65 ?_
 exact zh0 hk
theorem Ld{K:KT}(s:b7)(ks:List (List Nat))(hks:s.th.map (·.1)=ks.map bm)(hg:∀k∈ks,ee k)(hnd:(s.th.map (·.1)).Nodup)(hlen:ks.length<=1000000000)
  (hk:∀l:List (List Nat),l.Perm ks->K (.ret (.os 3)) (jW s++[.rows 1 (cW (l.map bm))])):Z1 31 [.p 0 0] (jW s) K:=by
 have h65:=λ{K:KT}=>Qk (K:=K) (jV s.th);have h64:=λ{K:KT}=>Fp (K:=K) (jV s.th) ks (by
  have:(jV s.th).map (·.1)=(s.th.map (·.1)).map D.str:=by unfold jV;rw[bn,bn];rfl
  rw[this,hks,bn];rfl) hg (by rw[<-hks];exact hnd) hlen
 refine si0 Tryz.f31 ?_
 repeat' ((conv=>whnf);first|exact zf|refine zm ?_|refine zr0 ?_|refine(h65 ?_)|refine(h64 (λl hl=>?_))|refine And.intro ?_ ?_|intro _)
 all_goals exact hk _ hl
end Go.Proofs.YtjpgfgajkjhonaaGreatDoor
namespace Go.Proofs.YtjpgfgajkjhonaaGreatDoor
open Go.Vx
set_option maxRecDepth 100000
theorem V0(x:FT):Own (oN x) where
 pa:=⟨[],Kd.symm,by decide⟩
 sc:=λy hy=>by cases hy
theorem yZ:∀l:zj,(∀p∈l,∃k,p.1=bm k/\ee k)->∃ks:List (List Nat),l.map (·.1)=ks.map bm/\∀k∈ks,ee k
 |[],_=>⟨[],rfl,λk h=>by cases h⟩
 |p::l,h=>by
  obtain⟨k,h1,h2⟩:=h p (by simp);obtain⟨ks,h3,h4⟩:=yZ l λq hq=>h q (by simp[hq]);exact⟨k::ks,by rw[cG,cG,h1,h3],λy hy=>by
   rcases af.1 hy with rfl|hy
   .exact h2
   .exact h4 y hy⟩
theorem yV:∀(L M:List (List UInt8)),L.Nodup->(∀x∈L,x∈M)->L.length<=M.length
 |[],M,_,_=>ae _
 |x::L,M,hn,hs=>by
  rw[cm]at hn;have hx:=hs x (by simp);have:=yV L (M.erase x) hn.2 λy hy=>(List.mem_erase_of_ne (λe=>hn.1 (by rw[<-e];exact hy))).2 (hs y (by simp[hy]));have h1:=List.length_erase_of_mem hx;have h2:=List.length_pos_of_mem hx;rw[aX];omega
theorem K6(l:zj):K7 ⟨[0],[]⟩ l=l:=fp.2 λp _=>BU p.2.l
theorem Ky:cL ⟨[0],[]⟩:=And.intro (show 1<=_ by decide) (show 0<=_ by decide)
theorem Qv{mx:Int}{q n:Nat}{s:b7}(h:fy mx q n s)(hq:q<100000000)(key:List UInt8):(gk s key).va.q.length<100000000:=by
 unfold gk;cases hl:bW key s.th with
 |none=>show 0<_;decide
 |some p=>
  obtain⟨i,o⟩:=p;obtain⟨y,hy,h2⟩:=i_ hl;have:=(h.th y hy).ql;rw[h2]at this;show o.va.q.length<_;omega
theorem RI.strip{mx first made given:Int}{q n:Nat}{t:Th}{s:b7}(h:RI mx q n first made given t s){nm':kA}(hn:nm'.map strip=s.nm.map strip):RI mx q n first made given t ⟨s.th,nm'⟩:=
 ⟨h.th,h.so.strip hn,h.own,h.sum,h.m0,h.g0⟩
theorem RI.less{mx first made given made':Int}{q n:Nat}{t:Th}{s:b7}(h:RI mx q n first made given t s)(h0:0<=made')(h1:made'<=made):RI mx q n first made' given t s:=
 ⟨h.th,h.so,h.own,by have:=h.sum;omega,h0,h.g0⟩
theorem GM{q:Nat}{x:FT}(hx:yT x){s:b7}(hb:D2 255 q 10 s):RI 255 q 10 (oN x).ro 0 0 (oN x) s:=
 ⟨(R2 255 x hx (by have:x.mz.tmod 4=x.mz % 4:=aw hx.mz.1;omega)).mono (by decide),hb.so,V0 x,by unfold uh;show 0+0+((oN x).ro+0)<=(oN x).ro;omega,eV _,eV _⟩
end Go.Proofs.YtjpgfgajkjhonaaGreatDoor