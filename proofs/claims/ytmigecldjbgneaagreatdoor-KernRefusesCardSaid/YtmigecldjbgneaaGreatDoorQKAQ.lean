/- Lemmas. Conditions: none. -/
import Derived.Test.YtmigecldjbgneaaGreatDoorQKAO
import Derived.Test.YtmigecldjbgneaaGreatDoorQKAP
import Derived.Test.YtmigecldjbgneaaGreatDoorCards
import Derived.Test.YtmigecldjbgneaaGreatDoorTie
import Derived.Deep.DeepWitnessRowRef
import Derived.Lib.SmallJoins
import Derived.Stop.LaidErr
import Derived.Lay
set_option maxHeartbeats 4000000
namespace Go.Proofs.YtmigecldjbgneaaGreatDoor
open Go.Vx
set_option maxRecDepth 100000
open Go.ChangeShapes Go.WideShapes Go.ChangeAt Go.RowKit
def VE{H:Type}:List D->DataW H
 |[.str s,.int _ a,.int _ b,.int _ c]=>.agg [.lit (.string s),.lit (.int .u8 a),.lit (.int .u8 b),.lit (.int .u8 c)]
 |_=>.nil
theorem Mm{H:Type}:(Rows.laid_lazaretto_op_table:DataW H)=.agg (iA.map VE):=rfl
theorem JM:laidOutB Tryz.prog=true:=zx0
theorem W9:ownKnob Tryz.prog.godebug=none:=zx0
theorem XL:Tryz.prog.globalNamed "lazaretto/op.table" = some 1:=zx0
theorem M_:(Tryz.prog.globals[1]?).map (·.type)=some 306:=zx0
theorem K5:Tryz.prog.cellsOf 306=188:=zx0
theorem AL:Tryz.prog.cellsOf 305=4:=zx0
theorem SW:Tryz.prog.cellsOf 5=1:=zx0
theorem SV:Tryz.prog.cellsOf 9=1:=zx0
theorem NC{α:Type}{cs:List α}(h:cs.length=4):∃c0 c1 c2 c3,cs=[c0,c1,c2,c3]:=by
 match cs,h with
 |[c0,c1,c2,c3],_=>exact⟨c0,c1,c2,c3,rfl⟩
theorem Qb{H:Type}{enc:TypeId×Value->H}{w:World}{base:Nat}{sp:Nat->Bool}{held:Bool}{fuel:Nat}{cs:List Value}{s:List UInt8}{a b c:Int}{p:List MemPlace}(G:Nat->Prop)
  (h:DataW.trod enc Tryz.prog w base sp held fuel 305 cs=some (.agg [.lit (.string s),.lit (.int .u8 a),.lit (.int .u8 b),.lit (.int .u8 c)],p)) :
  cs.length=4/\∀(j:Nat)(x:D),[D.str s,.int .u8 a,.int .u8 b,.int .u8 c][j]?=some x->∃v,cs[j]?=some v/\bp G w v x:=by
 obtain⟨y0,y1,y2,y3,n,hx,hl,h0,h1,h2,h3⟩:=Go.Joins.trod_struct4 Tryz.underlying305 h;rw[AL]at hl;obtain⟨c0,c1,c2,c3,rfl⟩:∃c0 c1 c2 c3,cs=[c0,c1,c2,c3]:=NC hl;simp only[SV,SW,List.drop_zero,jJ,dX,oS]at h0 h1 h2 h3;obtain⟨s',e0,rfl,hs⟩:=DataW.trod_string Tryz.underlying9 h0;obtain⟨a',e1,rfl,_⟩:=DataW.trod_int Tryz.underlying5 h1;obtain⟨b',e2,rfl,_⟩:=DataW.trod_int Tryz.underlying5 h2;obtain⟨c',e3,rfl,_⟩:=DataW.trod_int Tryz.underlying5 h3;simp only[List.cons.injEq,ω]at e0 e1 e2 e3;subst e0 e1 e2 e3;simp only[dG,DataW.agg.injEq,List.cons.injEq,DataW.lit.injEq,Lit.string.injEq,Lit.int.injEq,ω,true_and]at hx;obtain⟨⟨rfl,rfl,rfl,rfl⟩,_⟩:=hx;refine⟨rfl,λj x hj=>?_⟩
 match j,hj with
 |0,hj=>cases hj;exact⟨_,rfl,.str s' hs⟩
 |1,hj=>cases hj;exact⟨_,rfl,.int .u8 _⟩
 |2,hj=>cases hj;exact⟨_,rfl,.int .u8 _⟩
 |3,hj=>cases hj;exact⟨_,rfl,.int .u8 _⟩
 |j+4,hj=>simp at hj
theorem Hh:∀i,i<47->∃s a b c,iA[i]?=some [.str s,.int .u8 a,.int .u8 b,.int .u8 c]:=by
 intro i hi
 match i,hi with
 |0,_|1,_|2,_|3,_|4,_|5,_|6,_|7,_|8,_|9,_|10,_|11,_|12,_|13,_|14,_|15,_|16,_|17,_|18,_|19,_|20,_|21,_|22,_|23,_|24,_|25,_|26,_|27,_|28,_|29,_|30,_|31,_|32,_|33,_|34,_|35,_|36,_|37,_|38,_|39,_|40,_|41,_|42,_|43,_|44,_|45,_|46,_=>exact⟨_,_,_,_,rfl⟩
 |n+47,h=>omega
theorem Ph:∀(l:List (List D)),(∀r∈l,r.length=4)->∀(j:Nat),l.flatten[j]?=(l[j / 4]?).bind (·[j % 4]?)
 |[],_,j=>by simp
 |r::l,h,j=>by
  have hr:=h r (by simp);rw[List.flatten_cons]
  by_cases hj:j<4
  .rw[aR (by omega),Nat.div_eq_of_lt hj,cm hj];simp
  .rw[ae (by omega),Ph l (λx hx=>h x (by simp[hx])),hr,show j / 4=(j-4) / 4+1 by omega,show j % 4=(j-4) % 4 by omega];simp
theorem Jk(j:Nat):j / 4*4+j % 4=j:=by omega
theorem M0{l:List (List D)}{n i:Nat}{f:List D->Option D}{x:D}{A:Prop}(hl:l.length=n)(h:¬i<n)(hx:(l[i]?).bind f=some x):A:=by
 rw[cu (by omega)]at hx;cases hx
theorem RD:iA.length=47:=rfl
theorem MS:∀r∈iA,r.length=4:=by decide
theorem TO{k g:Nat}{r row:List D}(h:Am [(k,r)] g=some row):g=k/\row=r:=by
 simp only[Am]at h;cases hb:Nat.beq k g with
 |false=>rw[hb]at h;cases h
 |true=>
  rw[hb]at h;exact⟨(fN hb).symm,(af h).symm⟩
theorem Rv{W:World}(h:laidMet Tryz.prog Rows.kernRefusesRow.laid W):Sg (all W) W:=by
 have h7:laidMet Tryz.prog [("lazaretto/op.table",Rows.laid_lazaretto_op_table),("unicode/utf8.first",Rows.laid_unicode_utf8_first)] W:=laidMet.tail (laidMet.tail (laidMet.tail (laidMet.tail (laidMet.tail (laidMet.tail h)))));obtain⟨ps,⟨g,t,cs,fuel,p,q,hg,ht,hv,hd,_,_⟩,_⟩:=h7;obtain rfl:=af (XL.symm.trans hg);obtain rfl:=af (M_.symm.trans ht);rw[Mm]at hd;obtain⟨xs,m,rfl,hx,hl,hxl,hel⟩:=DataW.trod_array Tryz.underlying306 hd;rw[AL]at hel;rw[K5]at hl;simp only[dG,DataW.agg.injEq]at hx;have hlt:1<W.heap.size:=by
  unfold World.var? at hv;rw[XL]at hv;rcases nF 1 W.heap.size with h'|h'
  .exact h'
  .simp[Array.getElem?_eq_none h']at hv
 have key:∀(j:Nat)(x:D),iA.flatten[j]?=some x->∃v,cs[j]?=some v/\bp (all W) W v x:=by
  intro j x hj;rw[Ph _ MS]at hj
  by_cases hi:j / 4<47
  .obtain⟨s,a,b,c,hs⟩:=Hh _ hi;have h1:=hel _ hi;have h2:(xs.map (·.1))[j / 4]?=some (.agg [.lit (.string s),.lit (.int .u8 a),.lit (.int .u8 b),.lit (.int .u8 c)]):=by
    rw[<-hx.1,aB,hs];rfl
   rw[aB]at h2;cases hy:xs[j / 4]? with
   |none=>rw[hy]at h2;cases h2
   |some y=>
    rw[hy]at h2 h1;obtain⟨y1,y2⟩:=y;simp only[bJ,aD]at h2;subst h2;obtain⟨_,hk⟩:=Qb (all W) h1;rw[hs]at hj;obtain⟨v,hv1,hv2⟩:=hk (j % 4) x (by simpa using hj);refine⟨v,?_,hv2⟩;rw[List.getElem?_take_of_lt (Nat.mod_lt _ (by decide)),bY,Jk]at hv1;rw[<-cJ];exact hv1
  .exact M0 RD hi hj
 intro g row hrow;have hg0:g=1/\row=iA.flatten:=by
  unfold Uz at hrow;exact TO hrow
 obtain⟨rfl,rfl⟩:=hg0;refine⟨hlt,λj=>cs.getD j undef,λj x hj=>?_,λj x hj=>?_⟩
 .obtain⟨v,h1,_⟩:=key j x hj;rw[World.var?_cell XL hv,cE,h1];simp[h1]
 .obtain⟨v,h1,h2⟩:=key j x hj;simp only[aH,h1];exact h2
theorem Uv{l:List (String×DataW Unit)}(e:(l.filter λx=>x.2.handleName?.isSome)=[]){W:World}(h:laidMetH Tryz.prog l W):laidMet Tryz.prog l W:=by
 unfold laidMetH at h;rw[e]at h;exact h
theorem BW:(Rows.kernRefusesRow.laid.filter λx=>x.2.handleName?.isSome)=[]:=zx0
theorem vR{W:World}(h:laidMetH Tryz.prog Rows.kernRefusesRow.laid W):Sg (all W) W:=Rv (Uv BW h)
noncomputable def z8(os:Os):World:=World.laidAll Tryz.prog os Rows.kernRefusesRow.laid
theorem JL(os:Os):(z8 os).os=os:=World.laidAll_os _ _ _
theorem Eu(os:Os)(args:Array Value):laidMet Tryz.prog Rows.kernRefusesRow.laid ((z8 os).forCall (λ_ _=>0) ⟨#[],args,[]⟩).memory:=
 laidMet_laidAll args zx0 zx0
theorem Bb(os:Os)(args:Array Value):(((z8 os).forCall (λ_ _=>0) ⟨#[],args,[]⟩).heap.toList.drop Tryz.checked.prog.globals.size).take ((begin Tryz.checked.prog (λ_ _=>0) default).world.heap.size-Tryz.checked.prog.globals.size) =
 (begin Tryz.checked.prog (λ_ _=>0) default).world.heap.toList.drop Tryz.checked.prog.globals.size:=zx0
end Go.Proofs.YtmigecldjbgneaaGreatDoor
namespace Go.Proofs.YtmigecldjbgneaaGreatDoor
open Go.Vx
set_option maxRecDepth 100000
theorem Dm(l:List (List D))(n:Int):Z0 127 [.d (.sl 5 l),.d (.int .i64 n)] (.cl 5 (l.take (min (max n 0) l.length).toNat)):=by
 refine sh0 Tryz.f127 ?_
 repeat' ((conv=>whnf);first|exact zf|refine zm ?_|refine zB ?_ ?_|intro _)
theorem wT(l:List (List D))(n:Int):Z0 167 [.d (.sl 5 l),.d (.int .i64 n)] (.cl 5 (l.take (min (max n 0) l.length).toNat)):=by
 refine sh0 Tryz.f167 ?_
 repeat' ((conv=>whnf);first|exact zf|refine zm ?_|refine zB ?_ ?_|intro _)
theorem KS(l:List (List D))(n:Int):Z0 168 [.d (.sl 3 l),.d (.int .i64 n)] (.cl 3 (l.take (min (max n 0) l.length).toNat)):=by
 refine sh0 Tryz.f168 ?_
 repeat' ((conv=>whnf);first|exact zf|refine zm ?_|refine zB ?_ ?_|intro _)
theorem y9{α:Type}(l:List α):l.take (min (max (l.length:Int) 0) l.length).toNat=l:=gN (by omega)
theorem Pw(l:List (List D))(a b c d e:D)(hl:l.length<1000000000):Z0 90 [.d (.sl 5 l),.ag [.d a,.d b,.d c,.d d,.d e]] (.d (.sl 5 (l++[[a,b,c,d,e]]))):=by
 refine sh0 Tryz.f90 ?_
 repeat' ((conv=>whnf);first|exact zf|refine zm ?_|refine zc (Dm _ _) ?_|refine zB ?_ ?_|intro _)
 all_goals exact cD (κ (λx=>V.d (.sl 5 (x++[[a,b,c,d,e]]))) (y9 l))
theorem Kp(l:List (List D))(a b c d e:D)(hl:l.length<1000000000):Z0 169 [.d (.sl 5 l),.ag [.d a,.d b,.d c,.d d,.d e]] (.d (.sl 5 (l++[[a,b,c,d,e]]))):=by
 refine sh0 Tryz.f169 ?_
 repeat' ((conv=>whnf);first|exact zf|refine zm ?_|refine zc (wT _ _) ?_|refine zB ?_ ?_|intro _)
 all_goals exact cD (κ (λx=>V.d (.sl 5 (x++[[a,b,c,d,e]]))) (y9 l))
theorem sy{K:KT}(l:List (List D))(hl:l.length<1000000000)(hk:K (.ret (.os 0)) [.rows 5 l]):Z1 36 [.d (.sl 5 l)] [] K:=by
 refine si0 Tryz.f36 ?_;cases l with
 |nil=>
  repeat' ((conv=>whnf);first|exact zf|refine zm ?_|refine zB ?_ ?_|refine And.intro ?_ ?_|intro _)
  all_goals exact hk
 |cons r l=>
  repeat' ((conv=>whnf);first|exact zf|refine zm ?_|refine zB ?_ ?_|intro _)
  all_goals exact hk
theorem qg{K:KT}(l:List (List D))(hl:l.length<1000000000)(hk:K (.ret (.os 0)) [.rows 5 l]):Z1 38 [.d (.sl 5 l)] [] K:=by
 refine si0 Tryz.f38 ?_;cases l with
 |nil=>
  repeat' ((conv=>whnf);first|exact zf|refine zm ?_|refine zB ?_ ?_|refine And.intro ?_ ?_|intro _)
  all_goals exact hk
 |cons r l=>
  repeat' ((conv=>whnf);first|exact zf|refine zm ?_|refine zB ?_ ?_|intro _)
  all_goals exact hk
theorem KZ{K:KT}(l:List (List D))(hl:l.length<1000000000)(hk:K (.ret (.os 0)) [.rows 3 l]):Z1 37 [.d (.sl 3 l)] [] K:=by
 refine si0 Tryz.f37 ?_;cases l with
 |nil=>
  repeat' ((conv=>whnf);first|exact zf|refine zm ?_|refine zB ?_ ?_|refine And.intro ?_ ?_|intro _)
  all_goals exact hk
 |cons r l=>
  repeat' ((conv=>whnf);first|exact zf|refine zm ?_|refine zB ?_ ?_|intro _)
  all_goals exact hk
structure Va where
  k:Int
  n:Int
  nm:List UInt8
  ls:List UInt8
  li:List UInt8
def b9(v:Va):List D:=[.int .i64 v.k,.int .i64 v.n,.str v.nm,.str v.ls,.str v.li]
def SB(a b:Va):Bool:=(a.k==b.k)&&((a.n==b.n)&&((a.nm==b.nm)&&((a.ls==b.ls)&&((a.li==b.li)&&true))))
theorem nt{b:Bool}(h:(!b)=true):b=false:=by cases b<;>simp_all
theorem nf{b:Bool}(h:(!b)=false):b=true:=by cases b<;>simp_all
structure Tr where
  f:Int
  h:Int
  a:Int
def eJ(v:Tr):List D:=[.int .i64 v.f,.int .i64 v.h,.int .i64 v.a]
structure Fr where
  fu:Int
  pc:Int
  ba:Int
  ma:Int
  vars:List Va
def bP(f:Fr):List D:=[.int .i64 f.fu,.int .i64 f.pc,.int .i64 f.ba,.int .u8 f.ma,.sl 5 (f.vars.map b9)]
def Y_(f:Fr):V:=.ag [.d (.int .i64 f.fu),.d (.int .i64 f.pc),.d (.int .i64 f.ba),.d (.int .u8 f.ma),.d (.sl 5 (f.vars.map b9))]
def jh(v:Va):V:=.ag [.d (.int .i64 v.k),.d (.int .i64 v.n),.d (.str v.nm),.d (.str v.ls),.d (.str v.li)]
structure Co where
  fr:List Fr
  st:List Va
  tr:List Tr
def gp(c:Co):V:=.ag [.d (.sl 5 (c.fr.map bP)),.d (.sl 5 (c.st.map b9)),.d (.sl 3 (c.tr.map eJ))]
def gn{α:Type}(l:List α)(n:Int):List α :=l.take (min (max n 0) l.length).toNat
theorem gY{α β:Type}(f:α->β)(l:List α)(n:Int):gn (l.map f) n=(gn l n).map f:=by simp[gn]
def Fb(c:Co)(f h t:Int):Co:=⟨gn c.fr f,gn c.st h,gn c.tr t⟩
def jb(c:Co)(v:Va):Co:=⟨c.fr,c.st++[v],c.tr⟩
theorem tg(c:Co)(v:Va)(hl:c.st.length<1000000000):Z0 139 [gp c,jh v] (gp (jb c v)):=by
 refine sh0 Tryz.f139 ?_;have hl':(c.st.map b9).length<1000000000:=by simpa using hl
 repeat' ((conv=>whnf);first|exact zf|refine zm ?_|refine zc (Kp _ _ _ _ _ _ hl') ?_|refine zB ?_ ?_|intro _)
 show Out.ret (V.ag [V.d (.sl 5 (c.fr.map bP)),V.d (.sl 5 (c.st.map b9++[b9 v])),V.d (.sl 3 (c.tr.map eJ))])=_;simp[gp,jb]
def base(c:Co):Int:=match c.fr.getLast? with
 |some f=>f.ba
 |none=>0
def fQ(c:Co)(n:Int):Bool:=decide (0<=n)&&(decide (0<=base c)&&(decide (base c<=c.st.length)&&decide (n<=c.st.length-base c)))
def sM(c:Co)(n:Int):Co:=⟨c.fr,gn c.st (c.st.length-n),c.tr⟩
def lF(c:Co)(n:Int):List Va:=c.st.drop (c.st.length-n).toNat
def BL(c:Co)(n:Int):V:=
 bif fQ c n then .tu [gp (sM c n),.d (.sl 5 ((lF c n).map b9)),.d (.bool true)]
 else .tu [gp c,.d (.sl 5 []),.d (.bool false)]
theorem lT{c:Co}{n:Int}(h:fQ c n=true):BL c n=.tu [gp (sM c n),.d (.sl 5 ((lF c n).map b9)),.d (.bool true)]:=by simp[BL,h]
theorem sZ{c:Co}{n:Int}(h:fQ c n=false):BL c n=.tu [gp c,.d (.sl 5 []),.d (.bool false)]:=by simp[BL,h]
theorem zF(c:Co)(n:Int)(hl:c.st.length<1000000000):Z0 147 [gp c,.d (.int .i64 n)] (BL c n):=by
  refine sh0 Tryz.f147 ?_
  have hl':(c.st.map b9).length<1000000000:=by simpa using hl
  have yes:∀(b:Int),base c=b->¬n<0->¬b<0->¬(c.st.length:Int)<b->¬(c.st.length:Int)-b<n->fQ c n=true:=by
    intro b hb h1 h2 h3 h4
    simp[fQ,hb]
    omega
  have no:∀(b:Int),base c=b->(n<0\/b<0\/(c.st.length:Int)<b\/(c.st.length:Int)-b<n)->fQ c n=false:=by
    intro b hb h
    cases he:fQ c n with
    |false=>rfl
    |true=>
      simp[fQ,hb]at he
      omega
  repeat' ((conv=>whnf);first|exact zf|refine zm ?_|refine zB ?_ ?_|intro _)
  refine aU (λhpos=>?_) (λhzero=>?_)
  · have hpos:0<c.fr.length:=by simpa using hpos
    obtain⟨f,hf1⟩:∃f,c.fr[c.fr.length-1]?=some f:=⟨_,aA (by omega)⟩
    have hb:base c=f.ba:=by simp[base,dU,hf1]
    replace yes:=yes _ hb
    replace no:=no _ hb
    repeat' ((conv=>whnf);first|exact zf|refine zm ?_|refine zB ?_ ?_|intro _)
    refine⟨bP f,⟨by simp;omega,by simp[hf1],rfl⟩,?_⟩
    repeat' ((conv=>whnf);first|exact zf|refine zm ?_|refine sy _ (by simp;omega) ?_|refine zc (wT _ _) ?_|refine zB ?_ ?_|refine aU (λhb=>?_) (λhb=>?_)|intro _)
    all_goals
      first
        |(refine(cD (sZ (no ?_))).symm;simp at *;omega)
        | (have hy := yes (by simp at * <;> omega) (by simp at * <;> omega) (by simp at * <;> omega) (by simp at * <;> omega)
           rw[lT hy]
           show Out.ret (V.tu [V.ag [V.d (.sl 5 (c.fr.map bP)),V.d (.sl 5 (gn (c.st.map b9) ((c.st.map b9).length-n))),V.d (.sl 3 (c.tr.map eJ))],V.d (.sl 5 ((c.st.map b9).drop (((c.st.map b9).length:Int)-n).toNat)),V.d (.bool true)])=_
           rw[gY]
           simp[gp,sM,lF])
  · have hz:c.fr=[]:=by
      have:¬0<c.fr.length:=by simpa using hzero
      exact bR (by omega)
    have hb:base c=0:=by simp[base,hz]
    replace yes:=yes _ hb
    replace no:=no _ hb
    repeat' ((conv=>whnf);first|exact zf|refine zm ?_|refine sy _ (by simp;omega) ?_|refine zc (wT _ _) ?_|refine zB ?_ ?_|refine aU (λhb=>?_) (λhb=>?_)|intro _)
    all_goals
      first
        |(refine(cD (sZ (no ?_))).symm;simp at *;omega)
        | (have hy := yes (by simp at * <;> omega) (by simp at * <;> omega) (by simp at * <;> omega) (by simp at * <;> omega)
           rw[lT hy]
           show Out.ret (V.tu [V.ag [V.d (.sl 5 (c.fr.map bP)),V.d (.sl 5 (gn (c.st.map b9) ((c.st.map b9).length-n))),V.d (.sl 3 (c.tr.map eJ))],V.d (.sl 5 ((c.st.map b9).drop (((c.st.map b9).length:Int)-n).toNat)),V.d (.bool true)])=_
           rw[gY]
           simp[gp,sM,lF])
def Yz(t:Tr):V:=.ag [.d (.int .i64 t.f),.d (.int .i64 t.h),.d (.int .i64 t.a)]
theorem DH(t:Tr)(n:Int):Z0 303 [Yz t,.e [.int .i64 n] 0] (.d (.bool (decide (n<t.f)))):=by
 refine sh0 Tryz.f303 ?_
 repeat' ((conv=>whnf);first|exact zf|refine zm ?_|refine zB ?_ ?_|intro _)
def idx(p:Tr->Bool):List Tr->Nat
 |[]=>0
 |x::l=>bif p x then 0 else idx p l+1
theorem J0(p:Tr->Bool):∀l,idx p l<=l.length
 |[]=>aL _
 |x::l=>by
  simp only[idx];cases p x
  .simp[J0 p l]
  .simp
theorem uW{p:Tr->Bool}:∀{l:List Tr}{i:Nat},(∀j x,j<i->l[j]?=some x->p x=false)->(∀x,l[i]?=some x->p x=true)->i<=l.length->idx p l=i
 |[],i,_,_,hi=>by simp at hi;simp[idx,hi]
 |x::l,0,_,h,_=>by simp[idx,h x rfl]
 |x::l,i+1,h1,h2,hi=>by
  simp only[idx,h1 0 x (by omega) rfl,ε];rw[uW (i:=i) (λj y hj hy=>h1 (j+1) y (by omega) (by simpa using hy)) (λy hy=>h2 y (by simpa using hy)) (by simpa using hi)]
def Bl(p:Tr->Bool)(l:List Tr):Int:=if idx p l<l.length then idx p l else -1
theorem JX(l:List Tr)(n:Int):Z0 337 [.d (.sl 3 (l.map eJ)),.fc 303 [.e [.int .i64 n] 0]] (.d (.int .i64 (Bl (λt=>decide (n<t.f)) l))):=by
 refine sh0 Tryz.f337 ?_
 repeat' ((conv=>whnf);first|exact zf|refine zm ?_|refine zB ?_ ?_|intro _)
 refine zU ⟨Nat,λi=>i<=l.length/\∀j x,j<i->l[j]?=some x->decide (n<x.f)=false,λi=>[(0,.d (.sl 3 (l.map eJ))),(1,.fc 303 [.e [.int .i64 n] 0]),(7,.d (.int .i64 (l.map eJ).length)),(8,.d (.int .i64 i))],λ_=>[],λi=>l.length-i,0,
  ⟨⟨aY _,by simp⟩,⟨rfl,rfl,rfl,rfl,trivial⟩,trivial,rfl⟩,λi ⟨hi,he⟩=>?_⟩
 repeat' ((conv=>whnf);first|exact zf|refine zm ?_|refine zB ?_ ?_|intro _)
 refine aU (λhlt=>?_) (λhge=>?_)
 .have hlt:i<l.length:=by simpa using hlt
  obtain⟨x,hx⟩:∃x,l[i]?=some x:=⟨_,aA hlt⟩
  repeat' ((conv=>whnf);first|exact zf|refine zm ?_|refine zB ?_ ?_|intro _)
  refine⟨eJ x,⟨by omega,by simp[hx],rfl⟩,?_⟩
  repeat' ((conv=>whnf);first|exact zf|refine zm ?_|refine zc (DH x n) ?_|refine zB ?_ ?_|intro _)
  refine aU (λhyes=>?_) (λhno=>?_)
  .skip
   repeat' ((conv=>whnf);first|exact zf|refine zm ?_|refine zB ?_ ?_|intro _)
   refine cD (κ (λx=>V.d (.int .i64 x)) ?_);have:=uW (p:=λt=>decide (n<t.f)) he (λy hy=>by rw[hx]at hy;cases hy;exact hyes) hi;simp only[Bl,this,hlt,if_true]
  .skip
   repeat' ((conv=>whnf);first|exact zf|refine zm ?_|refine zB ?_ ?_|intro _)
   refine⟨i+1,⟨hlt,λj y hj hy=>?_⟩,aN hlt (aQ i),⟨rfl,rfl,rfl,rfl,trivial⟩,trivial,rfl⟩
   by_cases hji:j=i
   .subst hji;rw[hx]at hy;cases hy;exact hno
   .exact he j y (by omega) hy
 .have hge:i=l.length:=by
   have:¬i<l.length:=by simpa using hge
   omega
  repeat' ((conv=>whnf);first|exact zf|refine zm ?_|refine zB ?_ ?_|intro _)
  refine cD (κ (λx=>V.d (.int .i64 x)) ?_);have:=uW (p:=λt=>decide (n<t.f)) he (λy hy=>by simp[hge]at hy) hi;simp[Bl,this,hge]
def keep(n:Int)(l:List Tr):List Tr:=l.filter λt=> !(decide (n<t.f))
theorem zi{n:Int}:∀{l:List Tr},idx (λt=>decide (n<t.f)) l=l.length->keep n l=l
 |[],_=>rfl
 |x::l,h=>by
  simp only[idx]at h;cases hx:decide (n<x.f) with
  |true=>rw[hx]at h;simp at h
  |false=>
   rw[hx]at h;simp only[ε,aZ,Nat.add_right_cancel_iff]at h;have:=zi h;simp only[keep]at this⊢;rw[List.filter_cons_of_pos (by simp[hx]),this]
theorem wG{n:Int}:∀{l:List Tr},keep n (l.take (idx (λt=>decide (n<t.f)) l))=l.take (idx (λt=>decide (n<t.f)) l)
 |[]=>rfl
 |x::l=>by
  simp only[idx];cases hx:decide (n<x.f) with
  |true=>rfl
  |false=>
   simp only[ε,dX];have:=wG (n:=n) (l:=l);simp only[keep]at this⊢;rw[List.filter_cons_of_pos (by simp[hx]),this]
theorem J1{n:Int}:∀{l:List Tr}{x:Tr},l[idx (λt=>decide (n<t.f)) l]?=some x->decide (n<x.f)=true
 |[],_,h=>by simp at h
 |y::l,x,h=>by
  simp only[idx]at h;cases hy:decide (n<y.f) with
  |true=>rw[hy]at h;simp at h;subst h;exact hy
  |false=>rw[hy]at h;exact J1 (by simpa using h)
theorem rO{n:Int}{l:List Tr}{j:Nat}{x:Tr}(h:l[j]?=some x):keep n (l.take (j+1))=keep n (l.take j)++(bif decide (n<x.f)then[]else[x]):=by
 rw[bV,h];simp only[keep,List.filter_append,Option.toList];cases hx:decide (n<x.f)<;>simp[hx]
theorem F2{K:KT}(l:List Tr)(n:Int)(hl:l.length<1000000000)(hk:K (.ret (.d (.sl 3 ((keep n l).map eJ)))) [.no,.cells [.d (.int .i64 n)]]):Z1 302 [.os 0,.fc 303 [.p 1 0]] [.rows 3 (l.map eJ),.cells [.d (.int .i64 n)]] K:=by
 refine sh0 Tryz.f302 ?_;have hle:=J0 (λt=>decide (n<t.f)) l;have hst:=λx=>J1 (n:=n) (l:=l) (x:=x)
 repeat' ((conv=>whnf);first|exact zf|refine zm ?_|refine zB ?_ ?_|intro _)
 refine .inl ⟨_,JX l n,rfl,?_⟩
 repeat' ((conv=>whnf);first|exact zf|refine zm ?_|refine zB ?_ ?_|intro _)
 refine aU (λhno=>?_) (λhyes=>?_)
 .have hall:keep n l=l:=by
   refine zi ?_
   by_cases h:idx (λt=>decide (n<t.f)) l<l.length
   .simp[Bl,h]at hno
   .omega
  repeat' ((conv=>whnf);first|exact zf|refine zm ?_|refine zB ?_ ?_|intro _)
  rw[hall]at hk;exact hk
 .have hlt:idx (λt=>decide (n<t.f)) l<l.length:=by
   by_cases h:idx (λt=>decide (n<t.f)) l<l.length
   .exact h
   .simp[Bl,h]at hyes
  have hix:Bl (λt=>decide (n<t.f)) l=(idx (λt=>decide (n<t.f)) l:Nat):=by simp[Bl,hlt]
  rw[hix];generalize Bn:idx (λt=>decide (n<t.f)) l=i0 at *
  repeat' ((conv=>whnf);first|exact zf|refine zm ?_|refine zB ?_ ?_|intro _)
  have hkt:=wG (n:=n) (l:=l);rw[Bn]at hkt;obtain⟨x0,hx0⟩:∃x,l[i0]?=some x:=⟨_,aA hlt⟩
  refine zU ⟨Nat×Nat×List Tr,λ(j,i,m)=>m.length=l.length/\i<j/\j<=l.length/\m.take i=keep n (l.take j)/\m.drop j=l.drop j,
   λ(j,i,_)=>[(0,.os 0),(1,.fc 303 [.p 1 0]),(5,.d (.int .i64 i)),(6,.d (.int .i64 j))],λ(_,_,m)=>[.rows 3 (m.map eJ),.cells [.d (.int .i64 n)]],λ(j,_,_)=>l.length-j,(i0+1,i0,l),
   ⟨⟨rfl,by omega,hlt,by rw[rO hx0,hkt,hst x0 hx0];simp,rfl⟩,⟨rfl,rfl,rfl,rfl,trivial⟩,⟨rfl,.inl rfl,trivial⟩,rfl⟩,λ(j,i,m) ⟨h1,h2,h3,h4,h5⟩=>?_⟩
  repeat' ((conv=>whnf);first|exact zf|refine zm ?_|refine zB ?_ ?_|intro _)
  refine aU (λhlt=>?_) (λhge=>?_)
  .have hlt:j<m.length:=by simpa using hlt
   obtain⟨x,hx⟩:∃x,l[j]?=some x:=⟨_,aA (by omega)⟩
   have hmx:m[j]?=some x:=by
    have:=κ (λl=>l[0]?) h5;simpa[bY,hx]using this
   obtain⟨y,hy⟩:∃y,m[i]?=some y:=⟨_,aA (by omega)⟩
   repeat' ((conv=>whnf);first|exact zf|refine zm ?_|refine zB ?_ ?_|intro _)
   refine⟨eJ x,by simp[hmx],?_⟩
   repeat' ((conv=>whnf);first|exact zf|refine zm ?_|refine zB ?_ ?_|intro _)
   refine .inl ⟨_,DH x n,rfl,?_⟩
   repeat' ((conv=>whnf);first|exact zf|refine zm ?_|refine zB ?_ ?_|intro _)
   refine aU (λhyes=>?_) (λhno=>?_)
   .skip
    repeat' ((conv=>whnf);first|exact zf|refine zm ?_|refine zB ?_ ?_|intro _)
    refine⟨eJ y,by simp[hy],⟨rfl,rfl,rfl⟩,?_⟩
    repeat' ((conv=>whnf);first|exact zf|refine zm ?_|refine zB ?_ ?_|intro _)
    refine⟨(j+1,i+1,m.set i x),⟨by simp[h1],by omega,by omega,?_,?_⟩,aN (by omega) (aQ j),⟨rfl,rfl,rfl,rfl,trivial⟩,⟨?_,.inl rfl,trivial⟩,rfl⟩
    .rw[rO hx,nt hyes,<-h4];simp only[ε];rw[bV,List.take_set_of_le (aL _),bZ (by omega)];rfl
    .rw[List.drop_set_of_lt (by omega)];have:=κ (List.drop 1) h5;simpa[List.drop_drop]using this
    .show B.rows 3 ((m.map eJ).set i (eJ x))=B.rows 3 ((m.set i x).map eJ);rw[eR]
   .skip
    repeat' ((conv=>whnf);first|exact zf|refine zm ?_|refine zB ?_ ?_|intro _)
    refine⟨(j+1,i,m),⟨h1,by omega,by omega,?_,?_⟩,aN (by omega) (aQ j),⟨rfl,rfl,rfl,rfl,trivial⟩,⟨rfl,.inl rfl,trivial⟩,rfl⟩
    .rw[rO hx,nf hno,h4];simp
    .have:=κ (List.drop 1) h5;simpa[List.drop_drop]using this
  .have hj:j=l.length:=by
    have:¬j<m.length:=by simpa using hge
    omega
   subst hj;rw[cG]at h4
   repeat' ((conv=>whnf);first|exact zf|refine zm ?_|refine zB ?_ ?_|intro _)
   show K (.ret (.d (.sl 3 (List.drop 0 (List.take i (List.take i (m.map eJ)++List.replicate ((m.map eJ).length-i) [.int .i64 0,.int .i64 0,.int .i64 0])))))) [.no,.cells [.d (.int .i64 n)]];have e:List.drop 0 (List.take i (List.take i (m.map eJ)++List.replicate ((m.map eJ).length-i) [D.int .i64 0,.int .i64 0,.int .i64 0]))=(keep n l).map eJ:=by
    rw[List.drop_zero,List.take_append_of_le_length (by simp;omega),List.take_take,Nat.min_self,<-jY,h4]
   rw[e];exact hk
def num(n:Int):Va:=⟨1,n,[],[],[]⟩
def ri(c:Co)(t:Tr):Bool:=decide (1<=t.f)&&(decide (t.f<=c.fr.length)&&(decide (0<=t.h)&&decide (t.h<=c.st.length)))
def vn(l:List Fr)(i:Nat)(pc:Int):List Fr:=match l[i]? with
 |some f=>l.set i {f with pc:=pc}
 |none=>l
def tO(c:Co)(t:Tr)(code:Int):Co:=⟨vn (gn c.fr t.f) (t.f-1).toNat t.a,gn c.st t.h++[num code],gn c.tr (c.tr.length-1)⟩
def js(c:Co)(code kp:Int):V:=
 bif decide ((c.tr.length:Int)-1<max kp 0)then .tu [gp c,.d (.bool false)] else
 match c.tr.getLast? with
 |none=>.tu [gp c,.d (.bool false)]
 |some t=>bif ri c t then .tu [gp (tO c t code),.d (.bool true)]else .tu [gp c,.d (.bool false)]
theorem L5(c:Co)(code kp:Int)(hf:c.fr.length<1000000000)(hs:c.st.length<1000000000):Z0 196 [gp c,.d (.int .i64 code),.d (.int .i64 kp)] (js c code kp):=by
 cases hkp:decide ((c.tr.length:Int)-1<max kp 0) with
 |true=>
  have hr:js c code kp=.tu [gp c,.d (.bool false)]:=by simp only[js,hkp,δ]
  have hkp':decide (((c.tr.map eJ).length:Int)-1<max kp 0)=true:=by simpa using hkp
  rw[hr];refine sh0 Tryz.f196 ?_
  repeat' ((conv=>whnf);first|exact zf|refine zm ?_|refine zB ?_ ?_|intro _)
  refine aU (λhkp2=>?_) (λhkp2=>by rw[hkp']at hkp2;cases hkp2)
  repeat' ((conv=>whnf);first|exact zf|refine zm ?_|refine zB ?_ ?_|intro _)
 |false=>
  have hkp':decide (((c.tr.map eJ).length:Int)-1<max kp 0)=false:=by simpa using hkp
  have hpos:0<c.tr.length:=by simp at hkp;omega
  obtain⟨t,ht⟩:∃t,c.tr[c.tr.length-1]?=some t:=⟨_,aA (by omega)⟩
  have htl:c.tr.getLast?=some t:=by rw[dU];exact ht
  cases hy:ri c t with
  |false=>
   have hr:js c code kp=.tu [gp c,.d (.bool false)]:=by simp only[js,hkp,htl,hy,ε]
   rw[hr];refine sh0 Tryz.f196 ?_
   repeat' ((conv=>whnf);first|exact zf|refine zm ?_|refine zB ?_ ?_|intro _)
   refine aU (λhkp2=>by rw[hkp']at hkp2;cases hkp2) (λhkp2=>?_)
   repeat' ((conv=>whnf);first|exact zf|refine zm ?_|refine zB ?_ ?_|intro _)
   refine⟨eJ t,⟨by simp;omega,by simp[ht],rfl⟩,?_⟩
   repeat' ((conv=>whnf);first|exact zf|refine zm ?_|refine qg _ (by simp at *;omega) ?_|refine zB ?_ ?_|refine aU (λhb=>?_) (λhb=>?_)|intro _)
   exfalso;simp[ri]at *;omega
  |true=>
   have hr:js c code kp=.tu [gp (tO c t code),.d (.bool true)]:=by simp only[js,hkp,htl,hy,ε,δ]
   rw[hr];have h1:1<=t.f/\t.f<=c.fr.length/\0<=t.h/\t.h<=c.st.length:=by
    simp[ri]at hy;omega
   obtain⟨f,hf⟩:∃f,c.fr[(t.f-1).toNat]?=some f:=⟨_,aA (by omega)⟩
   have hrow:(List.take (min (max t.f 0) (List.map bP c.fr).length).toNat (List.map bP c.fr))[(t.f-1).toNat]?=some (bP f):=by
    rw[bO,ζ (by simp;omega),aB,hf];rfl
   have hfc:(gn c.fr t.f)[(t.f-1).toNat]?=some f:=by
    unfold gn;rw[bO,ζ (by omega),hf]
   have hst:vn (gn c.fr t.f) (t.f-1).toNat t.a=(gn c.fr t.f).set (t.f-1).toNat {f with pc:=t.a}:=by simp only[vn,hfc]
   refine sh0 Tryz.f196 ?_
   repeat' ((conv=>whnf);first|exact zf|refine zm ?_|refine zB ?_ ?_|intro _)
   refine aU (λhkp2=>by rw[hkp']at hkp2;cases hkp2) (λhkp2=>?_)
   repeat' ((conv=>whnf);first|exact zf|refine zm ?_|refine zB ?_ ?_|intro _)
   refine⟨eJ t,⟨by simp;omega,by simp[ht],rfl⟩,?_⟩
   repeat' ((conv=>whnf);first|exact zf|refine zm ?_|refine zB ?_ ?_|intro _)
   refine aU (λhb=>absurd hb (by simp;omega)) (λhb=>?_)
   repeat' ((conv=>whnf);first|exact zf|refine zm ?_|refine zB ?_ ?_|intro _)
   refine aU (λhb=>absurd hb (by simp;omega)) (λhb=>?_)
   repeat' ((conv=>whnf);first|exact zf|refine zm ?_|refine zB ?_ ?_|intro _)
   refine aU (λhb=>absurd hb (by simp;omega)) (λhb=>?_)
   repeat' ((conv=>whnf);first|exact zf|refine zm ?_|refine zB ?_ ?_|intro _)
   refine aU (λhb=>absurd hb (by simp;omega)) (λhb=>?_)
   repeat' ((conv=>whnf);first|exact zf|refine zm ?_|refine qg _ (by simp at *;omega) ?_|refine zc (Dm _ _) ?_|refine zB ?_ ?_|intro _)
   refine⟨bP f,hrow,⟨rfl,rfl,rfl⟩,?_⟩
   repeat' ((conv=>whnf);first|exact zf|refine zm ?_|refine zc (wT _ _) ?_|refine⟨_,Kp _ _ _ _ _ _ (by simp;omega),?_⟩|refine(Kp _ _ _ _ _ _ (by simp;omega)).use ?_|refine zc (KS _ _) ?_|refine zB ?_ ?_|intro _)
   show Out.ret (V.tu [V.ag [V.d (.sl 5 ((gn (c.fr.map bP) t.f).set (t.f-1).toNat (bP {f with pc:=t.a}))),V.d (.sl 5 (gn (c.st.map b9) t.h++[b9 (num code)])),V.d (.sl 3 (gn (c.tr.map eJ) ((c.tr.map eJ).length-1)))],V.d (.bool true)])=_;rw[gY,gY,gY];simp only[gp,tO,hst,eR,bt,dI,gO,aI]
def pM(c:Co):Bool:=fQ c 1&&decide (0<c.fr.length)
def zeroV:Va:=⟨0,0,[],[],[]⟩
def ft(c:Co):Co:=⟨gn c.fr (c.fr.length-1),gn c.st (base c),keep (c.fr.length-1) c.tr⟩
def sL(c:Co):Va:=((lF c 1)[0]?).getD zeroV
def E4(c:Co):V:=bif pM c then .tu [gp (ft c),jh (sL c),.d (.bool true)]else .tu [gp c,jh zeroV,.d (.bool false)]
theorem HN(c:Co)(hf:c.fr.length<1000000000)(hs:c.st.length<1000000000)(ht:c.tr.length<1000000000):Z0 249 [gp c] (E4 c):=by
 refine sh0 Tryz.f249 ?_;cases hp:fQ c 1 with
 |false=>
  have hr:BL c 1=.tu [gp c,.d (.sl 5 []),.d (.bool false)]:=sZ hp;have hpop:=zF c 1 hs;rw[hr]at hpop
  repeat' ((conv=>whnf);first|exact zf|refine zm ?_|refine zc hpop ?_|refine zB ?_ ?_|intro _)
  simp only[E4,pM,hp,iV,ε];rfl
 |true=>
  have hr:BL c 1=.tu [gp (sM c 1),.d (.sl 5 ((lF c 1).map b9)),.d (.bool true)]:=lT hp;have hpop:=zF c 1 hs;rw[hr]at hpop
  repeat' ((conv=>whnf);first|exact zf|refine zm ?_|refine zc hpop ?_|refine zB ?_ ?_|intro _)
  refine aU (λhz=>?_) (λhz=>?_)
  .have hz:c.fr.length=0:=by simpa using hz
   have hy:pM c=false:=by simp[pM,hz]
   repeat' ((conv=>whnf);first|exact zf|refine zm ?_|refine zB ?_ ?_|intro _)
   all_goals
    simp only[E4,hy,ε];rfl
  .have hz:0<c.fr.length:=by
    have:¬c.fr.length=0:=by simpa using hz
    omega
   have hy:pM c=true:=by simp[pM,hz,hp]
   simp only[E4,hy,δ];obtain⟨f,hf1⟩:∃f,c.fr[c.fr.length-1]?=some f:=⟨_,aA (by omega)⟩
   have hb:base c=f.ba:=by simp[base,dU,hf1]
   repeat' ((conv=>whnf);first|exact zf|refine zm ?_|refine zB ?_ ?_|intro _)
   refine⟨bP f,⟨by simp;omega,by simp[hf1],rfl⟩,?_⟩
   repeat' ((conv=>whnf);first|exact zf|refine zm ?_|refine zc (wT _ _) ?_|refine zc (Dm _ _) ?_|refine KZ _ (by simp;omega) ?_|refine F2 _ _ ht ?_|refine zB ?_ ?_|intro _)
   all_goals
    obtain⟨v,hv⟩:∃v,(lF c 1)[0]?=some v:=by
     refine⟨_,aA ?_⟩;simp[lF,fQ]at *;omega
    refine⟨b9 v,⟨by omega,by simp[hv],rfl⟩,?_⟩
    repeat' ((conv=>whnf);first|exact zf|refine zm ?_|refine zB ?_ ?_|intro _)
    all_goals
     refine Eq.trans (show _=Out.ret (V.tu [V.ag [V.d (.sl 5 _),V.d (.sl 5 _),V.d (.sl 3 _)],V.ag [V.d _,V.d _,V.d _,V.d _,V.d _],V.d (.bool true)])from rfl) ?_;show Out.ret (V.tu [V.ag [V.d (.sl 5 (gn (c.fr.map bP) ((c.fr.map bP).length-1))),V.d (.sl 5 (gn (c.st.map b9) f.ba)),V.d (.sl 3 ((keep ((c.fr.map bP).length-1) c.tr).map eJ))],jh v,V.d (.bool true)])=_;rw[gY,gY];simp only[gp,ft,sL,hv,hb,aI,cR]
def rh(n:Nat):List Va:=List.replicate n (num 0)
def dW(c:Co):Bool:=decide (c.fr.length<16)
def gK(c:Co)(fn vs:Int)(l:List Va)(ma:Int):Co:=⟨c.fr++[⟨fn,0,c.st.length,ma,l++rh (min (max vs 0) 16).toNat⟩],c.st,c.tr⟩
def lI(c:Co)(fn vs:Int)(l:List Va)(ma:Int):V:=bif dW c then .tu [gp (gK c fn vs l ma),.d (.bool true)]else .tu [gp c,.d (.bool false)]
theorem mS(c:Co)(fn vs:Int)(l:List Va)(ma:Int)(hf:c.fr.length<1000000000)(ha:l.length<1000000000):Z0 54 [gp c,.d (.int .i64 fn),.d (.int .i64 vs),.d (.sl 5 (l.map b9)),.d (.int .u8 ma)] (lI c fn vs l ma):=by
 refine sh0 Tryz.f54 ?_
 repeat' ((conv=>whnf);first|exact zf|refine zm ?_|refine zB ?_ ?_|intro _)
 refine aU (λhno=>?_) (λhyes=>?_)
 .have hno:16<=(c.fr.length:Int):=by simpa using hno
  repeat' ((conv=>whnf);first|exact zf|refine zm ?_|refine zB ?_ ?_|intro _)
  have hy:dW c=false:=by simp[dW];omega
  simp only[lI,hy,ε];rfl
 .have hyes:(c.fr.length:Int)<16:=by simpa using hyes
  have hy:dW c=true:=by simp[dW];omega
  have hr:lI c fn vs l ma=.tu [gp (gK c fn vs l ma),.d (.bool true)]:=by simp only[lI,hy,δ]
  rw[hr]
  repeat' ((conv=>whnf);first|exact zf|refine zm ?_|refine sy _ (by simp;omega) ?_|refine zB ?_ ?_|intro _)
  conv=>whnf
  refine JF [12,18,19,23,24,25,26,27,28,29] (λp:Nat×List Va=>p.1<=(min (max vs 0) 16).toNat/\p.2=l++rh p.1) (λp=>[(12,.os 2),(23,.d (.int .i64 p.1))]) (λp=>[.cells [.d (.sl 5 (c.fr.map bP)),.d (.sl 5 (c.st.map b9)),.d (.sl 3 (c.tr.map eJ))],.cells [.nl 5,.nl 5,.nl 3],.rows 5 (p.2.map b9)]) (λp=>(min (max vs 0) 16).toNat-p.1) (0,l) ⟨aY _,by simp[rh]⟩ ?_ ?_ ?_ (λ⟨i,r⟩ ⟨hi,hr⟩=>?_)
  .exact zzz
  .exact zzz
  .exact rfl
  repeat' ((conv=>whnf);first|exact zf|refine zm ?_|refine zB ?_ ?_|intro _)
  refine aU (λhlt=>?_) (λhge=>?_)
  .have hlt:i<(min (max vs 0) 16).toNat:=by simp at hlt;omega
   have hrl:r.length<1000000100:=by simp at hr;simp[hr,rh];omega
   repeat' ((conv=>whnf);first|exact zf|refine zm ?_|refine zB ?_ ?_|intro _)
   refine⟨(i+1,r++[num 0]),⟨hlt,?_⟩,aN hlt (aQ i),zzz,?_,rfl⟩
   .simp at hr;simp[hr,rh,List.replicate_succ']
   .refine⟨.inl rfl,.inl rfl,?_,trivial⟩;simp[b9,num];rfl
  .have hge:i=(min (max vs 0) 16).toNat:=by simp at hge hi;omega
   repeat' ((conv=>whnf);first|exact zf|refine zm ?_|refine zB ?_ ?_|intro _)
   conv=>whnf
   refine .inr ?_
   repeat' ((conv=>whnf);first|exact zf|refine zm ?_|refine⟨_,Pw _ _ _ _ _ _ (by simp;omega),?_⟩|refine(Pw _ _ _ _ _ _ (by simp;omega)).use ?_|refine zB ?_ ?_|intro _)
   show Out.ret (V.tu [V.ag [V.d (.sl 5 (c.fr.map bP++[[.int .i64 fn,.int .i64 0,.int .i64 (c.st.map b9).length,.int .u8 ma,.sl 5 (r.map b9)]])),V.d (.sl 5 (c.st.map b9)),V.d (.sl 3 (c.tr.map eJ))],V.d (.bool true)])=_;simp at hr;simp[gp,gK,bP,hr,hge]
end Go.Proofs.YtmigecldjbgneaaGreatDoor