/- Lemmas. Conditions: none. -/
import Derived.Test.YtjpgfgajkjhonaaGreatDoorQRBG
import Derived.Test.YtjpgfgajkjhonaaGreatDoorCards
import Derived.Test.YtjpgfgajkjhonaaGreatDoorTie
import Derived.Deep.DeepWitnessRowRef
import Derived.Lib.SmallJoins
import Derived.Stop.LaidErr
import Derived.Lay
import Derived.Test.YtjpgfgajkjhonaaGreatDoorQRBF
set_option maxHeartbeats 4000000
namespace Go.Proofs.YtjpgfgajkjhonaaGreatDoor
open Go.Vx
set_option maxRecDepth 100000
open Go.ChangeShapes Go.WideShapes Go.ChangeAt Go.RowKit
def UM{H:Type}:List D->DataW H
 |[.str s,.int _ a,.int _ b,.int _ c]=>.agg [.lit (.string s),.lit (.int .u8 a),.lit (.int .u8 b),.lit (.int .u8 c)]
 |_=>.nil
theorem Lu{H:Type}:(Rows.laid_lazaretto_op_table:DataW H)=.agg (iB.map UM):=rfl
theorem HQ:laidOutB Tryz.prog=true:=zx0
theorem VZ:ownKnob Tryz.prog.godebug=none:=zx0
theorem Vt:Tryz.prog.globalNamed "lazaretto/op.table" = some 0:=zx0
theorem MM:(Tryz.prog.globals[0]?).map (·.type)=some 276:=zx0
theorem Jk:Tryz.prog.cellsOf 276=188:=zx0
theorem zH:Tryz.prog.cellsOf 275=4:=zx0
theorem RY:Tryz.prog.cellsOf 5=1:=zx0
theorem RX:Tryz.prog.cellsOf 9=1:=zx0
theorem MO{α:Type}{cs:List α}(h:cs.length=4):∃c0 c1 c2 c3,cs=[c0,c1,c2,c3]:=by
 match cs,h with
 |[c0,c1,c2,c3],_=>exact⟨c0,c1,c2,c3,rfl⟩
theorem Pm{H:Type}{enc:TypeId×Value->H}{w:World}{base:Nat}{sp:Nat->Bool}{held:Bool}{fuel:Nat}{cs:List Value}{s:List UInt8}{a b c:Int}{p:List MemPlace}(G:Nat->Prop)
  (h:DataW.trod enc Tryz.prog w base sp held fuel 275 cs=some (.agg [.lit (.string s),.lit (.int .u8 a),.lit (.int .u8 b),.lit (.int .u8 c)],p)) :
  cs.length=4/\∀(j:Nat)(x:D),[D.str s,.int .u8 a,.int .u8 b,.int .u8 c][j]?=some x->∃v,cs[j]?=some v/\bp G w v x:=by
 obtain⟨y0,y1,y2,y3,n,hx,hl,h0,h1,h2,h3⟩:=Go.Joins.trod_struct4 Tryz.underlying275 h;rw[zH]at hl;obtain⟨c0,c1,c2,c3,rfl⟩:∃c0 c1 c2 c3,cs=[c0,c1,c2,c3]:=MO hl;simp only[RX,RY,List.drop_zero,mM,dV,nS]at h0 h1 h2 h3;obtain⟨s',e0,rfl,hs⟩:=DataW.trod_string Tryz.underlying9 h0;obtain⟨a',e1,rfl,_⟩:=DataW.trod_int Tryz.underlying5 h1;obtain⟨b',e2,rfl,_⟩:=DataW.trod_int Tryz.underlying5 h2;obtain⟨c',e3,rfl,_⟩:=DataW.trod_int Tryz.underlying5 h3;simp only[List.cons.injEq,ω]at e0 e1 e2 e3;subst e0 e1 e2 e3;simp only[bz,DataW.agg.injEq,List.cons.injEq,DataW.lit.injEq,Lit.string.injEq,Lit.int.injEq,ω,true_and]at hx;obtain⟨⟨rfl,rfl,rfl,rfl⟩,_⟩:=hx;refine⟨rfl,λj x hj=>?_⟩
 match j,hj with
 |0,hj=>cases hj;exact⟨_,rfl,.str s' hs⟩
 |1,hj=>cases hj;exact⟨_,rfl,.int .u8 _⟩
 |2,hj=>cases hj;exact⟨_,rfl,.int .u8 _⟩
 |3,hj=>cases hj;exact⟨_,rfl,.int .u8 _⟩
 |j+4,hj=>simp at hj
theorem Ge:∀i,i<47->∃s a b c,iB[i]?=some [.str s,.int .u8 a,.int .u8 b,.int .u8 c]:=by
 intro i hi
 match i,hi with
 |0,_|1,_|2,_|3,_|4,_|5,_|6,_|7,_|8,_|9,_|10,_|11,_|12,_|13,_|14,_|15,_|16,_|17,_|18,_|19,_|20,_|21,_|22,_|23,_|24,_|25,_|26,_|27,_|28,_|29,_|30,_|31,_|32,_|33,_|34,_|35,_|36,_|37,_|38,_|39,_|40,_|41,_|42,_|43,_|44,_|45,_|46,_=>exact⟨_,_,_,_,rfl⟩
 |n+47,h=>omega
theorem Nt:∀(l:List (List D)),(∀r∈l,r.length=4)->∀(j:Nat),l.flatten[j]?=(l[j / 4]?).bind (·[j % 4]?)
 |[],_,j=>by simp
 |r::l,h,j=>by
  have hr:=h r (by simp);rw[List.flatten_cons]
  by_cases hj:j<4
  .rw[aT (by omega),Nat.div_eq_of_lt hj,dQ hj];simp
  .rw[aY (by omega),Nt l (λx hx=>h x (by simp[hx])),hr,show j / 4=(j-4) / 4+1 by omega,show j % 4=(j-4) % 4 by omega];simp
theorem JB(j:Nat):j / 4*4+j % 4=j:=by omega
theorem L9{l:List (List D)}{n i:Nat}{f:List D->Option D}{x:D}{A:Prop}(hl:l.length=n)(h:¬i<n)(hx:(l[i]?).bind f=some x):A:=by
 rw[gp (by omega)]at hx;cases hx
theorem QL:iB.length=47:=rfl
theorem LZ:∀r∈iB,r.length=4:=by decide
theorem SV{k g:Nat}{r row:List D}(h:AE [(k,r)] g=some row):g=k/\row=r:=by
 simp only[AE]at h;cases hb:Nat.beq k g with
 |false=>rw[hb]at h;cases h
 |true=>
  rw[hb]at h;exact⟨(eH hb).symm,(aq h).symm⟩
theorem Qs{W:World}(h:laidMet Tryz.prog Rows.sysThrowsRow.laid W):Ri (all W) W:=by
 have h7:laidMet Tryz.prog [("lazaretto/op.table",Rows.laid_lazaretto_op_table),("unicode/utf8.first",Rows.laid_unicode_utf8_first)] W:=laidMet.tail (laidMet.tail (laidMet.tail (laidMet.tail (laidMet.tail (laidMet.tail h)))));obtain⟨ps,⟨g,t,cs,fuel,p,q,hg,ht,hv,hd,_,_⟩,_⟩:=h7;obtain rfl:=aq (Vt.symm.trans hg);obtain rfl:=aq (MM.symm.trans ht);rw[Lu]at hd;obtain⟨xs,m,rfl,hx,hl,hxl,hel⟩:=DataW.trod_array Tryz.underlying276 hd;rw[zH]at hel;rw[Jk]at hl;simp only[bz,DataW.agg.injEq]at hx;have hlt:0<W.heap.size:=by
  unfold World.var? at hv;rw[Vt]at hv;rcases de 0 W.heap.size with h'|h'
  .exact h'
  .simp[kG h']at hv
 have key:∀(j:Nat)(x:D),iB.flatten[j]?=some x->∃v,cs[j]?=some v/\bp (all W) W v x:=by
  intro j x hj;rw[Nt _ LZ]at hj
  by_cases hi:j / 4<47
  .obtain⟨s,a,b,c,hs⟩:=Ge _ hi;have h1:=hel _ hi;have h2:(xs.map (·.1))[j / 4]?=some (.agg [.lit (.string s),.lit (.int .u8 a),.lit (.int .u8 b),.lit (.int .u8 c)]):=by
    rw[<-hx.1,aB,hs];rfl
   rw[aB]at h2;cases hy:xs[j / 4]? with
   |none=>rw[hy]at h2;cases h2
   |some y=>
    rw[hy]at h2 h1;obtain⟨y1,y2⟩:=y;simp only[bE,aE]at h2;subst h2;obtain⟨_,hk⟩:=Pm (all W) h1;rw[hs]at hj;obtain⟨v,hv1,hv2⟩:=hk (j % 4) x (by simpa using hj);refine⟨v,?_,hv2⟩;rw[List.getElem?_take_of_lt (Nat.mod_lt _ (by decide)),bF,JB]at hv1;rw[<-bt];exact hv1
  .exact L9 QL hi hj
 intro g row hrow;have hg0:g=0/\row=iB.flatten:=by
  unfold UF at hrow;exact SV hrow
 obtain⟨rfl,rfl⟩:=hg0;refine⟨hlt,λj=>cs.getD j undef,λj x hj=>?_,λj x hj=>?_⟩
 .obtain⟨v,h1,_⟩:=key j x hj;rw[World.var?_cell Vt hv,cF,h1];simp[h1]
 .obtain⟨v,h1,h2⟩:=key j x hj;simp only[aF,h1];exact h2
theorem T_{l:List (String×DataW Unit)}(e:(l.filter λx=>x.2.handleName?.isSome)=[]){W:World}(h:laidMetH Tryz.prog l W):laidMet Tryz.prog l W:=by
 unfold laidMetH at h;rw[e]at h;exact h
theorem Af:(Rows.sysThrowsRow.laid.filter λx=>x.2.handleName?.isSome)=[]:=zx0
theorem sF{W:World}(h:laidMetH Tryz.prog Rows.sysThrowsRow.laid W):Ri (all W) W:=Qs (T_ Af h)
noncomputable def yg(os:Os):World:=World.laidAll Tryz.prog os Rows.sysThrowsRow.laid
theorem HP(os:Os):(yg os).os=os:=World.laidAll_os _ _ _
theorem ER(os:Os)(args:Array Value):laidMet Tryz.prog Rows.sysThrowsRow.laid ((yg os).forCall (λ_ _=>0) ⟨#[],args,[]⟩).memory:=
 laidMet_laidAll args zx0 zx0
theorem As(os:Os)(args:Array Value):(((yg os).forCall (λ_ _=>0) ⟨#[],args,[]⟩).heap.toList.drop Tryz.checked.prog.globals.size).take ((begin Tryz.checked.prog (λ_ _=>0) default).world.heap.size-Tryz.checked.prog.globals.size) =
 (begin Tryz.checked.prog (λ_ _=>0) default).world.heap.toList.drop Tryz.checked.prog.globals.size:=zx0
abbrev VH:Go.Vx.Ty:=.pr .str (.pr .str .un)
abbrev Ug:Go.Vx.Ty:=.pr (.int .i64) (.pr (.int .i64) (.pr .str (.pr VH .un)))
abbrev VG:Go.Vx.Ty:=.pr .str (.pr .bool (.pr Ug .un))
abbrev XX:Go.Vx.Ty:=.pr .bool (.pr Ug (.pr (.sl VG) .un))
abbrev Wm:Go.Vx.Ty:=.pr (.int .i64) (.pr VH (.pr Ug (.pr .bool (.pr .bool (.pr XX (.pr (.int .i64) (.pr (.int .u8) .un)))))))
abbrev SP:Go.Vx.Ty:=.pr (.int .u8) (.pr Wm .un)
abbrev Wl:Go.Vx.Ty:=.pr (.int .u8) (.pr (.int .u8) (.pr (.int .u8) (.pr (.int .u8) (.pr (.int .u8) (.pr (.int .u8) .un)))))
theorem SM:v_ Tryz.prog 9 22=some (.sl (.sl (.int .u8))):=zx0
theorem SN:v_ Tryz.prog 9 23=some (.sl SP):=zx0
theorem SO:v_ Tryz.prog 9 25=some Wl:=zx0
theorem wK{N:Nat}{xs:List D}(h:mO N (.int .u8) xs):∃n:Int,(0<=n/\n<=255)/\xs=[D.int .u8 n]:=by
 obtain⟨n,rfl,hn⟩:=pQ h;exact⟨n,⟨by unfold eK at hn;omega,by unfold eK at hn;omega⟩,rfl⟩
theorem yG:∀(rows:List (List D)),(∀row∈rows,∃n:Int,(0<=n/\n<=255)/\row=[D.int .u8 n])->∃l,rows=d_ l/\pE l
 |[],_=>⟨[],rfl,λ_ h=>by cases h⟩
 |r::rs,h=>by
  obtain⟨n,hn,rfl⟩:=h r (by simp);obtain⟨l,rfl,hl⟩:=yG rs (λy hy=>h y (by simp[hy]));exact⟨n::l,rfl,λx hx=>by
   rcases af.1 hx with rfl|hx
   .exact hn
   .exact hl x hx⟩
theorem vK{N:Nat}:∀(rows:List (List D)),(∀row∈rows,mO N (.sl (.int .u8)) row)->∃L:List (List Int),rows=(L.map λl=>[D.sl 1 (d_ l)])/\∀l∈L,pE l
 |[],_=>⟨[],rfl,λ_ h=>by cases h⟩
 |r::rs,h=>by
  obtain⟨q,rfl,_,hq⟩:=wJ (h r (by simp));obtain⟨l,rfl,hl⟩:=yG q λrow hrow=>wK (hq row hrow);obtain⟨L,rfl,hL⟩:=vK rs (λy hy=>h y (by simp[hy]));exact⟨l::L,rfl,λx hx=>by
   rcases af.1 hx with rfl|hx
   .exact hl
   .exact hL x hx⟩
theorem Pe{N:Nat}{rows:List (List D)}(h:mO N (.sl (.sl (.int .u8))) [.sl (Go.Vx.Ty.sl (.int .u8)).n rows]):∃L:List (List Int),rows=(L.map λl=>[D.sl 1 (d_ l)])/\∀l∈L,pE l:=by
 obtain⟨_,he,_,hr⟩:=wJ h;cases he;exact vK rows hr
section
variable{xs:List D}
theorem S3(h:mO 1048576 VH xs):∃l:Lb,xs=[.str l.s,.str l.i]/\cL l:=by
 obtain⟨_,_,rfl,h1,g1⟩:=dp h;obtain⟨s,rfl,l1⟩:=ru h1;obtain⟨_,_,rfl,h2,g2⟩:=dp g1;obtain⟨i,rfl,l2⟩:=ru h2;cases o8 g2;exact⟨⟨s,i⟩,rfl,And.intro (aV l1 (by decide)) (aV l2 (by decide))⟩
theorem Pd(h:mO 1048576 Ug xs):∃v:Va,xs=cE v/\cL (a_ v):=by
 obtain⟨_,_,rfl,h1,g1⟩:=dp h;obtain⟨k,rfl,_⟩:=pQ h1;obtain⟨_,_,rfl,h2,g2⟩:=dp g1;obtain⟨n,rfl,_⟩:=pQ h2;obtain⟨_,_,rfl,h3,g3⟩:=dp g2;obtain⟨nm,rfl,_⟩:=ru h3;obtain⟨_,_,rfl,h4,g4⟩:=dp g3;obtain⟨l,rfl,hl⟩:=S3 h4;cases o8 g4;exact⟨⟨k,n,nm,l.s,l.i⟩,rfl,hl⟩
theorem VS(h:mO 1048576 VG xs):∃w:Wt,xs=eL w/\cL (a_ w.v):=by
 obtain⟨_,_,rfl,h1,g1⟩:=dp h;obtain⟨i,rfl,_⟩:=ru h1;obtain⟨_,_,rfl,h2,g2⟩:=dp g1;obtain⟨b,rfl⟩:=pR h2;obtain⟨_,_,rfl,h3,g3⟩:=dp g2;obtain⟨v,rfl,hv⟩:=Pd h3;cases o8 g3;exact⟨⟨i,b,v⟩,rfl,hv⟩
theorem NW:∀(rows:List (List D)),(∀row∈rows,mO 1048576 VG row)->∃q:List Wt,rows=q.map eL/\∀w∈q,cL (a_ w.v)
 |[],_=>⟨[],rfl,λ_ h=>by cases h⟩
 |r::rs,h=>by
  obtain⟨w,rfl,hw⟩:=VS (h r (by simp));obtain⟨q,rfl,hq⟩:=NW rs (λy hy=>h y (by simp[hy]));exact⟨w::q,rfl,λx hx=>by
   rcases af.1 hx with rfl|hx
   .exact hw
   .exact hq x hx⟩
theorem VU(h:mO 1048576 Wm xs):∃o:Ob,xs=fD o/\kL 255 1048576 o:=by
 obtain⟨_,_,rfl,h1,g1⟩:=dp h;obtain⟨k,rfl,_⟩:=pQ h1;obtain⟨_,_,rfl,h2,g2⟩:=dp g1;obtain⟨l,rfl,hl⟩:=S3 h2;obtain⟨_,_,rfl,h3,g3⟩:=dp g2;obtain⟨v,rfl,hv⟩:=Pd h3;obtain⟨_,_,rfl,h4,g4⟩:=dp g3;obtain⟨ex,rfl⟩:=pR h4;obtain⟨_,_,rfl,h5,g5⟩:=dp g4;obtain⟨dn,rfl⟩:=pR h5;obtain⟨_,_,rfl,h6,g6⟩:=dp g5;obtain⟨_,_,rfl,a1,b1⟩:=dp h6;obtain⟨full,rfl⟩:=pR a1;obtain⟨_,_,rfl,a2,b2⟩:=dp b1;obtain⟨u,rfl,hu⟩:=Pd a2;obtain⟨_,_,rfl,a3,b3⟩:=dp b2;obtain⟨rows,rfl,hn,hr⟩:=wJ a3;obtain⟨q,rfl,hq⟩:=NW rows hr;cases o8 b3;obtain⟨_,_,rfl,h7,g7⟩:=dp g6;obtain⟨fu,rfl,_⟩:=pQ h7;obtain⟨_,_,rfl,h8,g8⟩:=dp g7;obtain⟨ma,hm,rfl⟩:=wK h8;cases o8 g8;exact⟨⟨k,l,v,ex,dn,⟨full,u,q⟩,fu,ma⟩,rfl,⟨hl,hv,hu,hq,by rw[aH]at hn;exact hn,hm⟩⟩
theorem VV(h:mO 1048576 SP xs):∃p:Int×Ob,xs=jM p/\vQ 255 1048576 p:=by
 obtain⟨_,_,rfl,h1,g1⟩:=dp h;obtain⟨i,hi,rfl⟩:=wK h1;obtain⟨_,_,rfl,h2,g2⟩:=dp g1;obtain⟨o,rfl,ho⟩:=VU h2;cases o8 g2;exact⟨(i,o),by show[D.int .u8 i]++(fD o++[])=_;rw[cV];rfl,⟨hi,ho⟩⟩
theorem yH:∀(rows:List (List D)),(∀row∈rows,mO 1048576 SP row)->∃l:List (Int×Ob),rows=l.map jM/\∀p∈l,vQ 255 1048576 p
 |[],_=>⟨[],rfl,λ_ h=>by cases h⟩
 |r::rs,h=>by
  obtain⟨w,rfl,hw⟩:=VV (h r (by simp));obtain⟨q,rfl,hq⟩:=yH rs (λy hy=>h y (by simp[hy]));exact⟨w::q,rfl,λx hx=>by
   rcases af.1 hx with rfl|hx
   .exact hw
   .exact hq x hx⟩
theorem S4{rows:List (List D)}(h:mO 1048576 (.sl SP) [.sl SP.n rows]):∃l:List (Int×Ob),rows=l.map jM/\(∀p∈l,vQ 255 1048576 p)/\l.length<=1048576:=by
 obtain⟨_,he,hn,hr⟩:=wJ h;cases he;obtain⟨l,rfl,hl⟩:=yH rows hr;exact⟨l,rfl,hl,by rw[aH]at hn;exact hn⟩
theorem VT(h:mO 1048576 Wl xs):∃x:FT,xs.map V.d=p_ x/\yT x:=by
 obtain⟨_,_,rfl,h1,g1⟩:=dp h;obtain⟨a,ha,rfl⟩:=wK h1;obtain⟨_,_,rfl,h2,g2⟩:=dp g1;obtain⟨b,hb,rfl⟩:=wK h2;obtain⟨_,_,rfl,h3,g3⟩:=dp g2;obtain⟨c,hc,rfl⟩:=wK h3;obtain⟨_,_,rfl,h4,g4⟩:=dp g3;obtain⟨d,hd,rfl⟩:=wK h4;obtain⟨_,_,rfl,h5,g5⟩:=dp g4;obtain⟨e,he,rfl⟩:=wK h5;obtain⟨_,_,rfl,h6,g6⟩:=dp g5;obtain⟨f,hf,rfl⟩:=wK h6;cases o8 g6;exact⟨⟨a,b,c,d,e,f⟩,rfl,⟨ha,hb,hc,hd,he,hf⟩⟩
end
theorem Pc{H:Type}{l:List (DataW H)}(hk:Rows.uptoSmall H l=true):Rows.uptoBulkAll l<=1048576:=θ hk
end Go.Proofs.YtjpgfgajkjhonaaGreatDoor
namespace Go.Proofs.YtjpgfgajkjhonaaGreatDoor
open Go.Vx
set_option maxRecDepth 100000
structure L5(im:Im)(t:Th)(s:b7)(now:Int):Prop where
  st:St im t.c (bQ t).fr (bQ t).tr (du im t.c (bQ t).fr (bQ t).tr)
  lf:t.c.fr.length<900000000
  ls:t.c.st.length<800000000
  q:wI s t.id
  ask:(du im t.c (bQ t).fr (bQ t).tr).2.k=3->∃o f i F,du im t.c (bQ t).fr (bQ t).tr=(t.c,⟨3,zeroV,o⟩)/\t.c.fr.getLast?=some f/\inf o.c=some i/\ez t.c i.po=true/\(0<=f.pc/\f.pc<1000000000)/\DQ o.c F/\Nat.blt F 5000000=true /\
    (∀{K:KT},(FM (iu (lZ im t now) o f i.po) s).K K->Z1 F [.p 0 0] (eP (iu (lZ im t now) o f i.po) s) K)/\∀n c' s',FM (iu (lZ im t now) o f i.po) s=.ex n c' s'->wI s' c'.t.id
theorem RD {K : Out → H → Prop} (im : Im) (t : Th) (s : b7) (now : Int) (h : t.st = 0 → L5 im t s now) (hk : ∀ b, K (.ret (.tu [ep (Ek im t s now b).t, re ((Ek im t s now b).e.ef (Ek im t s now b).d)])) (jW (Ek im t s now b).s)) :
    Z1 34 [x4 im,ep t,.p 0 0,.d (.int .i64 now)] (jW s) K:=by
  unfold Ek at hk
  by_cases h0:t.st=0
  · have hz:(t.st != 0)=false:=by simp[h0]
    rw[hz]at hk
    have hd:=h h0
    have h1:=xI t
    have h2:=hd.st
    have hq:=hd.q
    have hask:=hd.ask
    unfold St at h2
    generalize hr:du im t.c (bQ t).fr (bQ t).tr=r at h2 hk hask
    obtain⟨k,u⟩:=r
    by_cases k1:u.k=1
    · rw[show(u.k==1)=true by simp[k1]]at hk
      have h3:=λ{K:KT}=>nz (K:=K) (qq (lZ im t now) k) s u.v false hq
      refine sh0 Tryz.f34 ?_
      repeat' ((conv=>whnf);first|exact zf|refine zm ?_|refine zc h1 ?_|refine zc h2 ?_|refine zr0 ?_|refine(h3 ?_)|refine zt ?_|refine zu ?_|intro _)
      exact hk none
    · by_cases k2:u.k=2
      · rw[show(u.k==1)=false by simp[k1],show(u.k==2)=true by simp[k2]]at hk
        have h3:=λ{K:KT}=>nz (K:=K) (qq (lZ im t now) k) s u.v true hq
        refine sh0 Tryz.f34 ?_
        repeat' ((conv=>whnf);first|exact zf|refine zm ?_|refine zc h1 ?_|refine zc h2 ?_|refine zr0 ?_|refine(h3 ?_)|refine zt ?_|refine zu ?_|intro _)
        exact hk none
      · by_cases k3:u.k=3
        · rw [show (u.k == 1) = false by simp [k1], show (u.k == 2) = false by simp [k2], show (u.k == 3) = true by simp [k3]] at hk
          obtain⟨o,f,i,F,e,hf,hi,hp,hpc,hF,hlt,hR,hx⟩:=hask k3
          cases e
          have h3:=λ{K:KT}=>PC (K:=K) (lZ im t now) s o f i F _ hi hf hd.lf hd.ls hp hpc hF hlt hR hx
          replace hk:∀b,K (.ret (.tu [ep ((FM (iu (lZ im t now) o f i.po) s).fin t.c b).t,re (((FM (iu (lZ im t now) o f i.po) s).fin t.c b).e.ef ((FM (iu (lZ im t now) o f i.po) s).fin t.c b).d)])) (jW ((FM (iu (lZ im t now) o f i.po) s).fin t.c b).s):=λb=>by
            have:=hk b
            unfold U3 at this
            rw[show(lZ im t now).t.c.fr.getLast?=some f from hf,hi]at this
            exact this
          generalize FM (iu (lZ im t now) o f i.po) s=R at h3 hk
          cases R with
          |ok e g=>
            cases e
            all_goals
              refine sh0 Tryz.f34 ?_
              repeat' ((conv=>whnf);first|exact zf|refine zm ?_|refine zc h1 ?_|refine zc h2 ?_|refine zr0 ?_|refine(h3 (λb=>?_))|refine zt ?_|refine zu ?_|intro _)
              exact hk _
          |ex n c' s'=>
            have h4:=λ{K:KT}(g:K (.ret (.tu [])) (UX (ke c' s' t.c n)))=>h3 (K:=K) g
            refine sh0 Tryz.f34 ?_
            repeat' ((conv=>whnf);first|exact zf|refine zm ?_|refine zc h1 ?_|refine zc h2 ?_|refine zr0 ?_|refine(h4 ?_)|refine zt ?_|refine zu ?_|intro _)
            exact hk none
        · rw[show(u.k==1)=false by simp[k1],show(u.k==2)=false by simp[k2],show(u.k==3)=false by simp[k3]]at hk
          refine sh0 Tryz.f34 ?_
          repeat' ((conv=>whnf);first|exact zf|refine zm ?_|refine zc h1 ?_|refine zc h2 ?_|refine zt ?_|refine zu ?_|intro _)
          exact hk none
  · have hz:(t.st != 0)=true:=by simp[h0]
    rw[hz]at hk
    refine sh0 Tryz.f34 ?_
    repeat' ((conv=>whnf);first|exact zf|refine zm ?_|refine zt ?_|refine zu ?_|intro _)
    exact hk none
section
variable{im:Im}{c:Co}{fr tr:Int}
def MV(k:Int):Bool:=(k==1)||((k==2)||((k==18)||((k==27)||((k==29)||((k==30)||((k==32)||((k==35)||(k==41))))))))
theorem Bw(h:Rv im c){o:Op}(hf:fit im c=some o)(hs:MV o.c=true):St im c fr tr (du im c fr tr):=by
 unfold du;rw[hf];obtain⟨f,fn,hl,w1,hfn,w2,ho,hr,hop,hpo⟩:=nI hf;simp only[hl];obtain⟨a1,a2⟩:=within_iff.1 w2;have:=h.cd _ _ hfn;have x:Cx im c fr tr o f fn:=⟨h.hI,hf,hl,⟨a1,by omega⟩,hop,hpo,h.lf,h.ls,h.lt⟩
 obtain⟨k,oa⟩:=o;simp only[MV,cI,ξ]at hs;rcases hs with rfl|rfl|rfl|rfl|rfl|rfl|rfl|rfl|rfl
 .exact Wv x
 .exact Wu x
 .exact T9 x
 all_goals exact ui x (λ_=>rfl)
end
def eS:b7:=⟨[],[]⟩
abbrev SS:=Option Nat->Th×b7
def Te(k:Int)(m:Lb)(v:Va):Ob:={fK with k:=k,l:=m,v:=v}
theorem vV{key:List UInt8}:∀{l:List (List UInt8×Ob)}{i:Nat}{o:Ob},bW key l=some (i,o)->∃p∈l,p.2=o
 |[],_,_,h=>nomatch h
 |p::r,i,o,h=>by
  unfold bW at h
  by_cases hb:key=p.1
  .rw[ζ hb]at h;cases h;exact⟨p,b8 ..,rfl⟩
  .rw[η hb]at h;cases hr:bW key r with
   |none=>rw[hr]at h;cases h
   |some q=>
    rw[hr]at h;obtain⟨p',hp,he⟩:=vV (i:=q.1) (o:=q.2) (by rw[hr]);cases h;exact⟨p',cM _ hp,he⟩
theorem o7{s:b7}{nm:List UInt8}(h:∀p∈s.th,p.2.va.q.length<100000000):wI s nm:=λi o ho=>by
 obtain⟨p,hp,he⟩:=vV ho;rw[<-he];exact h p hp
theorem X0(a b:Lb):cL (da a b):=⟨ft _,ft _⟩
theorem Kd:bm [3]=[51]:=zx0
theorem y9{c c':Ca}{s s':b7}{o:Ob}{n:Int}(h:rD c s o=.ex n c' s'):s'=s:=by
 unfold rD at h;cases hw:bT c.t.g o.l==0<;>rw[hw]at h
 .cases h;rfl
 .cases hr:decide (c.t.ro<1)<;>rw[hr]at h<;>cases h;rfl
theorem Da{c c':Ca}{s s':b7}{l:Lb}{n:Int}(h:me c s l=.ex n c' s'):s'=s:=by
 unfold me at h;cases hw:dN c.t.g l==0<;>rw[hw]at h<;>cases h;rfl
theorem CV{k:Int}{c c':Ca}{s s':b7}{n:Int}(h:EG k c s=.ex n c' s'):s'=s:=by
 unfold EG at h;cases hw:bw [0,2] c.ar<;>rw[hw]at h
 .cases h;rfl
 .exact y9 h
theorem Gw{c c':Ca}{s s':b7}{n:Int}(h:Gx c s=.ex n c' s'):s'=s:=by
 unfold Gx at h;cases hw:bw [2] c.ar<;>rw[hw]at h
 .cases h;rfl
 .exact y9 h
theorem Dw{c c':Ca}{s s':b7}{n:Int}(h:oh c s=.ex n c' s'):s'=s:=by
 unfold oh at h;cases hw:bw [2] c.ar<;>rw[hw]at h
 .cases h;rfl
 .exact Da h
theorem LU{c c':Ca}{s s':b7}{n:Int}(h:A6 c s=.ex n c' s'):s'=s:=by
 unfold A6 at h;cases hw:bw [0,2] c.ar<;>rw[hw]at h
 .cases h;rfl
 .cases hg:bT c.t.g (a_ (c.ar[1]?.getD dT))==0<;>rw[hg]at h<;>cases h;rfl
theorem Gd{c c':Ca}{s s':b7}{n:Int}(h:tA c s=.ex n c' s'):s'=s:=by
  unfold tA at h
  cases hw:bw [3] c.ar<;>rw[hw]at h
  · cases h;rfl
  · rw [δ] at h
    unfold pW at h
    cases ht:dN c.t.g (a_ (c.ar[0]?.getD dT))==0<;>rw[ht]at h
    · cases h;rfl
    · rw[δ]at h
      split at h
      · unfold mJ at h
        rename_i p o hp
        cases ho:o.ex<;>rw[ho]at h<;>cases h
        rfl
      · cases h
theorem A7{c c':Ca}{s s':b7}{n:Int}(h:FM c s=.ex n c' s'):s'=s:=by
 unfold FM at h;cases h1:c.o.c==27<;>rw[h1]at h
 .cases h2:c.o.c==29<;>rw[h2]at h
  .cases h3:c.o.c==30<;>rw[h3]at h
   .cases h4:c.o.c==32<;>rw[h4]at h
    .cases h5:c.o.c==35<;>rw[h5]at h
     .cases h6:c.o.c==41<;>rw[h6]at h
      .cases h;rfl
      .exact LU h
     .exact Gw h
    .exact CV h
   .exact Gd h
  .exact CV h
 .exact Dw h
theorem CU{p:List UInt8×Ob}(h:p∈eS.th):p.2.va.q.length<100000000:=nomatch h
theorem p4(n:Int):Z0 21 [.d (.int .i64 n)] (j7 (num n)):=by
 refine sh0 Tryz.f21 ?_
 exact zj0
theorem Hl:Z0 30 [] (je ⟨[0],[]⟩):=by
 refine sh0 Tryz.f30 ?_
 exact zj0
def DD(c:Ca)(e:List V)(a:V)(s:Nat):List V:=
 [.nl 5,.nl 3,.p s 0,.d (.int .i64 c.now)]++(ei c.t).map .d++[.d (.int .i64 c.tr)]++e++[.d (.int .i64 c.o.c),.d (.int .i64 c.o.a),a,.d (.int .u8 c.ma)]
def XJ(c:Ca)(s:b7):H:=.cells (DD c [.nl 20,.nl 7,.nl 6,.nl 2,.d (.bool false)] (.nl 5) 1)::[.cells [.mp 2,.mp 3],.dm (jV s.th),.ms 1 (kM s.nm) none none]
def XI(p:Ca×Bool×b7):H:=.cells (DD p.1 [.nl 20,.nl 7,.nl 6,.nl 2,.d (.bool p.2.1)] (.nl 5) 1)::[.cells [.mp 2,.mp 3],.dm (jV p.2.2.th),.ms 1 (kM p.2.2.nm) none none]
theorem Ee{K:KT}(c:Ca)(s:b7)(v:Va)(ex:Bool)(hqa:∀i o,bW c.t.id s.th=some (i,o)->o.va.q.length<100000000)(hk:K (.ret (.tu [])) (XI (oK c s v ex))):Z1 72 [.p 0 0,j7 v,.d (.bool ex)] (XJ c s) K:=by
 have h1:=q8 c.t v ex;have hid:(eW c.t v ex).id=c.t.id:=rfl;unfold oK at hk;generalize eW c.t v ex=t at h1 hid hk;rw[<-hid]at hqa;have hq:(gk s t.id).va.q.length<100000000:=by
  unfold gk;cases hlk:bW t.id s.th with
  |none=>simp[fK,Ag]
  |some p=>exact hqa p.1 p.2 hlk
 by_cases h30:t.st=3
 .have hnot:¬(t.st≠3/\t.st≠4):=λh=>h.1 h30;simp only[hnot,ψ]at hk;have hg:=pj (K:=λout h=>out=.ret (.tu [gJ (gk s t.id),.d (.bool (gu s t.id))])/\h=jW s) s t.id hq ⟨rfl,rfl⟩;unfold gk gu at hg;cases hlk:bW t.id s.th with
  |none=>
   rw[hlk]at hg hk;refine sh0 Tryz.f72 ?_
   repeat' ((conv=>whnf);first|exact zf|refine(bh (bu ?_):eO _ (eO (kZ _ _ _ _ 16 _ _ _ _ _ _ _) _))|refine zm ?_|refine zc h1 ?_|refine⟨_,_,hg,?_⟩|refine zt ?_|refine zu ?_|intro _)
   exact hk
  |some p=>
   obtain⟨i,o⟩:=p;rw[hlk]at hg hk
   by_cases h6:o.k=6
   .have hset:=λ{K:KT}=>l9 (K:=K) s t.id i {o with v:=v,ex:=ex,dn:=true} o hlk rfl rfl (hqa i o hlk);dsimp only at hk;rw[ζ h6]at hk;refine sh0 Tryz.f72 ?_
    repeat' ((conv=>whnf);first|exact zf|refine(bh (bu ?_):eO _ (eO (kZ _ _ _ _ 16 _ _ _ _ _ _ _) _))|refine zm ?_|refine zc h1 ?_|refine⟨_,_,hg,?_⟩|refine zr0 ?_|refine(hset ?_)|refine zt ?_|refine zu ?_|intro _)
    exact hk
   .simp only[h6,ψ]at hk;refine sh0 Tryz.f72 ?_
    repeat' ((conv=>whnf);first|exact zf|refine(bh (bu ?_):eO _ (eO (kZ _ _ _ _ 16 _ _ _ _ _ _ _) _))|refine zm ?_|refine zc h1 ?_|refine⟨_,_,hg,?_⟩|refine zt ?_|refine zu ?_|intro _)
    exact hk
 .by_cases h3:t.st=4
  .have hnot:¬(t.st≠3/\t.st≠4):=λh=>h.2 h3;simp only[hnot,ψ]at hk;have hg:=pj (K:=λout h=>out=.ret (.tu [gJ (gk s t.id),.d (.bool (gu s t.id))])/\h=jW s) s t.id hq ⟨rfl,rfl⟩;unfold gk gu at hg;cases hlk:bW t.id s.th with
   |none=>
    rw[hlk]at hg hk;refine sh0 Tryz.f72 ?_
    repeat' ((conv=>whnf);first|exact zf|refine(bh (bu ?_):eO _ (eO (kZ _ _ _ _ 16 _ _ _ _ _ _ _) _))|refine zm ?_|refine zc h1 ?_|refine⟨_,_,hg,?_⟩|refine zt ?_|refine zu ?_|intro _)
    exact hk
   |some p=>
    obtain⟨i,o⟩:=p;rw[hlk]at hg hk
    by_cases h6:o.k=6
    .have hset:=λ{K:KT}=>l9 (K:=K) s t.id i {o with v:=v,ex:=ex,dn:=true} o hlk rfl rfl (hqa i o hlk);dsimp only at hk;rw[ζ h6]at hk;refine sh0 Tryz.f72 ?_
     repeat' ((conv=>whnf);first|exact zf|refine(bh (bu ?_):eO _ (eO (kZ _ _ _ _ 16 _ _ _ _ _ _ _) _))|refine zm ?_|refine zc h1 ?_|refine⟨_,_,hg,?_⟩|refine zr0 ?_|refine(hset ?_)|refine zt ?_|refine zu ?_|intro _)
     exact hk
    .simp only[h6,ψ]at hk;refine sh0 Tryz.f72 ?_
     repeat' ((conv=>whnf);first|exact zf|refine(bh (bu ?_):eO _ (eO (kZ _ _ _ _ 16 _ _ _ _ _ _ _) _))|refine zm ?_|refine zc h1 ?_|refine⟨_,_,hg,?_⟩|refine zt ?_|refine zu ?_|intro _)
     exact hk
  .have hyes:t.st≠3/\t.st≠4:=⟨h30,h3⟩
   rw[ζ hyes]at hk;refine sh0 Tryz.f72 ?_
   repeat' ((conv=>whnf);first|exact zf|refine zm ?_|refine zc h1 ?_|refine zt ?_|refine zu ?_|intro _)
   exact hk
theorem GW{K:KT}(c:Ca)(s:b7)(k:Co)(code:Int)(hf:k.fr.length<1000000000)(hst:k.st.length<1000000000)(hqa:∀i o,bW c.t.id s.th=some (i,o)->o.va.q.length<100000000)(hk:K (.ret (.tu [])) (XI (ke c s k code))) :
  Z1 75 [.p 0 0,gZ k,.d (.int .i64 code)] (XJ c s) K:=by
 have h1:=ry k code c.tr hf hst;unfold ke at hk;generalize raise k code c.tr=r at h1 hk;have h2:=λ{K:KT}=>Ee (K:=K) {c with t:={c.t with c:=r.1}} s r.2.v true hqa;cases hb:r.2.k==2 with
 |true=>
  simp only[hb,δ]at hk;refine sh0 Tryz.f75 ?_
  repeat' ((conv=>whnf);first|exact zf|refine zm ?_|refine zc h1 ?_|refine zr0 ?_|refine(h2 ?_)|refine zt ?_|refine zu ?_|intro _)
  exact hk
 |false=>
  simp only[hb,ε]at hk;refine sh0 Tryz.f75 ?_
  repeat' ((conv=>whnf);first|exact zf|refine zm ?_|refine zc h1 ?_|refine zt ?_|refine zu ?_|intro _)
  exact hk
def Dr(t:Th)(s:b7)(n:Int):Rs:=KJ (ke (lZ ⟨[],[]⟩ (vB t []) 0) s (vB t []).c n)
theorem GO{K:KT}(t:Th)(s:b7)(v:Va)(hf:t.c.fr.length<1000000000)(hst:t.c.st.length<1000000000)(hq:wI s t.id)(hk:K (.ret (.tu [ep (Dr t s v.n).t,re ((Dr t s v.n).e.ef (Dr t s v.n).d)])) (jW (Dr t s v.n).s)) :
  Z1 36 [ep t,.p 0 0,j7 v,.d (.bool true)] (jW s) K:=by
 have h1:=xI t;have h2:=PS t [] (by decide) hst;have h3:=λ{K:KT}=>GW (K:=K) (lZ ⟨[],[]⟩ (vB t []) 0) s (vB t []).c v.n hf (by show(t.c.st++[]).length<_;rw[cV];exact hst) hq;refine sh0 Tryz.f36 ?_
 repeat' ((conv=>whnf);first|exact zf|refine(dG (dG ?_))|refine zm ?_|refine zc h1 ?_|refine zc h2 ?_|refine zr0 ?_|refine(h3 ?_)|refine zt ?_|refine zu ?_|refine And.intro ?_ ?_|intro _)
 all_goals exact hk
def a1:Lb:=⟨[1],[]⟩
def BF:Lb:=⟨[0],[]⟩
def XG:List Op:=[⟨2,0⟩,⟨1,0⟩,⟨29,0⟩,⟨30,0⟩,⟨1,1⟩,⟨41,0⟩,⟨2,0⟩,⟨18,0⟩]
def pg:Im:=⟨[rB a1,rB oV],[⟨1,0,XG⟩]⟩
def xO(pc:Int)(st:List Va):Co:=⟨[⟨0,pc,0,0,[num 5]⟩],st,[]⟩
def P0:Th:=yW [48] ⟨oV,BF⟩ (xO 0 []) 1
def uf(b:Option Nat):b7:=qi eS [0,0] (Te 3 a1 (num 5)) b
def Vp:Va:=⟨3,0,bm [0,0],[1],[]⟩
def S9:Nat->SS
 |0=>λ_=>(P0,eS)
 |1=>λ_=>({P0 with c:=xO 1 [num 5]},eS)
 |2=>λ_=>({P0 with c:=xO 2 [num 5,rB a1]},eS)
 |3=>λb=>({P0 with c:=xO 3 [Vp],ma:=1,ro:=0},uf b)
 |4=>λb=>({P0 with c:=xO 4 [num 5],ma:=1,ro:=0,g:=⟨a1,BF⟩},uf b)
 |_=>λb=>({P0 with c:=xO 5 [num 5,rB oV],ma:=1,ro:=0,g:=⟨a1,BF⟩},uf b)
def u9(b:Option Nat):Th×b7:=({P0 with c:=xO 5 [num 5,rB oV],ma:=1,ro:=0,g:=⟨a1,BF⟩,st:=4,v:=num (-3),ex:=true},uf b)
theorem do9_0(now:Int)(b b':Option Nat):Ek pg (S9 0 b).1 (S9 0 b).2 now b'=⟨(S9 1 b).1,.no,false,(S9 1 b).2⟩:=by rfl
theorem do9_1(now:Int)(b b':Option Nat):Ek pg (S9 1 b).1 (S9 1 b).2 now b'=⟨(S9 2 b).1,.no,false,(S9 2 b).2⟩:=by rfl
theorem do9_2(now:Int)(b b':Option Nat):Ek pg (S9 2 b).1 (S9 2 b).2 now b'=⟨(S9 3 b').1,.no,false,(S9 3 b').2⟩:=zx0
theorem do9_3(now:Int)(b b':Option Nat):Ek pg (S9 3 b).1 (S9 3 b).2 now b'=⟨(S9 4 b).1,.no,false,(S9 4 b).2⟩:=zx0
theorem do9_4(now:Int)(b b':Option Nat):Ek pg (S9 4 b).1 (S9 4 b).2 now b'=⟨(S9 5 b).1,.no,false,(S9 5 b).2⟩:=zx0
theorem do9_5(now:Int)(b b':Option Nat):Ek pg (S9 5 b).1 (S9 5 b).2 now b'=⟨(u9 b).1,.no,true,(u9 b).2⟩:=zx0
theorem do9_6(now:Int)(b b':Option Nat):Ek pg (u9 b).1 (u9 b).2 now b'=⟨(u9 b).1,.no,false,(u9 b).2⟩:=by rfl
theorem VX(b:Option Nat):Dr ⟨[49],[],Ti,c00,[],0,0,1,[48],dT,false⟩ (uf b) 3=⟨⟨[49],[],Ti,c00,[],0,0,4,[],num 3,true⟩,.no,true,uf b⟩:=zx0
theorem Xi(i:Nat)(hi:i<5)(now:Int)(b b':Option Nat):∃b'',Ek pg (S9 i b).1 (S9 i b).2 now b'=⟨(S9 (i+1) b'').1,.no,false,(S9 (i+1) b'').2⟩:=by
 match i,hi with
 |0,_=>exact⟨b,do9_0 now b b'⟩
 |1,_=>exact⟨b,do9_1 now b b'⟩
 |2,_=>exact⟨b',do9_2 now b b'⟩
 |3,_=>exact⟨b,do9_3 now b b'⟩
 |4,_=>exact⟨b,do9_4 now b b'⟩
theorem Ta(pc:Int)(st:List Va)(hst:st.length<=3)(hsm:∀v∈st,cL (a_ v))(o:Op)(hfit:fit pg (xO pc st)=some o)(ho:o.c≠24/\o.c≠31):Rv pg (xO pc st) where
 hI:=⟨λi g hg=>by
  match i,hg with
  |0,hg=>cases hg;exact(show eK .i64 1 from⟨by decide,by decide⟩)⟩
 cd:=λi g hg=>by
  match i,hg with
  |0,hg=>
   cases hg;exact(show XG.length<1000000000 by decide)
 lf:=show 1<_ by decide
 ls:=by show st.length<_;omega
 lt:=show 0<_ by decide
 ma:=λf hf=>by cases hf;exact(show((0:Int)<=0/\(0:Int)<=255)/\[num 5].length<1000000000 from⟨⟨by decide,by decide⟩,by decide⟩)
 sm:=hsm
 dm:=λo' h'=>by rw[hfit]at h';cases h';exact ho
theorem QU(pc:Int)(st:List Va)(o:Op){t:Th}{s:b7}{now:Int}(ht:t.c=xO pc st)(hsc:t.sc=[])(hst:st.length<=3)(hsm:∀v∈st,cL (a_ v))(hfit:fit pg (xO pc st)=some o)(ho:o.c≠24/\o.c≠31)(hfw:MV o.c=true)
  (hr:(du pg (xO pc st) 0 0).2.k≠3) (hq:∀p∈s.th,p.2.va.q.length<100000000):L5 pg t s now:=by
 have e:bQ t=Gr:=by unfold bQ;rw[hsc];rfl
 refine⟨by rw[ht];exact Bw (Ta pc st hst hsm o hfit ho) hfit hfw,by rw[ht];exact(show 1<_ by decide),by rw[ht];show st.length<_;omega,o7 hq,λh=>?_⟩;rw[ht,e]at h;exact absurd h hr
theorem QV(pc:Int)(st:List Va)(o:Op){t:Th}{s:b7}{now:Int}(ht:t.c=xO pc st)(hst:st.length<=3)(hsm:∀v∈st,cL (a_ v))(hfit:fit pg (xO pc st)=some o)(ho:o.c≠24/\o.c≠31)(hfw:MV o.c=true)
  (hq:∀p∈s.th,p.2.va.q.length<100000000) (h:(du pg t.c (bQ t).fr (bQ t).tr).2.k=3->∃o f i F,du pg t.c (bQ t).fr (bQ t).tr=(t.c,⟨3,zeroV,o⟩)/\t.c.fr.getLast?=some f/\inf o.c=some i/\ez t.c i.po=true/\(0<=f.pc/\f.pc<1000000000)/\DQ o.c F/\Nat.blt F 5000000=true /\
  (∀{K:KT},(FM (iu (lZ pg t now) o f i.po) s).K K->Z1 F [.p 0 0] (eP (iu (lZ pg t now) o f i.po) s) K)/\∀n c' s',FM (iu (lZ pg t now) o f i.po) s=.ex n c' s'->wI s' c'.t.id):L5 pg t s now:=
 ⟨by rw[ht];exact Bw (Ta pc st hst hsm o hfit ho) hfit hfw,by rw[ht];exact(show 1<_ by decide),by rw[ht];show st.length<_;omega,o7 hq,h⟩
theorem Uk:cL (a_ (num 5)):=⟨show 0<=_ by decide,show 0<=_ by decide⟩
theorem S0:cL a1:=⟨show 1<=_ by decide,show 0<=_ by decide⟩
theorem Uj:cL oV:=⟨show 0<=_ by decide,show 0<=_ by decide⟩
theorem VO:cL BF:=⟨show 1<=_ by decide,show 0<=_ by decide⟩
theorem Ac{b:Option Nat}:∀p∈(uf b).th,p.2.va.q.length<100000000:=λp hp=>by
 rw[aL.1 hp];exact(show(0:Nat)<100000000 by decide)
theorem VI:bm [0]=[48]:=zx0
theorem Xd(q:Ca)(h1:q.t.pa=[48])(h2:q.t.ma=0)(h3:q.t.ro=1)(h4:q.t.g=⟨oV,BF⟩)(h5:q.t.c.st.length<1000000000):QS q eS (Te 3 a1 (num 5)):=by
 have hu:kK q.t.pa 0=[0]:=by rw[h1];rfl
 refine⟨⟨?_,?_,?_,?_,?_,?_,?_⟩,?_,S0,⟨by decide,λ_ h=>nomatch h⟩,by decide,by decide,by kernel_rfl,show(0:Nat)<_ by decide,rfl,h5⟩
 .rw[hu,h1,VI]
 .rw[hu];decide
 .rw[hu];decide
 .rw[hu];decide
 .rw[h2];decide
 .rw[h2];decide
 .rw[h3];decide
 .rw[h4];exact⟨Uj,VO⟩
theorem m1{v:Va}(h:cL (a_ v)):∀x∈[v],cL (a_ x):=λx hx=>by rw[aL.1 hx];exact h
theorem m2{v w:Va}(h:cL (a_ v))(h':cL (a_ w)):∀x∈[v,w],cL (a_ x):=λx hx=>by
 simp only[af,cU,or_false]at hx;rcases hx with rfl|rfl
 .exact h
 .exact h'
theorem Wx(i:Nat)(hi:i<6)(now:Int)(b:Option Nat):L5 pg (S9 i b).1 (S9 i b).2 now:=by
 match i,hi with
 |0,_=>exact QU 0 [] ⟨2,0⟩ rfl rfl (by decide) (λ_ h=>nomatch h) rfl ⟨by decide,by decide⟩ rfl (show(0:Int)≠3 by decide) λ_ h=>CU h
 |1,_=>exact QU 1 [num 5] ⟨1,0⟩ rfl rfl (show 1<=3 by decide) (m1 Uk) rfl ⟨by decide,by decide⟩ rfl (show(0:Int)≠3 by decide) λ_ h=>CU h
 |2,_=>exact QV 2 [num 5,rB a1] ⟨29,0⟩ rfl (show 2<=3 by decide) (m2 Uk S0) rfl ⟨by decide,by decide⟩ rfl (λ_ h=>CU h) λ_=>⟨⟨29,0⟩,⟨0,2,0,0,[num 5]⟩,_,174,rfl,rfl,rfl,rfl,⟨by decide,by decide⟩,⟨_,rfl⟩,rfl,
  λh=>EH _ _ (num 5) (rB a1) rfl (Xd _ rfl rfl rfl rfl (show 0<_ by decide)) h,λn c' s' h=>by rw[A7 h];exact o7 λ_ h=>CU h⟩
 |3,_=>exact QV 3 [Vp] ⟨30,0⟩ rfl (show 1<=3 by decide) (m1 S0) rfl ⟨by decide,by decide⟩ rfl Ac λ_=>⟨⟨30,0⟩,⟨0,3,0,0,[num 5]⟩,_,175,rfl,rfl,rfl,rfl,⟨by decide,by decide⟩,⟨_,rfl⟩,rfl,
  λh=>CN _ _ Vp rfl (show 0<_ by decide) ⟨Uj,VO⟩ S0 (X0 _ _) (o7 Ac) h,λn c' s' h=>by rw[A7 h];exact o7 Ac⟩
 |4,_=>exact QU 4 [num 5] ⟨1,1⟩ rfl rfl (show 1<=3 by decide) (m1 Uk) rfl ⟨by decide,by decide⟩ rfl (show(0:Int)≠3 by decide) Ac
 |5,_=>exact QV 5 [num 5,rB oV] ⟨41,0⟩ rfl (show 2<=3 by decide) (m2 Uk Uj) rfl ⟨by decide,by decide⟩ rfl Ac λ_=>⟨⟨41,0⟩,⟨0,5,0,0,[num 5]⟩,_,185,rfl,rfl,rfl,rfl,⟨by decide,by decide⟩,⟨_,rfl⟩,rfl,
  λh=>Gb _ _ (num 5) (rB oV) rfl ⟨S0,VO⟩ Uj h,λn c' s' h=>by rw[A7 h];exact o7 Ac⟩
def Xg(p:Th×b7):H:=
  [.cells [.d (.str [1]), .d (.str [])], .cells [.d (.sl 5 (pg.cs.map cE)), .d (.sl 3 (pg.fs.map dc))], .cells [.d (.sl 5 ((xO 0 []).fr.map bS)), .d (.sl 5 ((xO 0 []).st.map cE)), .d (.sl 3 ((xO 0 []).tr.map eF))],
   .cells ((ei p.1).map .d),.cells [.mp 5,.mp 6],.dm (jV p.2.th),.ms 1 (kM p.2.nm) none none]
theorem do34_9{K:KT}(i:Nat)(hi:i<5)(b:Option Nat)(hk:∀b'',K (.ret (.tu [ep (S9 (i+1) b'').1,re (Fx.ef .no false)])) (jW (S9 (i+1) b'').2)):Z1 34 [x4 pg,ep (S9 i b).1,.p 0 0,.d (.int .i64 i)] (jW (S9 i b).2) K:=by
 refine RD pg _ _ i (λ_=>Wx i (by omega) i b) λb'=>?_;obtain⟨b'',e⟩:=Xi i hi i b b';rw[e];exact hk b''
theorem do34_5{K:KT}(b:Option Nat)(hk:K (.ret (.tu [ep (u9 b).1,re (Fx.ef .no true)])) (jW (uf b))):Z1 34 [x4 pg,ep (S9 5 b).1,.p 0 0,.d (.int .i64 9)] (jW (uf b)) K:=by
 refine RD pg (S9 5 b).1 (S9 5 b).2 9 (λ_=>Wx 5 (by omega) 9 b) λb'=>?_;rw[do9_5];exact hk
theorem do34_6{K:KT}(b:Option Nat)(hk:K (.ret (.tu [ep (u9 b).1,re (Fx.ef .no false)])) (jW (uf b))):Z1 34 [x4 pg,ep (u9 b).1,.p 0 0,.d (.int .i64 9)] (jW (uf b)) K:=by
 refine RD pg (u9 b).1 (u9 b).2 9 (λh=>absurd h (show ¬(4:Int)=0 by decide)) λb'=>?_;rw[do9_6];exact hk
def VL:Th:=⟨[49],[],Ti,c00,[],0,0,1,[48],dT,false⟩
theorem Se{K:KT}(b:Option Nat)(hk:K (.ret (.tu [ep ⟨[49],[],Ti,c00,[],0,0,4,[],num 3,true⟩,re (Fx.ef .no true)])) (jW (uf b))):Z1 36 [ep VL,.p 0 0,j7 (num 3),.d (.bool true)] (jW (uf b)) K:=by
 refine GO VL (uf b) (num 3) (by decide) (by decide) (o7 Ac) ?_;rw[show Dr VL (uf b) (num 3).n=_ from VX b];exact hk
theorem Ni(b:Option Nat):bW [48,46,48] (uf b).th=some (0,Te 3 a1 (num 5)):=zx0
theorem Vs{K:KT}(b:Option Nat)(hk:K (.ret (.tu [gJ (Te 3 a1 (num 5)),.d (.bool true)])) (jW (uf b))):Z1 16 [.p 0 0,.d (.str [48,46,48])] (jW (uf b)) K:=by
 have e:gk (uf b) [48,46,48]=Te 3 a1 (num 5):=by unfold gk;rw[Ni];rfl
 have e2:gu (uf b) [48,46,48]=true:=by unfold gu;rw[Ni];rfl
 refine pj (uf b) [48,46,48] (by rw[e];decide) ?_;rw[e,e2];exact hk
theorem Ei:Z0 9 [] (.d (.bool true)):=by
 have e20:Z0 20 [gZ c00,.d (.int .i64 0),.d (.int .i64 0),.d (.sl 5 ([num 5].map cE)),.d (.int .u8 0)] (.tu [gZ (xO 0 []),.d (.bool true)]):=kV c00 0 0 [num 5] 0 (by decide) (by decide);refine s9.go (keep:=false) rfl ?_
 repeat' ((conv=>whnf);first|exact zf|refine zm ?_|refine zc (p4 5) ?_|refine zc e20 ?_|refine zc Hl ?_|refine zc (Gy [48] ⟨oV,BF⟩ (xO 0 []) 1) ?_|refine(Ng ?_)|intro _)
 conv=>whnf
 refine bM [(1,.p 0 0),(2,.p 1 0),(5,.p 3 0),(6,.p 4 0)] (λq:Nat×Option Nat=>q.1<=5) (λq=>[(7,.d (.int .i64 0)),(8,.d (.int .i64 q.1))]) (λq=>Xg (S9 q.1 q.2)) (λq=>5-q.1) (0,none) (ae _) ?_ ?_ ?_ (λq hq=>?_)
 .exact zzz
 .exact zzz
 .exact zx0
 obtain⟨i,b⟩:=q;have hq:i<=5:=hq
 by_cases hi:i<5
 .skip
  repeat' ((conv=>whnf);first|exact zf|refine zm ?_|refine zr0 ?_|refine(do34_9 i hi b (λb''=>?_))|refine zt ?_|refine zu ?_|intro _)
  exact⟨(i+1,b''),hi,(by show 5-(i+1)<5-i;omega),zzz,zzz,rfl⟩
 .have hi5:i=5:=by omega
  subst hi5
  repeat' ((conv=>whnf);first|exact zf|refine zm ?_|refine⟨cE (num 5),⟨by omega,rfl,rfl⟩,?_⟩|refine zr0 ?_|refine(Vs b ?_)|refine(do34_5 b ?_)|refine(do34_6 b ?_)|refine(Se b ?_)|refine zc (p4 3) ?_|refine zc (p4 5) ?_|refine zc (p4 (-3)) ?_|refine zt ?_|refine zu ?_|intro _)
section
variable{mx:Int}{q n:Nat}{t:Th}{s:b7}{now:Int}{b:Option Nat}
end
section
variable{mx:Int}{q n:Nat}{t:Th}{s:b7}{now:Int}{b:Option Nat}
def K7(m:Lb)(l:List (List UInt8×Ob)):List (List UInt8×Ob):=l.filter λp=>bI p.2.l m
theorem jT.id{ma:Int}{e:Fx}{t':Th}{s':b7}(D:jT now mx q n t ma s b e t' s'):t'.id=t.id:=by cases D<;>rfl
end
def tM(d:List Op):Prop:=∀o∈d,o.c≠24/\o.c≠31
theorem js{a b:List Op}(ha:tM a)(hb:tM b):tM (a++b):=λo ho=>(aR.1 ho).elim (ha o) (hb o)
theorem eN{c a:Int}{b:List Op}(h:c≠24/\c≠31)(hb:tM b):tM (⟨c,a⟩::b):=λo ho=>by
 rcases af.1 ho with e|e
 .rw[e];exact h
 .exact hb o e
theorem iJ:tM []:=λo ho=>by cases ho
theorem NF.low{h h':Int}{d:List Op}(H:NF h d h'):tM d:=by
 induction H with
 |nil=>exact iJ
 |cons _ hc _ _ _ _ ih=>
  refine eN ⟨?_,?_⟩ ih
  .rintro rfl;cases hc
  .rintro rfl;cases hc
theorem u_.low{d:List Op}(h:u_ d):tM d:=by
 rcases h with h|⟨n,_,_,rfl⟩
 .exact h.1.low
 .exact eN ⟨by decide,by decide⟩ (eN ⟨by decide,by decide⟩ iJ)
theorem Part.low{b:Int}{p:List Op}(h:Part b p):tM p:=by
 obtain⟨d,hd,h⟩:=h;have l:=hd.low;rcases h with rfl|rfl|⟨_,rfl⟩|⟨_,rfl⟩
 .exact l
 .exact js (eN ⟨by decide,by decide⟩ (eN ⟨by decide,by decide⟩ iJ)) l
 .exact js (js (eN ⟨by decide,by decide⟩ iJ) l) (eN ⟨by decide,by decide⟩ iJ)
 .exact js (js (eN ⟨by decide,by decide⟩ iJ) l) (eN ⟨by decide,by decide⟩ (eN ⟨by decide,by decide⟩ (eN ⟨by decide,by decide⟩ iJ)))
theorem nQ.low{c:List Op}{k:Nat}(h:nQ c k):tM c/\c.length<=12*k:=by
 induction h with
 |nil=>exact⟨iJ,ae _⟩
 |snoc _ hp ih=>exact⟨js ih.1 hp.low,by have:=ih.2;have:=hp.len;rw[aK];omega⟩
theorem qj.low{f:Fn}(h:qj f):tM f.code/\f.code.length<=146:=by
 obtain⟨_,_,p,k,n,hp,_,hk,_,_,e⟩:=h;rw[e];refine⟨js hp.low.1 (eN ⟨by decide,by decide⟩ (eN ⟨by decide,by decide⟩ iJ)),?_⟩;have:=hp.low.2;rw[aK];show _+2<=_;omega
theorem Ma:∀v∈Mb,cL (a_ v):=by
 intro v hv;rcases aR.1 hv with h|h
 .obtain⟨x,_,rfl⟩:=bJ.1 h;exact gf x
 .obtain⟨x,hx,rfl⟩:=bJ.1 h;have h2:x.s.length<=2/\x.i.length<=2:=by
   have:uk.all (λl=>decide (l.s.length<=2)&&decide (l.i.length<=2))=true:=zx0
   have:=aS.1 this x hx;simpa using this
  exact And.intro (aV h2.1 (by decide)) (aV h2.2 (by decide))
theorem x7.pr{im:Im}(h:x7 im):pY im where
 hI:=⟨λi g hg=>by rw[(h.2.2 g (aJ hg)).1];unfold eK;decide⟩
 ar:=λg hg=>by rw[(h.2.2 g hg).1];decide
 cd:=λg hg=>by have:=(h.2.2 g hg).low.2;omega
 dm:=λg hg=>(h.2.2 g hg).low.1
 cs:=by rw[h.1];exact Ma
def PO(im:Im)(x:FT)(t:Th)(s:b7):H:=[.cells (p_ x),.cells ([.d (.sl 5 (im.cs.map cE)),.d (.sl 3 (im.fs.map dc)),.p 2 0]++(ei t).map .d),.cells [.mp 3,.mp 4],.dm (jV s.th),.ms 1 (kM s.nm) none none]
theorem HV(i:Int):cL ((iW[i.toNat]?).getD oV):=by
 cases h:iW[i.toNat]? with
 |none=>exact l8
 |some l=>exact xA l (aJ h)
theorem My(ar:Int):cL (a_ (mF ar)):=by
 unfold mF;cases decide (60<ar)
 .exact l8
 .exact HV _
theorem R2(mx:Int)(x:FT)(hx:yT x)(hm:x.mz.tmod 4<=mx):gN mx 1 (oN x) where
 co:=by
  have hm2:x.mz.tmod 4=x.mz % 4:=aw hx.mz.1;exact((okCo_0 mx 0).enter rfl (x.fn.tmod 3) 7 [mF x.ar] (x.mz.tmod 4) (show 1<=20 by decide) (λv hv=>by rw[aL.1 hv];exact My _) (by omega)).mono (ae _)
 g:=And.intro (HV _) (wH _ _)
 pa:=⟨[3],Kd.symm,by decide,by decide,eV _,by
  have hr:x.ro.tmod 16=x.ro % 16:=aw hx.ro.1;show 0<=x.ro.tmod 16;rw[hr];omega,by
  have hr:x.ro.tmod 16=x.ro % 16:=aw hx.ro.1;show 0+x.ro.tmod 16<=15;rw[hr];omega,by
  have hr:x.ro.tmod 16=x.ro % 16:=aw hx.ro.1;show((1:Nat):Int)+x.ro.tmod 16<=16;rw[hr];omega⟩
 sc:=λs hs=>by cases hs
 sl:=ae _
 v:=oT
abbrev zj:=List (List UInt8×Ob)
end Go.Proofs.YtjpgfgajkjhonaaGreatDoor