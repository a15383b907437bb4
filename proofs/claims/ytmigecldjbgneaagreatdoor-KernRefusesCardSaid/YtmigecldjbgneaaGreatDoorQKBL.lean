/- Lemmas. Conditions: none. -/
import Derived.Test.YtmigecldjbgneaaGreatDoorQKBK
set_option maxHeartbeats 16000000
namespace Go.Proofs.YtmigecldjbgneaaGreatDoor
open Go.Vx
set_option maxRecDepth 100000
theorem xO{c ar t p:Int}(h:K_ c=some (ar,t,p)):∃i,inf c=some i/\i.ar=ar/\i.pu=p/\(bif c==17 then i.po+1 else i.po)=t:=by
 unfold K_ at h;rw[aJ]at h;obtain⟨i,h1,h2⟩:=h;simp only[dG]at h2;exact⟨i,h1,h2.1,h2.2.2,h2.2.1⟩
theorem wJ{im:Im}(h:de im){a:Int}(ha:0<=a/\a<3):∃g,im.fs[a.toNat]?=some g/\g.args=1:=by
 have hl:a.toNat<im.fs.length:=by rw[h.2.1];omega
 exact⟨im.fs[a.toNat],aA hl,(h.2.2 _ (dR hl)).1⟩
theorem Sb{ar a:Int}(h:GD ar a=true):0<=a/\a<=63:=by
 unfold GD at h
 repeat' split at h
 all_goals (cases h0:ar==0<;>cases h1:ar==1<;>cases h2:ar==2<;>cases h4:ar==4<;>cases h5:ar==5<;>simp[h0,h1,h2,h4,h5]at h<;>omega)
structure CW(im:Im)(o:Op):Prop where
  right:ep o=true
  U7:∀fn:Fn,fn.args=1->fn.vars=7->(∀i,inf o.c=some i->i.ar=3->o.a<fn.code.length)->jc im fn o=none
theorem Hr{im:Im}(h:de im){c a ar t p:Int}(hk:K_ c=some (ar,t,p))(ha:GD ar a=true):CW im ⟨c,a⟩/\bm im ⟨c,a⟩=t:=by
 obtain⟨i,h1,h2,h3,h4⟩:=xO hk;have hge:=Sb ha;have hcs:im.cs.length=16:=by rw[h.1];rfl
 have hfs:=h.2.1;subst h2;refine⟨⟨?_,λfn f1 f2 f3=>?_⟩,?_⟩
 .unfold ep;simp only[h1];cases h0:i.ar==0 with
  |true=>
   unfold GD at ha;rw[h0]at ha;exact ha
  |false=>simp only[ε,aO,χ];omega
 .unfold jc;simp only[h1];unfold tq GD at *;cases e1:i.ar==1 with
  |true=>
   have:i.ar=1:=by simpa using e1
   rw[this]at ha;simp at ha;simp only[δ];rw[show decide (a<(im.cs.length:Int))=true by rw[hcs];simp;omega];rfl
  |false=>
   cases e2:i.ar==2 with
   |true=>
    have:i.ar=2:=by simpa using e2
    rw[this]at ha;simp at ha;simp only[ε,δ];rw[show decide (a<fn.args+fn.vars)=true by rw[f1,f2];simp;omega];rfl
   |false=>
    cases e3:i.ar==3 with
    |true=>
     have:i.ar=3:=by simpa using e3
     have:=f3 i h1 this;simp only[ε,δ];rw[show decide (a<(fn.code.length:Int))=true by simpa using this];rfl
    |false=>
     cases e4:i.ar==4 with
     |true=>
      have:i.ar=4:=by simpa using e4
      rw[this]at ha;simp at ha;obtain⟨g,g1,g2⟩:=wJ h ha;simp only[ε,δ];rw[show decide (a<(im.fs.length:Int))=true by rw[hfs];simp;omega,g1];simp[g2]
     |false=>
      cases e5:i.ar==5 with
      |true=>
       simp only[ε,δ];rw[show decide (a<=63)=true by simp;omega];rfl
      |false=>rfl
 .unfold bm;simp only[h1];rw[<-h4];cases h17:c==17 with
  |false=>rfl
  |true=>
   have hc:c=17:=by simpa using h17
   subst hc;have hi:inf 17=some ⟨[99,97,108,108],4,0,1⟩:=rfl;rw[hi]at h1;cases h1;unfold GD at ha;simp at ha;obtain⟨g,g1,g2⟩:=wJ h ha;simp only[δ];rw[g1];simp only[g2]
theorem Gg{im:Im}(hI:de im){h h':Int}{d:List Op}(hs:LF h d h'):0<=h/\h<=8->∃ds:List Int,ds.length=d.length/\(ds++[h'])[0]?=some h/\(0<=h'/\h'<=8) /\
  ∀(x:Nat)(o:Op),d[x]?=some o->∃i dx,inf o.c=some i/\LB o.c=false/\CW im o/\ds[x]?=some dx/\(0<=dx/\dx<=8)/\(bm im o<=dx/\dx-bm im o+i.pu<=8)/\(ds++[h'])[x+1]?=some (dx-bm im o+i.pu):=by
 induction hs with
 |nil h=>exact λhh=>⟨[],rfl,rfl,hh,λx o hx=>by simp at hx⟩
 |@cons c a ar t p h h' r hk hc ha h1 h2 hr ih=>
  intro hh;obtain⟨hok,htk⟩:=Hr hI hk ha;obtain⟨i,e1,e2,e3,_⟩:=xO hk;obtain⟨_,_,_,_,_,_,p2,_⟩:=ei e1;obtain⟨ds,g1,g2,g3,g4⟩:=ih ⟨by omega,h2⟩;refine⟨h::ds,by simp[g1],rfl,g3,λx o hx=>?_⟩;cases x with
  |zero=>
   simp only[dC,aD]at hx;subst hx;refine⟨i,h,e1,hc,hok,rfl,hh,?_,?_⟩
   .rw[htk,e3];exact⟨h1,h2⟩
   .rw[htk,e3];simpa using g2
  |succ x=>
   obtain⟨i',dx,k1,k2,k3,k4,k5,k6,k7⟩:=g4 x o (by simpa using hx);exact⟨i',dx,k1,k2,k3,by simpa using k4,k5,k6,by simpa using k7⟩
structure LT(im:Im)(b:Int)(tys:List Ty)(p:List Op)(e:Ty):Prop where
  len:tys.length=p.length
  op:∀(x:Nat)(o:Op),p[x]?=some o->∃i d t,inf o.c=some i/\CW im o/\tys[x]?=some (d,t)/\(0<=d/\d<=8/\0<=t/\t<=1)/\(bm im o<=d/\d-bm im o+i.pu<=32)/\(o.c=21->0<t) /\
    ∀q∈nU im o i (b+x) d t,∃y:Nat,q.1=b+y/\x<y/\(tys++[e])[y]?=some q.2
theorem LT.nil(im:Im)(b:Int)(e:Ty):LT im b [] [] e:=⟨rfl,λx o hx=>by simp at hx⟩
theorem LT.cons{im:Im}{b:Int}{tys:List Ty}{p:List Op}{e:Ty}(h:LT im (b+1) tys p e){o:Op}{i:Info}{d t:Int}(hi:inf o.c=some i)(hok:CW im o)(hb:0<=d/\d<=8/\0<=t/\t<=1)(ht:bm im o<=d/\d-bm im o+i.pu<=32)(h21:o.c=21->0<t)
  (hq:∀q∈nU im o i b d t,∃y:Nat,q.1=b+1+y/\(tys++[e])[y]?=some q.2):LT im b ((d,t)::tys) (o::p) e:=by
 refine⟨by simp[h.len],λx o' hx=>?_⟩;cases x with
 |zero=>
  simp only[dC,aD]at hx;subst hx;refine⟨i,d,t,hi,hok,rfl,hb,ht,h21,λq hm=>?_⟩;obtain⟨y,y1,y2⟩:=hq q (by simpa using hm);exact⟨y+1,by rw[y1];omega,by omega,by simpa using y2⟩
 |succ x=>
  obtain⟨i',d',t',k1,k2,k3,k4,k5,k6,k7⟩:=h.op x o' (by simpa using hx);refine⟨i',d',t',k1,k2,by simpa using k3,k4,k5,k6,λq hm=>?_⟩;obtain⟨y,y1,y2,y3⟩:=k7 q (by rw[show b+1+(x:Int)=b+((x+1:Nat):Int)by omega];exact hm);exact⟨y+1,by rw[y1];omega,by omega,by simpa using y3⟩
theorem LT.append{im:Im}{b b':Int}{tys tys':List Ty}{p p':List Op}{e e':Ty}(h:LT im b tys p e)(hb:b'=b+p.length)(h':LT im b' tys' p' e')(he:(tys'++[e'])[0]?=some e):LT im b (tys++tys') (p++p') e':=by
  subst hb
  refine⟨by simp[h.len,h'.len],λx o hx=>?_⟩
  by_cases hlt:x<p.length
  · rw [aR hlt] at hx
    obtain⟨i,d,t,k1,k2,k3,k4,k5,k6,k7⟩:=h.op x o hx
    refine⟨i,d,t,k1,k2,by rw[aR (by rw[h.len];exact hlt)];exact k3,k4,k5,k6,λq hm=>?_⟩
    obtain⟨y,y1,y2,y3⟩:=k7 q hm
    refine⟨y,y1,y2,?_⟩
    by_cases hy:y<tys.length
    · rw[aR hy]at y3
      rw[bI,aR hy]
      exact y3
    · have hy2:y=tys.length:=by
        have:=(aC.1 y3).1
        simp at this
        omega
      subst hy2
      rw[ae (aL _),gM]at y3
      rw[bI,ae (aL _),gM,he]
      simpa using y3
  · rw[ae (by omega)]at hx
    obtain⟨i,d,t,k1,k2,k3,k4,k5,k6,k7⟩:=h'.op (x-p.length) o hx
    refine⟨i,d,t,k1,k2,by rw[ae (by rw[h.len];omega),h.len];exact k3,k4,k5,k6,λq hm=>?_⟩
    obtain⟨y,y1,y2,y3⟩:=k7 q (by rw[show b+(p.length:Int)+((x-p.length:Nat):Int)=b+(x:Int)by omega];exact hm)
    refine⟨p.length+y,by rw[y1];omega,by omega,?_⟩
    rw[bI,ae (by rw[h.len];omega),h.len,Nat.add_sub_cancel_left]
    exact y3
theorem KW{c:Int}(h:LB c=false):(c==15)=false/\(c==16)=false/\(c==18)=false/\(c==19)=false/\(c==20)=false/\(c==21)=false:=by
 unfold LB at h;simp only[iU]at h;exact⟨h.1,h.2.1,h.2.2.1,h.2.2.2.1,h.2.2.2.2.1,h.2.2.2.2.2.1⟩
theorem nT{im:Im}{o:Op}{i:Info}{x d t:Int}(h:LB o.c=false):nU im o i x d t=[(x+1,(d-bm im o+i.pu,t))]:=by
 obtain⟨h15,h16,h18,h19,h20,h21⟩:=KW h;unfold nU;rw[h15,h16,h18,h19,h20,h21];rfl
theorem Gh{im:Im}(hI:de im){h h':Int}{d:List Op}(hs:LF h d h')(hh:0<=h/\h<=8)(b t:Int)(ht:0<=t/\t<=1):∃tys,LT im b tys d (h',t)/\(tys++[(h',t)])[0]?=some (h,t):=by
 obtain⟨ds,g1,g2,g3,g4⟩:=Gg hI hs hh;have hm:∀y:Nat,(ds.map (λx=>(x,t))++[(h',t)])[y]?=((ds++[h'])[y]?).map λx=>(x,t):=λy=>by
  rw[show ds.map (λx=>(x,t))++[(h',t)]=(ds++[h']).map (λx=>(x,t))by simp,aB]
 refine⟨ds.map λx=>(x,t),⟨by simp[g1],λx o hx=>?_⟩,by rw[hm,g2];rfl⟩;obtain⟨i,dx,k1,k2,k3,k4,k5,k6,k7⟩:=g4 x o hx;refine⟨i,dx,t,k1,k3,by rw[aB,k4];rfl,⟨k5.1,k5.2,ht.1,ht.2⟩,⟨k6.1,by omega⟩,λe=>?_,λq hq=>?_⟩
 .obtain⟨_,_,_,_,_,h21⟩:=KW k2;rw[e]at h21;cases h21
 .rw[nT k2]at hq;rw[aF.1 hq];exact⟨x+1,by simp only;omega,by omega,by rw[hm,k7];rfl⟩
theorem p6{im:Im}(hI:de im){c a ar t p:Int}(hk:K_ c=some (ar,t,p))(ha:GD ar a=true):∃i,inf c=some i/\CW im ⟨c,a⟩/\bm im ⟨c,a⟩=t/\i.pu=p:=by
 obtain⟨h1,h2⟩:=Hr hI hk ha;obtain⟨i,e1,_,e3,_⟩:=xO hk;exact⟨i,e1,h1,h2,e3⟩
theorem y6{im:Im}(hI:de im){n:Int}(hn:0<=n/\n<8)(b t:Int)(ht:0<=t/\t<=1)(e:Ty):LT im b [(0,t),(1,t)] [⟨1,n⟩,⟨19,0⟩] e:=by
 obtain⟨i1,a1,a2,a3,a4⟩:=p6 hI (c:=1) (a:=n) (ar:=1) (t:=0) (p:=1) rfl (by simp[GD];omega);obtain⟨i2,b1,b2,b3,b4⟩:=p6 hI (c:=19) (a:=0) (ar:=0) (t:=1) (p:=0) rfl rfl;refine .cons (i:=i1) (.cons (i:=i2) (.nil ..) b1 b2 ⟨by omega,by omega,ht.1,ht.2⟩ (by rw[b3,b4];decide) (λe=>by cases e) (λq hq=>?_)) a1 a2 ⟨by omega,by omega,ht.1,ht.2⟩ (by rw[a3,a4];decide) (λe=>by cases e) (λq hq=>?_)
 .cases hq
 .rw[nT (by rfl)]at hq;rw[aF.1 hq,a3,a4];exact⟨0,by simp only;omega,rfl⟩
theorem xQ{im:Im}{c a:Int}{i:Info}(hi:inf c=some i)(h3:i.ar=3)(ha:0<=a/\a<=65535):CW im ⟨c,a⟩:=by
 refine⟨?_,λfn _ _ f3=>?_⟩
 .unfold ep;simp only[hi,h3];simp;omega
 .unfold jc tq;simp only[hi,h3];have:=f3 i hi h3;simp only at this;rw[show decide (a<(fn.code.length:Int))=true by simpa using this];rfl
theorem Di{im:Im}(hI:de im){d:List Op}(hd:yI d)(b:Int):∃tys,LT im b tys d (0,0)/\(tys++[((0:Int),(0:Int))])[0]?=some (0,0):=by
 rcases hd with⟨h,_⟩|⟨n,h1,h2,rfl⟩
 .exact Gh hI h (by omega) b 0 (by omega)
 .exact⟨_,y6 hI ⟨h1,h2⟩ b 0 (by omega) (0,0),rfl⟩
theorem yg{im:Im}(hI:de im)(b:Int):LT im b [(1,0)] [⟨3,1⟩] (0,0):=by
 obtain⟨i,a1,a2,a3,a4⟩:=p6 hI (c:=3) (a:=1) (ar:=2) (t:=1) (p:=0) rfl rfl;refine .cons (i:=i) (.nil ..) a1 a2 ⟨by omega,by omega,by omega,by omega⟩ (by rw[a3,a4];decide) (λe=>by cases e) (λq hq=>?_);rw[nT (by rfl)]at hq;rw[aF.1 hq,a3,a4];exact⟨0,by simp only;omega,rfl⟩
theorem MM{im:Im}(hI:de im){b:Int}(hb:0<=b/\b<=1000){p:List Op}(hp:Part b p):∃tys,LT im b tys p (0,0)/\(tys++[((0:Int),(0:Int))])[0]?=some (0,0):=by
 obtain⟨d,hd,hp⟩:=hp;have hdl:=hd.len;rcases hp with rfl|rfl|⟨h19,rfl⟩|⟨h19,rfl⟩
 .exact Di hI hd b
 .obtain⟨tys,g1,g2⟩:=Di hI hd (b+1+1);obtain⟨i1,a1,a2,a3,a4⟩:=p6 hI (c:=2) (a:=1) (ar:=2) (t:=0) (p:=1) rfl rfl;refine⟨(0,0)::(1,0)::tys,.cons (i:=i1) (.cons (i:=⟨[105,102],3,1,0⟩) g1 rfl (xQ (i:=⟨[105,102],3,1,0⟩) rfl rfl ⟨by omega,by omega⟩) ⟨by omega,by omega,by omega,by omega⟩ ⟨(by show(1:Int)<=1;omega),(by show(1:Int)-1+0<=32;omega)⟩ (λe=>by cases e) (λq hq=>?_)) a1 a2 ⟨by omega,by omega,by omega,by omega⟩ (by rw[a3,a4];decide) (λe=>by cases e) (λq hq=>?_),rfl⟩
  .have hq:q∈[(b+2+(d.length:Int),((1:Int)-1+0,(0:Int))),(b+1+1,((1:Int)-1+0,(0:Int)))]:=hq;rcases ah.1 hq with rfl|hq
   .refine⟨d.length,by simp only;omega,?_⟩;rw[ae (by rw[g1.len];exact aL _),g1.len,gM];rfl
   .rw[aF.1 hq];exact⟨0,by simp only;omega,g2⟩
  .rw[nT (by rfl)]at hq;rw[aF.1 hq,a3,a4];exact⟨0,by simp only;omega,rfl⟩
 .obtain⟨n,n1,n2,rfl⟩:∃n:Int,0<=n/\n<8/\d=[⟨1,n⟩,⟨19,0⟩]:=hd.resolve_left λh=>h.2.2.1 h19;have g:=(y6 hI ⟨n1,n2⟩ (b+1) 1 (by omega) (1,0)).append (b':=b+1+2) rfl (yg hI _) rfl;refine⟨(0,0)::([(0,1),(1,1)]++[(1,0)]),g.cons (o:=⟨20,b+1+2⟩) (i:=⟨[116,114,121],3,0,0⟩) rfl (xQ (i:=⟨[116,114,121],3,0,0⟩) rfl rfl ⟨by omega,by omega⟩) ⟨by omega,by omega,by omega,by omega⟩ ⟨(by show(0:Int)<=0;omega),(by show(0:Int)-0+0<=32;omega)⟩ (λe=>by cases e) (λq hq=>?_),rfl⟩;have hq:q∈[(b+1,((0:Int)-0+0,(0:Int)+1)),(b+1+2,((0:Int)+1,(0:Int)))]:=hq;rcases ah.1 hq with rfl|hq
  .exact⟨0,by simp only;omega,rfl⟩
  .rw[aF.1 hq];exact⟨2,by simp only;omega,rfl⟩
 .obtain⟨hs,_⟩:LF 0 d 0/\d≠[]:=by
   rcases hd with h|⟨n,_,_,rfl⟩
   .exact⟨h.1,h.2.1⟩
   .exact absurd rfl h19
  obtain⟨tys,g1,g2⟩:=Gh hI hs (by omega) (b+1) 1 (by omega);obtain⟨i1,a1,a2,a3,a4⟩:=p6 hI (c:=21) (a:=0) (ar:=0) (t:=0) (p:=0) rfl rfl;have gS:LT im (b+1+d.length) [(0,1),(0,0),(1,0)] [⟨21,0⟩,⟨15,b+4+d.length⟩,⟨3,1⟩] (0,0):=by
   refine .cons (i:=i1) (.cons (i:=⟨[106,117,109,112],3,0,0⟩) (yg hI _) rfl (xQ (i:=⟨[106,117,109,112],3,0,0⟩) rfl rfl ⟨by omega,by omega⟩) ⟨by omega,by omega,by omega,by omega⟩ ⟨(by show(0:Int)<=0;omega),(by show(0:Int)-0+0<=32;omega)⟩ (λe=>by cases e) (λq hq=>?_)) a1 a2 ⟨by omega,by omega,by omega,by omega⟩ (by rw[a3,a4];decide) (λ_=>by omega) (λq hq=>?_)
   .have hq:q∈[(b+4+(d.length:Int),((0:Int)-0+0,(0:Int)))]:=hq;rw[aF.1 hq];exact⟨1,by simp only;omega,rfl⟩
   .have hq:q∈[(b+1+(d.length:Int)+1,((0:Int)-bm im ⟨21,0⟩+i1.pu,(1:Int)-1))]:=hq;rw[aF.1 hq,a3,a4];exact⟨0,by simp only;omega,rfl⟩
  have g:=g1.append (b':=b+1+d.length) rfl gS rfl;have hge:∀(k:Nat),k<tys.length->((tys++[((0:Int),(1:Int)),(0,0),(1,0)])++[((0:Int),(0:Int))])[k]?=(tys++[((0:Int),(1:Int))])[k]?:=λk hk=>by
   rw[bI,aR hk,aR hk]
  refine⟨(0,0)::(tys++[(0,1),(0,0),(1,0)]),?_,rfl⟩;rw[bI];refine g.cons (o:=⟨20,b+3+d.length⟩) (i:=⟨[116,114,121],3,0,0⟩) rfl (xQ (i:=⟨[116,114,121],3,0,0⟩) rfl rfl ⟨by omega,by omega⟩) ⟨by omega,by omega,by omega,by omega⟩ ⟨(by show(0:Int)<=0;omega),(by show(0:Int)-0+0<=32;omega)⟩ (λe=>by cases e) (λq hq=>?_);have hq:q∈[(b+1,((0:Int)-0+0,(0:Int)+1)),(b+3+(d.length:Int),((0:Int)+1,(0:Int)))]:=hq;rcases ah.1 hq with rfl|hq
  .refine⟨0,by simp only;omega,?_⟩;rw[hge 0 (by rw[g1.len];omega),g2];rfl
  .rw[aF.1 hq];refine⟨d.length+2,by simp only;omega,?_⟩;rw[bI,ae (by rw[g1.len];omega),g1.len,Nat.add_sub_cancel_left];rfl
theorem Lg{im:Im}(hI:de im){n:Int}(hn:0<=n/\n<8)(b:Int)(e:Ty):LT im b [(0,0),(1,0)] [⟨2,n⟩,⟨18,0⟩] e:=by
 obtain⟨i1,a1,a2,a3,a4⟩:=p6 hI (c:=2) (a:=n) (ar:=2) (t:=0) (p:=1) rfl (by simp[GD];omega);obtain⟨i2,b1,b2,b3,b4⟩:=p6 hI (c:=18) (a:=0) (ar:=0) (t:=1) (p:=0) rfl rfl;refine .cons (i:=i1) (.cons (i:=i2) (.nil ..) b1 b2 ⟨by omega,by omega,by omega,by omega⟩ (by rw[b3,b4];decide) (λe=>by cases e) (λq hq=>?_)) a1 a2 ⟨by omega,by omega,by omega,by omega⟩ (by rw[a3,a4];decide) (λe=>by cases e) (λq hq=>?_)
 .cases hq
 .rw[nT (by rfl)]at hq;rw[aF.1 hq,a3,a4];exact⟨0,by simp only;omega,rfl⟩
theorem EU{tys tys':List Ty}{e e':Ty}(h:(tys++[e])[0]?=some e)(h':(tys'++[e'])[0]?=some e):(tys++tys'++[e'])[0]?=some e:=by
 cases tys with
 |nil=>exact h'
 |cons a r=>simpa using h
theorem mw.len{c:List Op}{k:Nat}(h:mw c k):c.length<=12*k:=by
 induction h with
 |nil=>simp
 |snoc _ hp ih=>have:=hp.len;rw[aM];omega
theorem Hb{im:Im}(hI:de im){c:List Op}{k:Nat}(h:mw c k):k<=12->∃tys,LT im 0 tys c (0,0)/\(tys++[((0:Int),(0:Int))])[0]?=some (0,0):=by
 induction h with
 |nil=>exact λ_=>⟨[],.nil ..,rfl⟩
 |@snoc c p k h hp ih=>
  intro hk;have hl:=h.len;obtain⟨tys,g1,g2⟩:=ih (by omega);obtain⟨tys',g3,g4⟩:=MM hI (b:=c.length) ⟨by omega,by omega⟩ hp;exact⟨_,g1.append (b':=c.length) (by omega) g3 g4,EU g2 g4⟩
theorem Lh{im:Im}{o:Op}{i:Info}{x d t:Int}(h1:bm im o<=d)(h2:0<=d)(h3:0<=i.pu):∀q∈nU im o i x d t,0<=q.2.1:=by
 intro q;unfold nU;cases(o.c==18||o.c==19)<;>cases(o.c==15)<;>cases(o.c==16)<;>cases(o.c==20)<;>cases(o.c==21)<;>simp only[δ,ε,ah,eN,or_false]<;>intro hq
 all_goals first
  |exact hq.elim
  |(rcases hq with rfl|rfl<;>simp only<;>omega)
  |(subst hq;simp only;omega)
  |fail
theorem Yy{c:Int}{i:Info}(h:inf c=some i)(h3:i.ar=3):c=15\/c=16\/c=20:=by
 obtain⟨c1,c2,_⟩:=ei h;have hall:((List.range 48).all λn=>match inf (n:Int) with
  |some i=> !(i.ar==3)||(n==15||(n==16||n==20))
  |none=>true)=true:=zx0
 have hm:=aP.1 hall c.toNat (b_.2 (by omega));rw[Int.toNat_of_nonneg (by omega),h]at hm;simp only[h3]at hm;simp at hm;omega
theorem pX{im:Im}(hI:de im){f:Fn}(hf:lL f):∃tys,Typed im f.code tys/\tys[0]?=some (0,0)/\(∀(x:Nat)(o:Op)(i:Info)(d t:Int),f.code[x]?=some o->inf o.c=some i->tys[x]?=some (d,t)->∀q∈nU im o i x d t,(x:Int)<q.1)/\(∀o∈f.code,jc im f o=none/\ep o=true)/\f.code.length<=146:=by
 obtain⟨h1,h2,p,k,n,hp,_,hk,n1,n2,hc⟩:=hf;have hl:=hp.len;obtain⟨tys,g1,g2⟩:=Hb hI hp hk;have g:=g1.append (b':=p.length) (by omega) (Lg hI ⟨n1,n2⟩ p.length (-5,0)) rfl;rw[<-hc]at g;have hst:(tys++[((0:Int),(0:Int)),(1,0)])[0]?=some (0,0):=by
  cases tys with
  |nil=>rfl
  |cons a r=>simpa using g2
 generalize tys++[((0:Int),(0:Int)),(1,0)]=T at g hst;have key:∀(x:Nat)(o:Op),f.code[x]?=some o->∃i d t,inf o.c=some i/\CW im o/\T[x]?=some (d,t)/\(0<=d/\d<=8/\0<=t/\t<=1)/\(bm im o<=d/\d-bm im o+i.pu<=32)/\(o.c=21->0<t)/\∀q∈nU im o i x d t,∃y:Nat,q.1=y/\x<y/\y<f.code.length/\T[y]?=some q.2:=by
  intro x o hx;obtain⟨i,d,t,k1,k2,k3,k4,k5,k6,k7⟩:=g.op x o hx;obtain⟨_,_,_,_,_,_,p2,_⟩:=ei k1;refine⟨i,d,t,k1,k2,k3,k4,k5,k6,λq hq=>?_⟩;obtain⟨y,y1,y2,y3⟩:=k7 q (by rw[Int.zero_add];exact hq);have hge:=Lh k5.1 k4.1 p2 q hq;have hy:y<T.length:=by
   have hy1:=(aC.1 y3).1;simp at hy1;rcases nF y T.length with h|h
   .exact h
   .have e:y=T.length:=by omega
    subst e;rw[ae (aL _),gM]at y3;simp only[dC,aD]at y3;rw[<-y3]at hge;simp at hge
  rw[aR hy]at y3;exact⟨y,by omega,y2,by rw[<-g.len];exact hy,y3⟩
 refine⟨T,⟨g.len,λx o hx=>?_⟩,hst,λx o i d t hx hi ht q hq=>?_,λo ho=>?_,?_⟩
 .obtain⟨i,d,t,k1,k2,k3,k4,k5,k6,k7⟩:=key x o hx;refine⟨i,d,t,k1,k3,⟨k4.1,by omega,k4.2.2.1,by omega⟩,k5,k6,λ_=>⟨by omega,by omega⟩,λq hq=>?_⟩;obtain⟨y,y1,_,_,y4⟩:=k7 q hq;exact⟨y,y1,y4⟩
 .obtain⟨i',d',t',k1,k2,k3,k4,k5,k6,k7⟩:=key x o hx;rw[hi]at k1;cases k1;rw[ht]at k3;cases k3;obtain⟨y,y1,y2,_,_⟩:=k7 q hq;omega
 .obtain⟨x,hx⟩:=ao.1 ho;obtain⟨i,d,t,k1,k2,k3,k4,k5,k6,k7⟩:=key x o hx;refine⟨k2.U7 f h1 h2 λi' hi' h3=>?_,k2.right⟩;rw[k1]at hi';cases hi';have hm:∃r,(o.a,r)∈nU im o i x d t:=by
   rcases Yy k1 h3 with e|e|e
   .exact⟨(d-bm im o+i.pu,t),by unfold nU;rw[e];exact aw⟩
   .exact⟨(d-bm im o+i.pu,t),by unfold nU;rw[e];exact aw⟩
   .exact⟨(d+1,t),by unfold nU;rw[e];exact bU _ aw⟩
  obtain⟨r,hr⟩:=hm;obtain⟨y,y1,_,y3,_⟩:=k7 _ hr;simp only at y1;omega
 .rw[hc,aM];simp only[aZ,ak];omega
theorem E8{im:Im}(hI:de im){f:Fn}(hf:lL f):0<f.code.length:=by
 obtain⟨tys,h1,h2,_⟩:=pX hI hf;obtain⟨_,_,p,k,n,hp,_,hk,n1,n2,hc⟩:=hf;rw[hc];simp
theorem Eh{im:Im}(hI:de im){f:Fn}(hf:lL f):tt f=true:=by
 obtain⟨tys,_,_,_,h,hl⟩:=pX hI hf;have hp:=E8 hI hf;have h1:=hf.1;have h2:=hf.2.1;simp only[tt,aO,χ,aP];exact⟨by omega,by omega,by omega,by omega,by omega,hp,by omega,λo ho=>(h o ho).2⟩
theorem Eg{im:Im}(hI:de im):CX im:=
 ⟨by rw[hI.1];decide,by rw[hI.1];exact Dp,by rw[hI.2.1];decide,by rw[hI.2.1];decide,λf hm=>Eh hI (hI.2.2 f hm)⟩
theorem vv{im:Im}{fn:Fn}:∀{l:List Op}{x:Int},(∀o∈l,jc im fn o=none)->jy im fn l x=none
 |[],_,_=>rfl
 |p::r,x,h=>by
  simp only[jy,h p (by simp)];exact vv λo ho=>h o (by simp[ho])
theorem Ak{im:Im}(hI:de im){f:Fn}(hf:lL f){N:Nat}(hN:146<N):∃tys s,tys[0]?=some ((0:Int),(0:Int))/\Typed im f.code tys/\(∀(x:Nat)(o:Op)(i:Info)(d t:Int),f.code[x]?=some o->inf o.c=some i->tys[x]?=some (d,t)->∀q∈nU im o i x d t,(x:Int)<q.1)/\nM im f N=some (.ok s)/\GF tys s []/\LG im f.code s []/\(0,(0,0))∈s:=by
 obtain⟨tys,h1,h2,h3,h4,hl⟩:=pX hI hf;obtain⟨s,g1,g2,g3,g4⟩:=GY h1 (by omega) h2 (vv λo ho=>(h4 o ho).1) (N:=N) (by omega);exact⟨tys,s,h2,h1,h3,g1,g2,g3,g4⟩
theorem sB{im:Im}(hI:de im){N:Nat}(hN:146<N):∀{l:List Fn}{i:Int},(∀f∈l,lL f)->lJ im N l i=some (0,0,0)
 |[],_,_=>rfl
 |f::r,i,h=>by
  obtain⟨_,s,_,_,_,g,_⟩:=Ak hI (h f (by simp)) hN;simp only[lJ,g];exact sB hI hN λf' hf'=>h f' (by simp[hf'])
theorem CK{im:Im}(hI:de im):lJ im 300 im.fs 0=some (0,0,0):=sB hI (by decide) hI.2.2
theorem DS(n:Int):∃l∈lY,B9 n=lb l:=by
 unfold B9;cases h:lY[n.toNat]? with
 |none=>exact⟨⟨[],[]⟩,.head _,rfl⟩
 |some l=>exact⟨l,aG h,rfl⟩
theorem uN(n m:Int):pN (B9 n)=true/\pN (dS (B9 n) (B9 m))=true:=by
 obtain⟨a,ha,e1⟩:=DS n;obtain⟨b,hb,e2⟩:=DS m;have h:lY.all (λa=>lY.all λb=>pN (dS (lb a) (lb b)))=true:=zx0
 rw[e1,e2];exact⟨aP.1 DR a ha,aP.1 (aP.1 h a ha) b hb⟩
theorem x_(ts:List Int)(no:Bool)(i:Nat):cC (jg ts no i).l/\cC (jg ts no i).c:=⟨uM _,wu _ _⟩
theorem Pd{c:Cf}(hi:de c.im){b:Bo}(h:0<=b.fu/\b.fu<3):iI c b=true:=by
 unfold iI;have hl:=hi.2.1;have hlt:b.fu.toNat<c.im.fs.length:=by omega
 rw[aA hlt];simp[h.1,(hi.2.2 _ (dR hlt)).1]
theorem Kc{ts:List Int}(ht:jE ts)(no:Bool)(i:Nat):(0<=(jg ts no i).fu/\(jg ts no i).fu<3)/\(0<=(jg ts no i).ma/\(jg ts no i).ma<=3)/\(0<=(jg ts no i).ro/\(jg ts no i).ro<12)/\(jg ts no i).bo<2:=by
 have b2:=oQ ht (6*i+2);have b4:=vU (oQ ht (6*i+4)) 3 (by decide);refine⟨vU (oQ ht (6*i+1)) 3 (by decide),?_,vU (oQ ht (6*i+3)) 12 (by decide),?_⟩
 .show 0<=(bif no then 0 else((px ts (6*i+2)).tdiv 4).tmod 4)/\(bif no then 0 else((px ts (6*i+2)).tdiv 4).tmod 4)<=3;cases no with
  |true=>exact⟨eT _,(by decide:(0:Int)<=3)⟩
  |false=>
   rw[ε,Int.tdiv_eq_ediv_of_nonneg b2.1];have:=vU (n:=px ts (6*i+2) / 4) ⟨by omega,by omega⟩ 4 (by decide);omega
 .show(px ts (6*i+4)).tmod 3-1<2;omega
theorem SZ{c:Cf}(hi:de c.im)(hx:c.bx.length=2){ts:List Int}(ht:jE ts)(no:Bool)(i:Nat):eH c (jg ts no i)=0:=by
 obtain⟨h1,h2,h3,h4⟩:=Kc ht no i;have h5:=uN (wg[((px ts (6*i)).tmod 8).toNat]?.getD 0) (yc[((px ts (6*i+2)).tmod 4).toNat]?.getD 0);unfold eH;rw[Pd hi h1,hx,show pN (jg ts no i).l=true from h5.1,show pN (jg ts no i).c=true from h5.2,show bH (jg ts no i).l (jg ts no i).c=true from xn _ _,φ (show(jg ts no i).ma<=63 by omega),φ h3.1,φ (show(jg ts no i).ro<=999 by omega),φ (show(jg ts no i).bo<((2:Nat):Int)by omega)];rfl
theorem SU(im:Im)(bs ts:List Int)(no:Bool):yu (s_ im bs ts no) where
 bx:=λb hb=>by
  rcases ah.1 hb with rfl|hb
  .exact uM _
  .rw[aF.1 hb];exact uM _
 bo:=λb hb=>by
  rcases ah.1 hb with rfl|hb
  .exact x_ _ _ _
  .rcases ah.1 hb with rfl|hb
   .exact x_ _ _ _
   .rw[aF.1 hb];exact x_ _ _ _
 n1:=by show 2<1000000;decide
 n2:=by show 3<1000000;decide
theorem zq{im:Im}(hi:de im):Z0 28 [sC im] (.tu [.d (.int .i64 0),.d (.int .i64 0),.d (.int .i64 0)]):=Ds im (Eg hi) 300 (0,0,0) (CK hi)
def CS(c:Cf)(k n:Nat):Cf:=match k with
 |0=>{c with bx:=List.replicate 9 ⟨kW,0⟩}
 |1=>{c with bo:=[]}
 |2=>{c with bx:=c.bx.modify (n % 2) λb=>{b with l:=⟨[2,1],[]⟩}}
 |3=>{c with bo:=c.bo.modify n λb=>{b with fu:=3}}
 |4=>{c with bo:=c.bo.modify n λb=>{b with fu:= -1}}
 |5=>{c with bo:=c.bo.modify n λb=>{b with ma:=64}}
 |6=>{c with bo:=c.bo.modify n λb=>{b with ro:=1000}}
 |7=>{c with bo:=c.bo.modify n λb=>{b with bo:=2}}
 |_=>{c with bo:=c.bo.modify n λb=>{b with l:=Bn,c:=⟨[],[0]⟩}}
def S8(k n:Nat):Int×Int:=match k with
 |0|1=>(0,3)
 |2=>((n % 2:Nat),1)
 |3|4=>(n,6)
 |5|6|7=>(n,1)
 |_=>(n,13)
theorem Kl{c:Cf}(hi:de c.im)(hx:c.bx.length=2){ts:List Int}(ht:jE ts)(i:Nat) :
  eH c {jg ts false i with fu:=3}=6/\eH c {jg ts false i with fu:= -1}=6/\eH c {jg ts false i with ma:=64}=1/\eH c {jg ts false i with ro:=1000}=1/\eH c {jg ts false i with bo:=2}=1/\eH c {jg ts false i with l:=Bn,c:=⟨[],[0]⟩}=13:=by
 obtain⟨h1,h2,h3,h4⟩:=Kc ht false i;have h5:=uN (wg[((px ts (6*i)).tmod 8).toNat]?.getD 0) (yc[((px ts (6*i+2)).tmod 4).toNat]?.getD 0);have o1:pN (jg ts false i).l=true:=h5.1;have o2:pN (jg ts false i).c=true:=h5.2;have o3:=φ (show(jg ts false i).ma<=63 by omega);have o4:=φ h3.1;have o5:=φ (show(jg ts false i).ro<=999 by omega);have o6:=φ (show(jg ts false i).bo<((2:Nat):Int)by omega);have hl:=hi.2.1;clear h5 h2 h4;generalize jg ts false i=b at *;obtain⟨fu,l,cl,ma,ro,bo,n⟩:=b;have f:∀l cl ma ro bo n,iI c ⟨fu,l,cl,ma,ro,bo,n⟩=true:=λ_ _ _ _ _ _=>Pd hi h1;dsimp only at o1 o2 o3 o4 o5 o6⊢;refine⟨?_,?_,?_,?_,?_,?_⟩
 .have:iI c ⟨3,l,cl,ma,ro,bo,n⟩=false:=by
   unfold iI;rw[show c.im.fs[((3:Int)).toNat]?=none from cu (by rw[hl];decide)]
  unfold eH;rw[this];rfl
 .have:iI c ⟨-1,l,cl,ma,ro,bo,n⟩=false:=by
   unfold iI;split<;>rfl
  unfold eH;rw[this];rfl
 .unfold eH;rw[f];dsimp only;rw[o1,o2];rfl
 .unfold eH;rw[f];dsimp only;rw[o1,o2,o3];rfl
 .unfold eH;rw[f];dsimp only;rw[o1,o2,o3,o4,o5,hx];rfl
 .unfold eH;rw[f];dsimp only;rw[o3,o4,o5,hx,o6]
  kernel_rfl
theorem SY{P:Bo->Prop}{ts:List Int}{no:Bool}(h:∀i,P (jg ts no i)){f:Bo->Bo}(hf:∀b,P b->P (f b))(n:Nat):∀b∈[jg ts no 0,jg ts no 1,jg ts no 2].modify n f,P b:=λb hb=>by
 have key:∀x∈[jg ts no 0,jg ts no 1,jg ts no 2],P x:=λx hx=>by
  rcases ah.1 hx with rfl|hx
  .exact h 0
  .rcases ah.1 hx with rfl|hx
   .exact h 1
   .rw[aF.1 hx];exact h 2
 rcases si hb with hb|⟨y,hy,rfl⟩
 .exact key b hb
 .exact hf y (key y hy)
theorem Kj(im:Im)(bs ts:List Int)(k n:Nat):yu (CS (s_ im bs ts false) k n):=by
 have h:=SU im bs ts false;have hb:∀f:Bo->Bo,(∀b,cC b.l/\cC b.c->cC (f b).l/\cC (f b).c)->yu {s_ im bs ts false with bo:=(s_ im bs ts false).bo.modify n f}:=λf hf=>
  ⟨h.bx,SY (P:=λb=>cC b.l/\cC b.c) (x_ ts false) hf n,h.n1,by show(List.modify _ _ _).length<_;rw[oT];exact h.n2⟩
 unfold CS;split
 .exact⟨λb hb=>by rw[(List.mem_replicate.1 hb).2];exact lB,h.bo,by show 9<1000000;decide,h.n2⟩
 .exact⟨h.bx,λb hb=>(by cases hb),h.n1,by show 0<1000000;decide⟩
 .refine⟨λb hb=>?_,h.bo,by show(List.modify _ _ _).length<_;rw[oT];exact h.n1,h.n2⟩;rcases si hb with hb|⟨y,hy,rfl⟩
  .exact h.bx b hb
  .exact PG (by show 2<=2;decide) (by show 0<=2;decide)
 all_goals refine hb _ λb hb=>?_
 .exact hb
 .exact hb
 .exact hb
 .exact hb
 .exact hb
 .exact⟨PG (by show 1<=2;decide) (by show 0<=2;decide),PG (by show 0<=2;decide) (by show 1<=2;decide)⟩
theorem Ps{im:Im}(hi:de im){bs ts:List Int}(ht:jE ts){k n:Nat}(hk:k<9)(hn:n<3):wW (CS (s_ im bs ts false) k n) 0=S8 k n:=by
 have hx:ir [Dw bs 0,Dw bs 1] 0=none:=by
  unfold ir ir ir;rw[show pN (Dw bs 0).l=true from(uN _ 0).1,show pN (Dw bs 1).l=true from(uN _ 0).1];rfl
 have key:∀(f:Bo->Bo)(e:Int),e≠0->(∀c:Cf,de c.im->c.bx.length=2->∀i,eH c (f (jg ts false i))=e)->wW {s_ im bs ts false with bo:=(s_ im bs ts false).bo.modify n f} 0=((n:Int),e):=λf e he hf=>by
  have h0:=λi=>SZ (c:={s_ im bs ts false with bo:=(s_ im bs ts false).bo.modify n f}) hi rfl ht false i;have h1:=hf {s_ im bs ts false with bo:=(s_ im bs ts false).bo.modify n f} hi rfl;have hz:(e==0)=false:=by simpa using he
  obtain rfl|rfl|rfl:n=0\/n=1\/n=2:=by omega
  .unfold wW;rw[show ir ({s_ im bs ts false with bo:=(s_ im bs ts false).bo.modify 0 f}:Cf).bx 0=none from hx];show gj _ [f (jg ts false 0),jg ts false 1,jg ts false 2] 0=_;unfold gj;rw[h1 0,hz];rfl
  .unfold wW;rw[show ir ({s_ im bs ts false with bo:=(s_ im bs ts false).bo.modify 1 f}:Cf).bx 0=none from hx];show gj _ [jg ts false 0,f (jg ts false 1),jg ts false 2] 0=_;unfold gj gj;rw[h0 0,h1 1,hz];rfl
  .unfold wW;rw[show ir ({s_ im bs ts false with bo:=(s_ im bs ts false).bo.modify 2 f}:Cf).bx 0=none from hx];show gj _ [jg ts false 0,jg ts false 1,f (jg ts false 2)] 0=_;unfold gj gj gj;rw[h0 0,h0 1,h1 2,hz];rfl
 have hb:=λc h1 h2 i=>Kl (c:=c) h1 h2 ht i;obtain rfl|rfl|rfl|rfl|rfl|rfl|rfl|rfl|rfl:k=0\/k=1\/k=2\/k=3\/k=4\/k=5\/k=6\/k=7\/k=8:=by omega
 .rfl
 .rfl
 .have h0:pN (Dw bs 0).l=true:=(uN _ 0).1;obtain rfl|rfl|rfl:n=0\/n=1\/n=2:=by omega
  .rfl
  .show(match ir [Dw bs 0,{Dw bs 1 with l:=⟨[2,1],[]⟩}] 0 with|some i=>(i,1)|none=>gj _ _ 0)=_;unfold ir ir;rw[h0];rfl
  .rfl
 .exact key (λb=>{b with fu:=3}) 6 (by decide) λc h1 h2 i=>(hb c h1 h2 i).1
 .exact key (λb=>{b with fu:= -1}) 6 (by decide) λc h1 h2 i=>(hb c h1 h2 i).2.1
 .exact key (λb=>{b with ma:=64}) 1 (by decide) λc h1 h2 i=>(hb c h1 h2 i).2.2.1
 .exact key (λb=>{b with ro:=1000}) 1 (by decide) λc h1 h2 i=>(hb c h1 h2 i).2.2.2.1
 .exact key (λb=>{b with bo:=2}) 1 (by decide) λc h1 h2 i=>(hb c h1 h2 i).2.2.2.2.1
 .exact key (λb=>{b with l:=Bn,c:=⟨[],[0]⟩}) 13 (by decide) λc h1 h2 i=>(hb c h1 h2 i).2.2.2.2.2
theorem Kk(c:Cf)(k n:Nat):(CS c k n).im=c.im:=by
 unfold CS;split<;>rfl
theorem No(k n:Nat):(S8 k n).2≠0:=by
 unfold S8;split<;>simp
theorem XD:Z0 7 [] (lO ⟨[],[0]⟩):=by
 refine sh0 Tryz.f7 ?_
 repeat' ((conv=>whnf);first|exact zf|refine zm ?_|refine zB ?_ ?_|intro _)
set_option maxRecDepth 100000 in
theorem HT(L:List (List Int))(bs ts:List Int)(how which:Int)(hL:∀l∈L,jE l)(hb:jE bs)(ht:jE ts)(hh:0<=how/\how<=255)(hw:0<=which/\which<=255):Z0 3 [Pv L bs ts,.d (.int .u8 how),.d (.int .u8 which)] (.d (.bool true)):=by
  have h0:=FZ
  have h1:=λ{K:KT}=>NW (K:=K) L bs ts false hL hb ht
  have h2:=J4
  have h3:=XD
  obtain⟨k,hk9,hk⟩:∃k:Nat,k<9/\how.tmod 9=k:=by
    have:=vU hh 9 (by decide)
    exact⟨(how.tmod 9).toNat,by omega,by omega⟩
  obtain⟨n,hn3,hn⟩:∃n:Nat,n<3/\which.tmod 3=n:=by
    have:=vU hw 3 (by decide)
    exact⟨(which.tmod 3).toNat,by omega,by omega⟩
  refine s3.go (keep:=false) rfl ?_
  repeat' ((conv=>whnf);first|exact zf|refine zm ?_|refine zc h0 ?_|refine zr0 ?_|refine(h1 (λim hi=>?_))|refine zB ?_ ?_|intro _)
  have h4:=H_ (CS (s_ im bs ts false) k n) 0 0 0 (by rw[Kk];exact zq hi) (Kj im bs ts k n) (by rw[Ps hi ht hk9 hn3];exact No k n)
  have h5:=CL (CS (s_ im bs ts false) k n) 0 0 0 (by rw[Kk];exact zq hi) (Kj im bs ts k n)
  rw[Ps hi ht hk9 hn3]at h4 h5
  simp only[hk,hn]
  have hx:0<=(n:Int).tmod 2/\(n:Int).tmod 2<((s_ im bs ts false).bx.map cN).length/\Nat.beq 3 3=true:=by
    have:=vU (n:=n) ⟨by omega,by omega⟩ 2 (by decide)
    exact⟨this.1,this.2,rfl⟩
  have hy:0<=(n:Int)/\(n:Int)<((s_ im bs ts false).bo.map cW).length/\Nat.beq 9 9=true:=⟨by omega,by show(n:Int)<((3:Nat):Int);omega,rfl⟩
  obtain rfl|rfl|rfl:n=0\/n=1\/n=2:=by omega
  all_goals
    obtain rfl|rfl|rfl|rfl|rfl|rfl|rfl|rfl|rfl:k=0\/k=1\/k=2\/k=3\/k=4\/k=5\/k=6\/k=7\/k=8:=by omega
    all_goals
      repeat' ((conv=>whnf);first|exact zf|refine zm ?_|refine zc h2 ?_|refine zc h3 ?_|refine zr0 ?_|refine zc h4 ?_|refine zc h5 ?_|refine⟨hx,?_⟩|refine⟨hy,?_⟩|refine⟨_,rfl,⟨rfl,rfl,rfl⟩,?_⟩|refine zB ?_ ?_|refine zt ?_|refine zu ?_|intro _)
end Go.Proofs.YtmigecldjbgneaaGreatDoor