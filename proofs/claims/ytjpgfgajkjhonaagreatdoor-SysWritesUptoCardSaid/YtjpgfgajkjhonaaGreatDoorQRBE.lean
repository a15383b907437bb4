/- Lemmas. Conditions: none. -/
import Derived.Test.YtjpgfgajkjhonaaGreatDoorQRBD
set_option maxHeartbeats 4000000
set_option maxRecDepth 100000
namespace Go.Proofs.YtjpgfgajkjhonaaGreatDoor
open Go.Vx
set_option maxRecDepth 100000
section
variable{mx:Int}{q n:Nat}{t:Th}{s:b7}{now:Int}{b:Option Nat}
def gH:List Sc->Int
 |[]=>0
 |x::l=>x.ro+1+gH l
def uh(t:Th):Int:=t.ro+gH t.sc
theorem yO(l r:List Sc):gH (l++r)=gH l+gH r:=by
 induction l with
 |nil=>show gH r=0+gH r;omega
 |cons x l ih=>show x.ro+1+gH (l++r)=x.ro+1+gH l+gH r;rw[ih];omega
theorem yN{l:List Sc}(h:∀x∈l,0<=x.ro):0<=gH l:=by
 induction l with
 |nil=>exact eV _
 |cons x l ih=>
  have h1:=h x (by simp);have h2:=ih λy hy=>h y (by simp[hy]);show 0<=x.ro+1+gH l;omega
theorem A5{l:List Sc}{k:Nat}{x:Sc}(hx:l[k]?=some x)(h:∀x∈l,0<=x.ro):x.ro+gH (l.take k)+1<=gH l:=by
 obtain⟨hk,rfl⟩:=aC.1 hx;have e:l=l.take k++l[k]::l.drop (k+1):=by rw[List.getElem_cons_drop,List.take_append_drop]
 have h2:0<=gH (l.drop (k+1)):=yN λy hy=>h y (dJ hy);have h3:gH l=gH (l.take k)+(l[k].ro+1+gH (l.drop (k+1))):=by
  have:=yO (l.take k) (l[k]::l.drop (k+1));rw[<-e]at this;exact this
 omega
def names(s:b7):List (List UInt8):=s.th.map (·.1)
def jQ:Fx->Int
 |.fork x=>x.ro
 |_=>0
def ki(nm:List UInt8):Prop:=∃p,nm=bm (3::p)/\p≠[]/\ee (3::p)
structure Own(t:Th):Prop where
  pa:∃p,t.pa=bm (3::p)/\∀x∈3::p,x<100
  sc:∀x∈t.sc,ki x.nm/\∃p,x.pa=bm (3::p)/\∀x∈3::p,x<100
theorem Own.kp{p:List Nat}(h:Own t)(hp:o_ p t.pa t.ma t.ro)(hr:1<=t.ro):ki (bm (kz t))/\∃r,kz t=3::r/\r≠[]:=by
 obtain⟨r,hr1,hr2⟩:=h.pa;have:p=3::r:=by
  have h1:=hp.un;rw[hr1,sQ (by simp) hr2]at h1;exact h1.symm
 have hk:=hp.kp;rw[this]at hk;have hg:=hp.nF hr;refine⟨⟨r++[t.ma.toNat],κ bm hk,by simp,?_⟩,r++[t.ma.toNat],hk,by simp⟩;rw[hk]at hg;exact hg
theorem qU{i:Nat}{nm:List UInt8}{o p:Ob}(h:bW nm s.th=some (i,o)):names (jk s i nm p)=names s:=by
 have key:∀{l:List (List UInt8×Ob)}{i:Nat},bW nm l=some (i,o)->(l.set i (nm,p)).map (·.1)=l.map (·.1):=by
  intro l
  induction l with
  |nil=>intro i h;cases h
  |cons x l ih=>
   intro i h;have h':(if nm=x.1 then some (0,x.2)else(bW nm l).map λx=>(x.1+1,x.2))=some (i,o):=h
   by_cases hk:nm=x.1
   .rw[ζ hk,aE,bz]at h';obtain⟨rfl,_⟩:=h';simp[hk]
   .rw[η hk]at h';cases hl:bW nm l with
    |none=>rw[hl]at h';cases h'
    |some y=>
     obtain⟨j,o'⟩:=y;rw[hl]at h';simp only[bE,aE,bz]at h';obtain⟨rfl,rfl⟩:=h';simp[ih hl]
 exact key h
theorem qV(s:b7)(kp:List Nat)(o:Ob)(b:Option Nat):names (j8 s kp o b)=names s\/names (j8 s kp o b)=names s++[bm kp]:=by
 unfold j8;cases ky o.l&&(bW (bm kp) s.th).isNone
 .exact .inl rfl
 .exact .inr (by unfold names qi;rw[δ,bZ];rfl)
structure Made(t t':Th)(s s':b7)(g:Int):Prop where
  ex:∃l,names s'=names s++l/\(l.length:Int)+uh t'+g<=uh t/\∀x∈l,ki x
theorem jT.made{ma:Int}{e:Fx}{t':Th}{s':b7}(ht:gN mx n t)(ho:Own t)(D:jT now mx q n t ma s b e t' s') :
  Own t'/\Made t t' s s' (jQ e)/\(∀x,e=.fork x->0<=x.ro/\x.pa=x.id/\ki x.id):=by
 obtain⟨p,hp⟩:=ht.pa;cases D with
 |go g k st on _ _ _=>exact⟨⟨ho.pa,ho.sc⟩,⟨[],by simp,(by show(0:Int)+uh t+0<=uh t;omega),λx hx=>by cases hx⟩,λx hx=>by cases hx⟩
 |log x g _ _=>exact⟨⟨ho.pa,ho.sc⟩,⟨[],by simp,(by show(0:Int)+uh t+0<=uh t;omega),λx hx=>by cases hx⟩,λx hx=>by cases hx⟩
 |out x _ _ _ _=>exact⟨⟨ho.pa,ho.sc⟩,⟨[],by simp,(by show(0:Int)+uh t+0<=uh t;omega),λx hx=>by cases hx⟩,λx hx=>by cases hx⟩
 |set e g i nm o w k st on h1 _ _ _ _ _ _ _ _ _ he=>
  have hf:jQ e=0:=by rcases he with rfl|⟨_,rfl,_⟩<;>rfl
  refine⟨⟨ho.pa,ho.sc⟩,⟨[],by rw[qU h1];simp,(by rw[hf];show(0:Int)+uh t+0<=uh t;omega),λx hx=>by cases hx⟩,λx hx=>?_⟩;rcases he with rfl|⟨_,rfl,_⟩<;>cases hx
 |make o k _ _ hr _ _ _=>
  refine⟨⟨ho.pa,ho.sc⟩,?_,λx hx=>by cases hx⟩;rcases qV s (kz t) o b with e|e
  .exact⟨[],by rw[e];simp,(by show(0:Int)+(t.ro-1+gH t.sc)+0<=t.ro+gH t.sc;omega),λx hx=>by cases hx⟩
  .exact⟨[bm (kz t)],e,(by show(1:Int)+(t.ro-1+gH t.sc)+0<=t.ro+gH t.sc;omega),λx hx=>by rw[aL.1 hx];exact(ho.kp hp hr).1⟩
 |fork l ro k d _ _ _ hr0 hr _ _=>
  have hk:=(ho.kp hp (by omega)).1;refine⟨⟨ho.pa,ho.sc⟩,?_,λx hx=>by cases hx;exact⟨hr0,rfl,hk⟩⟩;rcases qV s (kz t) {fK with k:=6,l:=l} b with e|e
  .exact⟨[],by rw[e];simp,(by show(0:Int)+(t.ro-1-ro+gH t.sc)+ro<=t.ro+gH t.sc;omega),λx hx=>by cases hx⟩
  .exact⟨[bm (kz t)],e,(by show(1:Int)+(t.ro-1-ro+gH t.sc)+ro<=t.ro+gH t.sc;omega),λx hx=>by rw[aL.1 hx];exact hk⟩
 |scope l tk ro k _ _ _ hr0 hr _ _ _=>
  obtain⟨hk,r,hr1,hr2⟩:=ho.kp hp (by omega);have hg:=hp.nF (by omega);refine⟨⟨⟨r,κ bm hr1,by rw[<-hr1];exact hg.2.2⟩,λx hx=>?_⟩,⟨[],by simp,?_,λx hx=>by cases hx⟩,λx hx=>by cases hx⟩
  .rcases aR.1 hx with h1|h1
   .exact ho.sc x h1
   .rw[aL.1 h1];exact⟨hk,ho.pa⟩
  .show(0:Int)+(ro+gH (t.sc++[q9 t l tk ro now (bm (kz t))]))+0<=t.ro+gH t.sc;rw[yO];show(0:Int)+(ro+(gH t.sc+(t.ro-1-ro+1+0)))+0<=t.ro+gH t.sc;omega
theorem Eg(v:Va)(ex:Bool):names (t_ t s v ex).2=names s:=by
 unfold t_;split
 .rfl
 .cases hl:bW t.id s.th with
  |none=>rfl
  |some p=>
   obtain⟨i,o⟩:=p;dsimp only;split
   .exact qU hl
   .rfl
theorem oO.made{r:Rs}(ht:gN mx n t)(ho:Own t)(T:oO now mx q n t s b r) :
  Own r.t/\Made t r.t s r.s (jQ r.e)/\(∀x,r.e=.fork x->0<=x.ro/\x.pa=x.id/\ki x.id):=by
 cases T with
 |idle _=>exact⟨⟨ho.pa,ho.sc⟩,⟨[],by simp,(by show(0:Int)+uh t+0<=uh t;omega),λx hx=>by cases hx⟩,λx hx=>by cases hx⟩
 |core g k _ _ _=>exact⟨⟨ho.pa,ho.sc⟩,⟨[],by simp,(by show(0:Int)+uh t+0<=uh t;omega),λx hx=>by cases hx⟩,λx hx=>by cases hx⟩
 |fin g k v ex _ _ _ _=>exact⟨⟨ho.pa,ho.sc⟩,⟨[],by rw[Eg];simp,(by show(0:Int)+uh t+0<=uh t;omega),λx hx=>by cases hx⟩,λx hx=>by cases hx⟩
 |M5 k ma e t' s' _ hk _ D=>
  have:=jT.made (t:={t with c:=k}) ⟨hk,ht.g,ht.pa,ht.sc,ht.sl,ht.v⟩ ⟨ho.pa,ho.sc⟩ D;exact⟨this.1,⟨this.2.1.ex⟩,this.2.2⟩
theorem Ap(ht:gN mx n t)(ho:Own t)(now:Int)(b:Option Nat):Own (dA t s now b).1/\Made t (dA t s now b).1 s (dA t s now b).2 0:=by
 have hr:∀x∈t.sc,0<=x.ro:=λx hx=>by
  obtain⟨p,hp⟩:=(ht.sc x hx).pa;exact hp.r0
 obtain⟨p,hp⟩:=ht.pa;have h0:=hp.r0;unfold dA;cases hi:t.sc[jD now t.sc]? with
 |none=>exact⟨ho,⟨[],by simp,(by show(0:Int)+uh t+0<=uh t;omega),λx hx=>by cases hx⟩⟩
 |some x=>
  have hm:=aJ hi;have hs:=A5 hi hr;obtain⟨h1,h2⟩:=ho.sc x hm;have hnm:=(ht.sc x hm).Ul.nm;refine⟨⟨h2,λy hy=>ho.sc y (dq hy)⟩,?_⟩;rcases qV s (LF x) (qW t (jD now t.sc) x) b with e|e
  .exact⟨[],by rw[e];simp,(by show(0:Int)+(x.ro+gH (t.sc.take _))+0<=t.ro+gH t.sc;omega),λx hx=>by cases hx⟩
  .exact⟨[bm (LF x)],e,(by show(1:Int)+(x.ro+gH (t.sc.take _))+0<=t.ro+gH t.sc;omega),λy hy=>by rw[aL.1 hy,<-hnm];exact h1⟩
structure RI(mx:Int)(q n:Nat)(first:Int)(made given:Int)(t:Th)(s:b7):Prop where
  th:gN mx n t
  so:fy mx q n s
  own:Own t
  sum:made+given+uh t<=first
  m0:0<=made
  g0:0<=given
theorem RI.step{first made given:Int}{im:Im}(hP:pY im)(h0:0<=mx)(hx:mx<=255)(hn:n<30000000)(h:RI mx q n first made given t s)(b b':Option Nat) :
  ∃l,names (ev im now b b' t s).s=names s++l/\(∀x∈l,ki x) /\
   RI mx (q+3) (n+3) first (made+l.length) (given+jQ (ev im now b b' t s).e) (ev im now b b' t s).t (ev im now b b' t s).s /\
   (∀x,(ev im now b b' t s).e=.fork x->0<=x.ro/\x.pa=x.id/\ki x.id):=by
 have hk:=sX hP h.th h.so h0 hx (by omega) b b' (now:=now);have T:=iZ hP h.th h.so h0 hx (by omega) b b' (now:=now);obtain⟨o1,⟨l1,a1,a2,a3⟩⟩:=Ap (s:=s) h.th h.own now b;have hlt:=(jt (now:=now) h.th h.so h0 b).1;obtain⟨o2,⟨l2,b1,b2,b3⟩,b4⟩:=T.made hlt o1;have hf:0<=jQ (ev im now b b' t s).e:=by
  generalize hE:(ev im now b b' t s).e=E at b4;cases E with
  |fork x=>exact(b4 x rfl).1
  |no|out|log|KZ=>exact eV _
 refine⟨l1++l2,by rw[b1,a1,bN],λx hx=>?_,⟨hk.1,hk.2.mono,o2,?_,?_,?_⟩,b4⟩
 .rcases aR.1 hx with h|h
  .exact a3 x h
  .exact b3 x h
 .have:=h.sum;rw[aK];omega
 .have:=h.m0;omega
 .have:=h.g0;omega
theorem RI.room{first made given:Int}(h:RI mx q n first made given t s):0<=t.ro/\t.ro<=first/\made+given<=first:=by
 obtain⟨p,hp⟩:=h.th.pa;have h1:=yN λx hx=>by
  obtain⟨p,hp⟩:=(h.th.sc x hx).pa;exact hp.r0
 have h2:=h.sum;have h3:=h.m0;have h4:=h.g0;have h5:=hp.r0;unfold uh at h2;exact⟨h5,by omega,by omega⟩
end
structure qJ(s:b7):Prop where
  nd:(names s).Nodup
  ld:(s.nm.map (·.1)).Nodup
  up:∀p∈s.th,∃e∈s.nm,e.1=p.2.l/\∃k∈e.2.2,p.1=bm k
  dn:∀e∈s.nm,∀k∈e.2.2,∃p∈s.th,p.1=bm k/\p.2.l=e.1
  gd:∀p∈s.th,∃k,p.1=bm k/\ee k
  ne:∀e∈s.nm,e.2.2≠[]
section
variable{mx:Int}{q n:Nat}{t:Th}{s:b7}{now:Int}{b:Option Nat}
theorem C7{nm:List UInt8}{o:Ob}:∀{l:List (List UInt8×Ob)}{i:Nat},bW nm l=some (i,o)->l[i]?=some (nm,o)
 |[],i,h=>by cases h
 |x::l,i,h=>by
  have h':(if nm=x.1 then some (0,x.2)else(bW nm l).map λx=>(x.1+1,x.2))=some (i,o):=h
  by_cases hk:nm=x.1
  .rw[ζ hk,aE,bz]at h';obtain⟨rfl,rfl⟩:=h';rw[hk];rfl
  .rw[η hk]at h';cases hl:bW nm l with
   |none=>rw[hl]at h';cases h'
   |some y=>
    obtain⟨j,o'⟩:=y;rw[hl]at h';simp only[bE,aE,bz]at h';obtain⟨rfl,rfl⟩:=h';show l[j]?=_;exact C7 hl
theorem nk{nm:List UInt8}:∀{l:List (List UInt8×Ob)},bW nm l=none->nm∉l.map (·.1)
 |[],_=>by simp
 |x::l,h=>by
  have h':(if nm=x.1 then some (0,x.2)else(bW nm l).map λx=>(x.1+1,x.2))=none:=h
  by_cases hk:nm=x.1
  .rw[ζ hk]at h';cases h'
  .rw[η hk]at h';cases hl:bW nm l with
   |some y=>rw[hl]at h';cases h'
   |none=>
    have:=nk hl;rw[cG,af]
    rintro (h|h)
    .exact hk h
    .exact this h
theorem qJ.set{i:Nat}{nm:List UInt8}{o p:Ob}(h:qJ s)(hl:bW nm s.th=some (i,o))(hp:p.l=o.l):qJ (jk s i nm p):=by
 have hat:=C7 hl;have hm:=aJ hat;have hin:∀x∈s.th,∃y∈s.th.set i (nm,p),y.1=x.1/\y.2.l=x.2.l:=λx hx=>by
  obtain⟨j,hj,rfl⟩:=List.mem_iff_getElem.1 hx
  by_cases e:i=j
  .subst e;rw[aA hj,aE]at hat;exact⟨(nm,p),List.mem_set hj _,by rw[hat],by rw[hat];exact hp⟩
  .exact⟨s.th[j],aJ (i:=j) (by rw[dt e];exact aA hj),rfl,rfl⟩
 refine⟨by rw[qU hl];exact h.nd,h.ld,λx hx=>?_,λe he k hk=>?_,λx hx=>?_,h.ne⟩
 .rcases fP hx with h1|h1
  .exact h.up x h1
  .rw[h1];have:=h.up _ hm;rw[hp];exact this
 .obtain⟨x,hx,h1,h2⟩:=h.dn e he k hk;obtain⟨y,hy,h3,h4⟩:=hin x hx;exact⟨y,hy,h3.trans h1,h4.trans h2⟩
 .rcases fP hx with h1|h1
  .exact h.gd x h1
  .rw[h1];obtain⟨k,a1,a2⟩:=h.gd _ hm;exact⟨k,a1,a2⟩
theorem Nl{a l:Lb}:(a.s=l.s/\a.i=l.i)<->a=l:=by
 constructor
 .rintro ⟨h1,h2⟩
  cases a;cases l;cases h1;cases h2;rfl
 .rintro rfl;exact⟨rfl,rfl⟩
theorem qB(l:Lb)(kp:List Nat)(b:Option Nat):qC [] l kp b=[(l,b,[kp])]:=rfl
theorem lU(p:Lb×Option Nat×List (List Nat))(r:kA)(l:Lb)(kp:List Nat)(b:Option Nat):qC (p::r) l kp b=if p.1=l then(p.1,b,tc p.2.2 kp)::r else p::qC r l kp b:=by
 unfold qC;rw[show rU l (p::r)=if p.1.s=l.s/\p.1.i=l.i then some 0 else(rU l r).map (· + 1)from rfl]
 by_cases h:p.1=l
 .rw[ζ (Nl.2 h),ζ h];rfl
 .rw[η (λe=>h (Nl.1 e)),η h];cases rU l r with
  |none=>rfl
  |some i=>rfl
theorem DW{l:Lb}{kp:List Nat}:∀{nm:kA}{e:Lb×Option Nat×List (List Nat)},e∈nm->∃e'∈qC nm l kp b,e'.1=e.1/\∀k∈e.2.2,k∈e'.2.2
 |[],e,h=>by cases h
 |p::r,e,h=>by
  rw[lU]
  by_cases hp:p.1=l
  .rw[ζ hp];rcases af.1 h with h1|h1
   .subst h1;exact⟨(e.1,b,tc e.2.2 kp),by simp,rfl,λk hk=>pe.2 (.inr hk)⟩
   .exact⟨e,by simp[h1],rfl,λk hk=>hk⟩
  .rw[η hp];rcases af.1 h with h1|h1
   .subst h1;exact⟨e,by simp,rfl,λk hk=>hk⟩
   .obtain⟨e',a1,a2,a3⟩:=DW (l:=l) (kp:=kp) h1;exact⟨e',by simp[a1],a2,a3⟩
theorem zV{l:Lb}{kp:List Nat}:∀{nm:kA},∃e'∈qC nm l kp b,e'.1=l/\kp∈e'.2.2
 |[]=>⟨(l,b,[kp]),by rw[qB];simp,rfl,by simp⟩
 |p::r=>by
  rw[lU]
  by_cases hp:p.1=l
  .rw[ζ hp];exact⟨(p.1,b,tc p.2.2 kp),by simp,hp,pe.2 (.inl rfl)⟩
  .rw[η hp];obtain⟨e',a1,a2,a3⟩:=zV (l:=l) (kp:=kp) (nm:=r);exact⟨e',by simp[a1],a2,a3⟩
theorem DZ{l:Lb}{kp:List Nat}:∀{nm:kA}{e:Lb×Option Nat×List (List Nat)}{k:List Nat},e∈qC nm l kp b->k∈e.2.2->(k=kp/\e.1=l)\/∃e'∈nm,e'.1=e.1/\k∈e'.2.2
  |[],e,k,h,hk=>by
    rw[qB]at h
    rw[aL.1 h]at hk⊢
    exact .inl ⟨aL.1 hk,rfl⟩
  |p::r,e,k,h,hk=>by
    rw[lU]at h
    by_cases hp:p.1=l
    · rw[ζ hp]at h
      rcases af.1 h with h1|h1
      · rw[h1]at hk⊢
        rcases pe.1 hk with h2|h2
        · exact .inl ⟨h2,hp⟩
        · exact .inr ⟨p,by simp,rfl,h2⟩
      · exact .inr ⟨e,by simp[h1],rfl,hk⟩
    · rw[η hp]at h
      rcases af.1 h with h1|h1
      · rw[h1]at hk⊢
        exact .inr ⟨p,by simp,rfl,hk⟩
      · rcases DZ h1 hk with h2|⟨e',h2,h3,h4⟩
        · exact .inl h2
        · exact .inr ⟨e',by simp[h2],h3,h4⟩
theorem DY{l:Lb}{kp:List Nat}:∀{nm:kA},(nm.map (·.1)).Nodup->((qC nm l kp b).map (·.1)).Nodup/\∀x∈(qC nm l kp b).map (·.1),x=l\/x∈nm.map (·.1)
  |[],_=>by rw[qB];exact⟨by simp,λx hx=>.inl (by simpa using hx)⟩
  |p::r,h=>by
    rw[lU]
    by_cases hp:p.1=l
    · rw[ζ hp]
      exact⟨h,λx hx=>.inr hx⟩
    · rw [η hp]
      rw[cG,cm]at h
      obtain⟨a,c⟩:=DY (l:=l) (kp:=kp) h.2
      refine⟨?_,λx hx=>?_⟩
      · rw[cG,cm]
        refine⟨λhx=>?_,a⟩
        rcases c _ hx with h1|h1
        · exact hp h1
        · exact h.1 h1
      · rw[cG,af]at hx⊢
        rcases hx with h1|h1
        · exact .inr (.inl h1)
        · rcases c _ h1 with h2|h2
          · exact .inl h2
          · exact .inr (.inr h2)
theorem DX{l:Lb}{kp:List Nat}:∀{nm:kA},(∀e∈nm,e.2.2≠[])->∀e∈qC nm l kp b,e.2.2≠[]
 |[],_,e,he=>by rw[qB]at he;rw[aL.1 he];simp
 |p::r,h,e,he=>by
  rw[lU]at he
  by_cases hp:p.1=l
  .rw[ζ hp]at he;rcases af.1 he with h1|h1
   .rw[h1];unfold tc;simp
   .exact h e (by simp[h1])
  .rw[η hp]at he;rcases af.1 he with h1|h1
   .rw[h1];exact h p (by simp)
   .exact DX (λx hx=>h x (by simp[hx])) e h1
theorem qJ.add{kp:List Nat}{o:Ob}(h:qJ s)(hk:ee kp)(b:Option Nat):qJ (j8 s kp o b):=by
 unfold j8;cases hb:ky o.l&&(bW (bm kp) s.th).isNone with
 |false=>exact h
 |true=>
  rw[δ];rw[aP,Option.isNone_iff_eq_none]at hb;have hn:=nk hb.2;unfold qi;refine⟨?_,(DY h.ld).1,λx hx=>?_,λe he k hk=>?_,λx hx=>?_,DX h.ne⟩
  .unfold names;rw[bZ,List.nodup_append];refine⟨h.nd,by simp,λa ha c hc=>?_⟩;have hc:c=bm kp:=by simpa using hc
   rintro rfl
   rw[hc]at ha;exact hn ha
  .rcases aR.1 hx with h1|h1
   .obtain⟨e,he,a1,k,hk,a2⟩:=h.up x h1;obtain⟨e',c1,c2,c3⟩:=DW (l:=o.l) (kp:=kp) (b:=b) he;exact⟨e',c1,c2.trans a1,k,c3 k hk,a2⟩
   .rw[aL.1 h1];obtain⟨e',c1,c2,c3⟩:=zV (l:=o.l) (kp:=kp) (b:=b) (nm:=s.nm);exact⟨e',c1,c2,kp,c3,rfl⟩
  .rcases DZ he hk with⟨rfl,h2⟩|⟨e',h1,h2,h3⟩
   .exact⟨(bm k,o),by simp,rfl,h2.symm⟩
   .obtain⟨x,hx,a1,a2⟩:=h.dn e' h1 k h3;exact⟨x,by simp[hx],a1,a2.trans h2⟩
  .rcases aR.1 hx with h1|h1
   .exact h.gd x h1
   .rw[aL.1 h1];exact⟨kp,rfl,hk⟩
theorem Md:qJ ⟨[],[]⟩:=⟨by simp[names],by simp,λp hp=>(by cases hp),λp hp=>(by cases hp),λp hp=>(by cases hp),λp hp=>by cases hp⟩
theorem jT.WB{ma:Int}{e:Fx}{t':Th}{s':b7}(ht:gN mx n t)(h:qJ s)(D:jT now mx q n t ma s b e t' s'):qJ s':=by
 obtain⟨p,hp⟩:=ht.pa;cases D with
 |go|log|out|scope=>exact h
 |set e g j nm o w k st on h1 _ _ hpl=>exact h.set h1 hpl
 |make o k _ _ hr=>exact h.add (hp.nF hr) b
 |fork l ro k d _ _ _ hr0 hr=>exact h.add (hp.nF (by omega)) b
theorem oO.WB{r:Rs}(ht:gN mx n t)(h:qJ s)(T:oO now mx q n t s b r):qJ r.s:=by
 cases T with
 |idle|core=>exact h
 |fin g k v ex _ _ _ _=>
  dsimp only;unfold t_;split
  .exact h
  .dsimp only;cases hl:bW t.id s.th with
   |none=>exact h
   |some p=>
    obtain⟨i,o⟩:=p;dsimp only;split
    .exact h.set hl rfl
    .exact h
 |M5 k ma e t' s' _ hk _ D=>exact jT.WB (t:={t with c:=k}) ⟨hk,ht.g,ht.pa,ht.sc,ht.sl,ht.v⟩ h D
theorem EO(ht:gN mx n t)(h:qJ s)(now:Int)(b:Option Nat):qJ (dA t s now b).2:=by
 unfold dA;cases hi:t.sc[jD now t.sc]? with
 |none=>exact h
 |some x=>exact h.add (ht.sc x (aJ hi)).Ul.g b
end
def Rt(c:Int):Option (Int×Int×Int):=(inf c).map λi=>(i.ar,bif c==17 then i.po+1 else i.po,i.pu)
def SC(c:Int):Bool:=c==15||(c==16||(c==18||(c==19||(c==20||(c==21||(c==24||c==31))))))
def Wb(ar a:Int):Bool:=
 bif ar==0 then a==0 else bif ar==1 then decide (0<=a)&&decide (a<16)else bif ar==2 then decide (0<=a)&&decide (a<8)else bif ar==4 then decide (0<=a)&&decide (a<3)else bif ar==5 then decide (0<=a)&&decide (a<=63)else false
inductive NF:Int->List Op->Int->Prop
  |nil (h:Int):NF h [] h
  |cons {c a ar t p h h':Int} {r:List Op} (hk:Rt c=some (ar,t,p)) (hc:SC c=false) (ha:Wb ar a=true) (h1:t<=h) (h2:h-t+p<=8) (hr:NF (h-t+p) r h'):NF h (⟨c,a⟩::r) h'
def u_(d:List Op):Prop:=(NF 0 d 0/\d≠[]/\(d.getLast?.map (·.c))≠some 19/\d.length<=8)\/∃n:Int,0<=n/\n<8/\d=[⟨1,n⟩,⟨19,0⟩]
def wu(l:List Int)(a:Int)(c:List Op):H:=[.cells [.d (.sl 1 (d_ l)),.d (.int .i64 a),.os 1],.rows 2 (c.map dO)]
def pE(l:List Int):Prop:=∀x∈l,0<=x/\x<=255
theorem Ah{K:KT}(l:List Int)(a:Int)(c:List Op)(hl:pE l)(ha:0<=a/\a<1000000)(hk:∀n,0<=n/\n<=255->K (.ret (.d (.int .i64 n))) (wu l (a+1) c)):Z1 82 [.p 0 0] (wu l a c) K:=by
 have hrl:=ic l;refine sh0 Tryz.f82 ?_
 repeat' ((conv=>whnf);first|exact zf|refine zm ?_|refine zi0 ?_|intro _)
 refine aW (λhgt=>?_) (λhle=>?_)
 .skip
  repeat' ((conv=>whnf);first|exact zf|refine zm ?_|intro _)
  exact hk 0 ⟨by omega,by omega⟩
 .have hle:a+1<=l.length:=by have:=ι hle;omega
  obtain⟨x,hx⟩:∃x,l[a.toNat]?=some x:=⟨_,aA (by omega)⟩
  have hb:=hl x (aJ hx)
  repeat' ((conv=>whnf);first|exact zf|refine zm ?_|refine zi0 ?_|intro _)
  refine⟨[D.int .u8 x],⟨by omega,by rw[show a+1-1=a by omega];simp[d_,hx],rfl⟩,?_⟩
  repeat' ((conv=>whnf);first|exact zf|refine zm ?_|refine zi0 ?_|intro _)
  exact hk x hb
theorem jS{K:KT}(l:List Int)(a:Int)(c:List Op)(x y:Int)(hc:c.length<=1000000)(hk:K (.ret (.tu [])) (wu l a (c++[⟨x,y⟩]))):Z1 81 [.p 0 0,.d (.int .i64 x),.d (.int .i64 y)] (wu l a c) K:=by
 have jb:(c.map dO).length=c.length:=by simp
 have he:(c++[(⟨x,y⟩:Op)]).map dO=c.map dO++[[.int .i64 x,.int .i64 y]]:=by simp[dO]
 unfold wu at hk;rw[he]at hk;refine sh0 Tryz.f81 ?_
 exact zh0 hk
theorem NN{n:Int}(h:0<=n/\n<=255)(k:Int)(hk:0<k):0<=n.tmod k/\n.tmod k<k:=by
 rw[aw h.1];exact⟨Int.emod_nonneg _ (by omega),Int.emod_lt_of_pos _ hk⟩
theorem EF{K:KT}(l:List Int)(a:Int)(c:List Op)(hl:pE l)(ha:0<=a/\a<1000000)(hc:c.length<=1000000)(hk:∀n,0<=n/\n<8->K (.ret (.tu [])) (wu l (a+1) (c++[⟨1,n⟩]))):Z1 192 [.p 0 0] (wu l a c) K:=by
 refine sh0 Tryz.f192 ?_
 repeat' ((conv=>whnf);first|exact zf|refine zm ?_|refine zr0 ?_|refine(Ah l _ _ hl ha (λn hn=>?_))|refine(jS l _ _ _ _ hc ?_)|intro _)
 exact hk _ (NN ‹_› 8 (by decide))
theorem Lk{K:KT}(l:List Int)(a:Int)(c:List Op)(hl:pE l)(ha:0<=a/\a<1000000)(hc:c.length<=1000000)(hk:∀n,8<=n/\n<16->K (.ret (.tu [])) (wu l (a+1) (c++[⟨1,n⟩]))):Z1 193 [.p 0 0] (wu l a c) K:=by
 refine sh0 Tryz.f193 ?_
 repeat' ((conv=>whnf);first|exact zf|refine zm ?_|refine zr0 ?_|refine(Ah l _ _ hl ha (λn hn=>?_))|refine(jS l _ _ _ _ hc ?_)|refine(.inl ⟨by have:=NN ‹_› 8 (by decide);unfold eK;omega,?_⟩)|intro _)
 exact hk _ (by have:=NN hn 8 (by decide);omega)
theorem C8{K:KT}(l:List Int)(a:Int)(c:List Op)(x:Int)(hc:c.length<=1000000)(hk:K (.ret (.tu [])) (wu l a (c++[⟨2,x⟩]))):Z1 126 [.p 0 0,.d (.int .i64 x)] (wu l a c) K:=by
 refine sh0 Tryz.f126 ?_
 repeat' ((conv=>whnf);first|exact zf|refine zm ?_|refine zr0 ?_|refine(jS l _ _ _ _ hc ?_)|intro _)
 exact hk
theorem lv{K:KT}(l:List Int)(a:Int)(c:List Op)(hl:pE l)(ha:0<=a/\a<1000000)
  (hk:∀n,0<=n/\n<=255/\0<=n.tmod 8/\n.tmod 8<8/\0<=n.tmod 7/\n.tmod 7<7/\0<=n.tmod 2/\n.tmod 2<2/\0<=n.tmod 4/\n.tmod 4<4/\0<=n.tmod 32/\n.tmod 32<32->K (.ret (.d (.int .i64 n))) (wu l (a+1) c)):Z1 82 [.p 0 0] (wu l a c) K:=by
 refine Ah l a c hl ha λn hn=>hk n ?_;have h8:=NN hn 8 (by decide);have h7:=NN hn 7 (by decide);have h2:=NN hn 2 (by decide);have h4:=NN hn 4 (by decide);have h32:=NN hn 32 (by decide);exact⟨hn.1,hn.2,h8.1,h8.2,h7.1,h7.2,h2.1,h2.2,h4.1,h4.2,h32.1,h32.2⟩
theorem Sq{x0 x1 x2 x3 i:Int}{Q:Prop}(hi:0<=i/\i<4)(h0:0<=x0/\x0<8)(h1:0<=x1/\x1<8)(h2:0<=x2/\x2<8)(h3:0<=x3/\x3<8)
  (hQ:∀x,0<=x/\x<8->[[D.int .i64 x0],[D.int .i64 x1],[D.int .i64 x2],[D.int .i64 x3]][i.toNat]?=some [D.int .i64 x]->Q):Q:=by
 have h:i=0\/i=1\/i=2\/i=3:=by omega
 rcases h with rfl|rfl|rfl|rfl
 .exact hQ x0 h0 rfl
 .exact hQ x1 h1 rfl
 .exact hQ x2 h2 rfl
 .exact hQ x3 h3 rfl
theorem Sp{x0 x1 x2 x3 i:Int}{K:List D->Prop}(hi:0<=i/\i<4)(h0:0<=x0/\x0<8)(h1:0<=x1/\x1<8)(h2:0<=x2/\x2<8)(h3:0<=x3/\x3<8)
  (hQ:∀x,0<=x/\x<8->K [D.int .i64 x]):∃row,(0<=i/\[[D.int .i64 x0],[D.int .i64 x1],[D.int .i64 x2],[D.int .i64 x3]][i.toNat]?=some row/\Nat.beq 1 1=true)/\K row:=
 Sq hi h0 h1 h2 h3 λx hx hr=>⟨_,⟨hi.1,hr,rfl⟩,hQ x hx⟩
theorem LV{c:Int}(h:7<=c/\c<=13):Rt c=some (0,2,1)/\SC c=false:=by
 have:c=7\/c=8\/c=9\/c=10\/c=11\/c=12\/c=13:=by omega
 rcases this with rfl|rfl|rfl|rfl|rfl|rfl|rfl<;>exact⟨rfl,rfl⟩
theorem QH{c:Int}(h:22<=c/\c<=23):Rt c=some (0,2,1)/\SC c=false:=by
 have:c=22\/c=23:=by omega
 rcases this with rfl|rfl<;>exact⟨rfl,rfl⟩
theorem QJ{c:Int}(h:25<=c/\c<=26):Rt c=some (0,0,1)/\SC c=false:=by
 have:c=25\/c=26:=by omega
 rcases this with rfl|rfl<;>exact⟨rfl,rfl⟩
theorem QI{c:Int}(h:42<=c/\c<=43):Rt c=some (0,1,0)/\SC c=false:=by
 have:c=42\/c=43:=by omega
 rcases this with rfl|rfl<;>exact⟨rfl,rfl⟩
theorem NF.via{c a ar t p h h':Int}{r:List Op}(hk:Rt c=some (ar,t,p)/\SC c=false)(ha:Wb ar a=true)(h1:t<=h)(h2:h-t+p<=8)(hr:NF (h-t+p) r h'):NF h (⟨c,a⟩::r) h':=.cons hk.1 hk.2 ha h1 h2 hr
theorem int32{k:Int}(h:0<=k/\k<32):k=0\/k=1\/k=2\/k=3\/k=4\/k=5\/k=6\/k=7\/k=8\/k=9\/k=10\/k=11\/k=12\/k=13\/k=14\/k=15\/k=16\/k=17\/k=18\/k=19\/k=20\/k=21\/k=22\/k=23\/k=24\/k=25\/k=26\/k=27\/k=28\/k=29\/k=30\/k=31:=by omega
theorem B4{K:KT}(l:List Int)(a:Int)(c:List Op)(ab:Int)(hl:pE l)(ha:0<=a/\a<100000)(hc:c.length<=100000)(hab:0<=ab/\ab<3)
    (hk:∀a' c',(∃d,u_ d/\c'=c++d)->a<=a'/\a'<=a+8->K (.ret (.tu [])) (wu l a' c')):Z1 125 [.p 0 0,.d (.int .i64 ab)] (wu l a c) K:=by
  refine sh0 Tryz.f125 ?_
  repeat' ((conv=>whnf);first|exact zf|refine zm ?_|refine zr0 ?_|refine(lv l _ _ hl ⟨by omega,by omega⟩ (λn hn=>?_))|intro _)
  rename_i n1 hn1
  conv=>whnf
  have h:=int32 (k:=n.tmod 32) ⟨by omega,by omega⟩
  generalize n.tmod 32=k at h⊢
  replace hn1:0<=n1.tmod 8/\n1.tmod 8<8:=by omega
  clear hn
  rcases h with rfl|rfl|rfl|rfl|rfl|rfl|rfl|rfl|rfl|rfl|rfl|rfl|rfl|rfl|rfl|rfl|rfl|rfl|rfl|rfl|rfl|rfl|rfl|rfl|rfl|rfl|rfl|rfl|rfl|rfl|rfl|rfl
  all_goals
    repeat' ((conv=>whnf);first|exact zf|refine zm ?_|refine zr0 ?_|refine(lv l _ _ hl ⟨by omega,by omega⟩ (λn hn=>?_))|refine(jS l _ _ _ _ (by(try simp only[aK,aX,ah]);omega) ?_)|refine(EF l _ _ hl ⟨by omega,by omega⟩ (by(try simp only[aK,aX,ah]);omega) (λn hn=>?_))|refine(Lk l _ _ hl ⟨by omega,by omega⟩ (by(try simp only[aK,aX,ah]);omega) (λn hn=>?_))|refine(C8 l _ _ _ (by(try simp only[aK,aX,ah]);omega) ?_)|refine zi0 ?_|refine(Sp (by omega) (by omega) (by omega) (by omega) (by omega) (λx hx=>?_))|refine aW (λhb=>?_) (λhb=>?_)|intro _)
  all_goals conv=>whnf
  all_goals first
    | (refine hk _ _ ⟨_, ?_, by first | (simp only [bN]; rfl) | rfl⟩ ⟨by omega, by omega⟩
       refine .inl ⟨?_,by simp,by first|(simp;done)|(simp;omega),by simp⟩
       repeat (first|exact .nil _|refine .cons rfl rfl (by first|rfl|(simp[Wb];omega)) (by decide) (by decide) ?_|refine .via (LV (by omega)) rfl (by decide) (by decide) ?_|refine .via (QH (by omega)) rfl (by decide) (by decide) ?_|refine .via (QJ (by omega)) rfl (by decide) (by decide) ?_|refine .via (QI (by omega)) rfl (by decide) (by decide) ?_))
    |(refine hk _ _ ⟨[⟨1,_⟩,⟨19,0⟩],.inr ⟨_,?_,?_,rfl⟩,bN c [⟨1,_⟩] [⟨19,0⟩]⟩ ⟨by omega,by omega⟩<;>omega)
    |fail
def Part(b:Int)(p:List Op):Prop:=
 ∃d,u_ d/\(p=d\/p=[⟨2,1⟩,⟨16,b+2+d.length⟩]++d \/
  (d.getLast?.map (·.c)=some 19/\p=[⟨20,b+1+d.length⟩]++d++[⟨3,1⟩]) \/
  (d.getLast?.map (·.c)≠some 19/\p=[⟨20,b+3+d.length⟩]++d++[⟨21,0⟩,⟨15,b+4+d.length⟩,⟨3,1⟩]))
theorem u_.ne{d:List Op}(h:u_ d):d≠[]:=by
 rcases h with h|⟨n,_,_,rfl⟩
 .exact h.2.1
 .simp
theorem u_.len{d:List Op}(h:u_ d):0<d.length/\d.length<=8:=by
 refine⟨iv.2 h.ne,?_⟩;rcases h with h|⟨n,_,_,rfl⟩
 .exact h.2.2.2
 .simp
theorem Cp{K:KT}(l:List Int)(a:Int)(c:List Op)(x y:Int){rows:List (List D)}(hr:rows=c.map dO)(hc:c.length<=1000000)(hk:K (.ret (.tu [])) (wu l a (c++[⟨x,y⟩]))):Z1 81 [.p 0 0,.d (.int .i64 x),.d (.int .i64 y)] [.cells [.d (.sl 1 (d_ l)),.d (.int .i64 a),.os 1],.rows 2 rows] K:=by
 subst hr;exact jS l a c x y hc hk
theorem u_.last{d:List Op}(h:u_ d):∃o,d.getLast?=some o/\∀c:List Op,((c++d).map dO)[(((c++d).map dO).length-1:Int).toNat]?=some (dO o):=by
 have hl:=h.len;refine⟨d.getLast h.ne,List.getLast?_eq_some_getLast h.ne,λc=>?_⟩;have e:((((c++d).map dO).length:Int)-1).toNat=(c++d).length-1:=by simp only[aH];omega
 rw[e,aB,aY (by rw[aK];omega),aK,show c.length+d.length-1-c.length=d.length-1 by omega,List.getLast_eq_getElem,aA (by omega)];rfl
theorem xG(c d:List Op)(x:Op):((c++([x]++d)).map dO)[c.length]?=some (dO x):=by simp
theorem wL(c d:List Op)(x y:Op):((c++([x]++d)).map dO).set c.length (dO y)=(c++([y]++d)).map dO:=by
 rw[bZ,bZ,List.set_append_right _ _ (by simp)];simp
theorem mq{K:KT}(l:List Int)(a:Int)(c:List Op)(ab:Int)(hl:pE l)(ha:0<=a/\a<10000)(hc:c.length<=10000)(hab:0<=ab/\ab<3)
    (hk:∀a' c',(∃p,Part c.length p/\c'=c++p)->a<=a'/\a'<=a+20->K (.ret (.tu [])) (wu l a' c')):Z1 80 [.p 0 0,.d (.int .i64 ab)] (wu l a c) K:=by
  have jb:(c.map dO).length=c.length:=by simp
  refine sh0 Tryz.f80 ?_
  repeat' ((conv=>whnf);first|exact zf|refine zm ?_|refine zr0 ?_|refine(lv l _ _ hl ⟨by omega,by omega⟩ (λn hn=>?_))|intro _)
  refine aW (λhb=>?_) (λhb=>?_)
  · skip
    repeat' ((conv=>whnf);first|exact zf|refine zm ?_|refine zr0 ?_|refine(jS l _ _ _ _ (by(try simp only[aK,aX,ah]);omega) ?_)|refine(B4 l _ _ _ hl ⟨by omega,by omega⟩ (by(try simp only[aK,aX,ah]);omega) hab (λa' c' hd ha'=>?_))|intro _)
    obtain⟨d,hd,rfl⟩:=hd
    obtain⟨hd1,hd2⟩:=hd.len
    obtain⟨o,ho,hrow⟩:=hd.last
    have hrow:=hrow (c++[(⟨20,0⟩:Op)])
    have hlen:((c++[(⟨20,0⟩:Op)]++d).map dO).length=c.length+1+d.length:=by simp only[aH,aK,aX,ah]
    have hX:(((c++[(⟨20,0⟩:Op)]++d).map dO).length:Int)=c.length+1+d.length:=by rw[hlen];omega
    have hci:((((c.map dO).length:Nat):Int)).toNat=c.length:=by rw[Int.toNat_natCast,jb]
    cases h19:(o.c==19) with
    |true=>
      have hth:d.getLast?.map (·.c)=some 19:=by rw[ho];simpa using h19
      repeat' ((conv=>whnf);first|exact zf|refine zm ?_|refine zi0 ?_|intro _)
      refine⟨dO o,hrow,?_⟩
      repeat' ((conv=>whnf);first|exact zf|refine zm ?_|refine(gM h19 ?_)|intro _)
      conv=>whnf
      refine⟨dO (⟨20,0⟩:Op),by rw[hci,bN];exact xG c d _,⟨rfl,rfl,rfl⟩,?_⟩
      have hs:((c++[(⟨20,0⟩:Op)]++d).map dO).set (((c.map dO).length:Nat):Int).toNat (dO (⟨20,(((c++[(⟨20,0⟩:Op)]++d).map dO).length:Int)⟩:Op))=(c++([(⟨20,(c.length:Int)+1+d.length⟩:Op)]++d)).map dO:=by
        rw[hci,hX,bN]
        exact wL c d _ _
      repeat' ((conv=>whnf);first|exact zf|refine zm ?_|refine zr0 ?_|refine(Cp l _ _ _ _ hs (by(try simp only[aK,aX,ah]);omega) ?_)|intro _)
      conv=>whnf
      exact hk _ _ ⟨_,⟨d,hd,.inr (.inr (.inl ⟨hth,rfl⟩))⟩,by simp only[bN]⟩ ⟨by omega,by omega⟩
    |false=>
      have hth:d.getLast?.map (·.c)≠some 19:=by rw[ho];simpa using h19
      have hlen2:((c++[(⟨20,0⟩:Op)]++d++[(⟨21,0⟩:Op)]).map dO).length=c.length+2+d.length:=by simp only[aH,aK,aX,ah];omega
      have hX2:(((c++[(⟨20,0⟩:Op)]++d++[(⟨21,0⟩:Op)]).map dO).length:Int)+2=c.length+4+d.length:=by rw[hlen2];omega
      repeat' ((conv=>whnf);first|exact zf|refine zm ?_|refine zi0 ?_|intro _)
      refine⟨dO o,hrow,?_⟩
      repeat' ((conv=>whnf);first|exact zf|refine zm ?_|refine(gG h19 ?_)|refine zr0 ?_|refine(jS l _ _ _ _ (by(try simp only[aK,aX,ah]);omega) ?_)|refine zi0 ?_|intro _)
      conv=>whnf
      have hs:((c++[(⟨20,0⟩:Op)]++d++[(⟨21,0⟩:Op)]++[(⟨15,(((c++[(⟨20,0⟩:Op)]++d++[(⟨21,0⟩:Op)]).map dO).length:Int)+2⟩:Op)]).map dO).set (((c.map dO).length:Nat):Int).toNat (dO (⟨20,(((c++[(⟨20,0⟩:Op)]++d++[(⟨21,0⟩:Op)]++[(⟨15,(((c++[(⟨20,0⟩:Op)]++d++[(⟨21,0⟩:Op)]).map dO).length:Int)+2⟩:Op)]).map dO).length:Int)⟩:Op))=(c++([(⟨20,(c.length:Int)+3+d.length⟩:Op)]++(d++([(⟨21,0⟩:Op)]++[(⟨15,(c.length:Int)+4+d.length⟩:Op)])))).map dO:=by
        rw[hci,hX2]
        have e:(((c++[(⟨20,0⟩:Op)]++d++[(⟨21,0⟩:Op)]++[(⟨15,(c.length:Int)+4+d.length⟩:Op)]).map dO).length:Int)=c.length+3+d.length:=by simp only[aH,aK,aX,ah];omega
        rw[e]
        simp only[bN]
        exact wL c _ _ _
      refine⟨dO (⟨20,0⟩:Op),by rw[hci];simp only[bN];exact xG c _ _,⟨rfl,rfl,rfl⟩,?_⟩
      repeat' ((conv=>whnf);first|exact zf|refine zm ?_|refine zr0 ?_|refine(Cp l _ _ _ _ hs (by(try simp only[aK,aX,ah]);omega) ?_)|intro _)
      conv=>whnf
      exact hk _ _ ⟨_,⟨d,hd,.inr (.inr (.inr ⟨hth,rfl⟩))⟩,by simp only[bN,List.cons_append,List.nil_append]⟩ ⟨by omega,by omega⟩
  · refine aW (λhb2=>?_) (λhb2=>?_)
    · skip
      repeat' ((conv=>whnf);first|exact zf|refine zm ?_|refine zr0 ?_|refine(C8 l _ _ _ (by(try simp only[aK,aX,ah]);omega) ?_)|refine(jS l _ _ _ _ (by(try simp only[aK,aX,ah]);omega) ?_)|refine(B4 l _ _ _ hl ⟨by omega,by omega⟩ (by(try simp only[aK,aX,ah]);omega) hab (λa' c' hd ha'=>?_))|intro _)
      obtain⟨d,hd,rfl⟩:=hd
      obtain⟨hd1,hd2⟩:=hd.len
      have hlen:((c++[(⟨2,1⟩:Op)]++[(⟨16,0⟩:Op)]++d).map dO).length=c.length+2+d.length:=by simp only[aH,aK,aX,ah]
      have hX:(((c++[(⟨2,1⟩:Op)]++[(⟨16,0⟩:Op)]++d).map dO).length:Int)=c.length+2+d.length:=by rw[hlen];omega
      have hci:((((c.map dO).length:Nat):Int)+1).toNat=(c++[(⟨2,1⟩:Op)]).length:=by rw[jb,aK];simp only[aX,ah];omega
      have hs:((c++[(⟨2,1⟩:Op)]++[(⟨16,0⟩:Op)]++d).map dO).set ((((c.map dO).length:Nat):Int)+1).toNat (dO (⟨16,(((c++[(⟨2,1⟩:Op)]++[(⟨16,0⟩:Op)]++d).map dO).length:Int)⟩:Op))=(c++(([⟨2,1⟩,⟨16,(c.length:Int)+2+d.length⟩]:List Op)++d)).map dO:=by
        rw[hci,hX,bN (c++[(⟨2,1⟩:Op)])]
        rw[wL (c++[(⟨2,1⟩:Op)]) d _ _,bN]
        rfl
      repeat' ((conv=>whnf);first|exact zf|refine zm ?_|refine zi0 ?_|intro _)
      conv=>whnf
      refine⟨dO (⟨16,0⟩:Op),by rw[hci,bN (c++[(⟨2,1⟩:Op)])];exact xG (c++[(⟨2,1⟩:Op)]) d _,⟨rfl,rfl,rfl⟩,?_⟩
      repeat' ((conv=>whnf);first|exact zf|refine zm ?_|intro _)
      conv=>whnf
      have h2:=hk a' (c++(([⟨2,1⟩,⟨16,(c.length:Int)+2+d.length⟩]:List Op)++d)) ⟨_,⟨d,hd,.inr (.inl rfl)⟩,rfl⟩ ⟨by omega,by omega⟩
      unfold wu at h2
      rw[<-hs]at h2
      exact h2
    · skip
      repeat' ((conv=>whnf);first|exact zf|refine zm ?_|refine zr0 ?_|refine(B4 l _ _ _ hl ⟨by omega,by omega⟩ (by(try simp only[aK,aX,ah]);omega) hab (λa' c' hd ha'=>?_))|intro _)
      conv=>whnf
      obtain⟨d,hd,rfl⟩:=hd
      exact hk _ _ ⟨d,⟨d,hd,.inl rfl⟩,rfl⟩ ⟨by omega,by omega⟩
end Go.Proofs.YtjpgfgajkjhonaaGreatDoor