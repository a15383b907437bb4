/- Lemmas. Conditions: none. -/
import Derived.Test.YtmigecldjbgneaaGreatDoorQKAL
import Derived.Test.YtmigecldjbgneaaGreatDoorQKAM
namespace Go.Vx
section
variable{P:Program}{E:gG}{n:Nat}{G:Nat->Prop}{ρ:List Value}{t:T}{h:H}{a:Act}{w:World}(ow:Nat->Bool)
theorem KR(bs:List (List Nat)):cutAt bs<=bs.length:=by
 unfold cutAt;cases hf:(List.range bs.length).find? λm=>lg m (bs.drop m) with
 |none=>grind
 |some m=>
  grind
theorem Ru:∀(t:T)(s:Nat),gs t s=.un\/∃p∈t,p.2=gs t s:=by
 intro t
 induction t with
 |nil=>intro s;exact .inl rfl
 |cons p t ih=>
  intro s;rw[gD]
  grind
theorem Qq{E:gG}{n:Nat}{K:Ex->T->H->Prop}{e:Exit}{a:Act}{w:World}(h:QK E n (Ww K) e a w):QK E n K e a w:=by
 obtain⟨G,ρ,t,h,hC,hk⟩:=h;refine⟨G,ρ,t,h,hC,?_⟩;cases e with
 |panic ch=>obtain⟨_,_,_,_,hk⟩:=hk;exact hk.elim
 |_=>exact hk
theorem By:∀(l:List (Option Nat))(K:List (Option Nat)->Prop),XM l K=K l
 |[],_=>rfl
 |none::r,K=>By r λr=>K (none::r)
 |some n::r,K=>(cP n λn=>XM r λr=>K (some n::r)).trans (By r λr=>K (some n::r))
theorem an.places:∀(l:H){ρ:List Value}{h:H},an E n G ρ t h a w->(∀x∈l,x=.nw)->∃ρ',an E n G ρ' t (h++l) a w
 |[],ρ,h,hC,_=>⟨ρ,by rw[eI];exact hC⟩
 |x::l,ρ,h,hC,hl=>by
  have hx:x=.nw:=hl x aw;subst hx;obtain⟨ρ',h1⟩:=an.places l (hC.push (ga.refl w) undef .nw nofun rfl) λx hx=>hl x (bU _ hx);exact⟨ρ',by rw[bI]at h1;exact h1⟩
theorem Qe{r:Option Nat}{N:Nat}(hm:P.follows .mixedOrders=true)(hE:E.ρ.length=E.h.length){id:Nat}{ops:Array Oper}{x:C}(hx:comp P n (.region id ops true)=some x){K:Ex->T->H->Prop}(hC:an E n G ρ t h a w)
  (hk:∀n0,wx (Sat P) ow n0 x t h K):(Code.region id ops true).wpIn (Fw r) N P (QK E n K) a w:=by
 simp only[comp]at hx;cases hnd:ops.toList.all BV with
 |false=>
  rw[hnd]at hx;cases hx;exact(hk 0).elim
 |true=>
 rw[hnd,qC,ε]at hx;simp only[aK,aE]at hx;obtain⟨is,his,hx⟩:=hx;split at hx
 .rename_i hchk;cases hx;have hk:=hk 0;simp only[QD]at hk;generalize hbs:Fk (ops.toList.map AI)=bs at *;generalize hmm:cutAt bs=m at *;simp only[aO]at hchk;obtain⟨⟨⟨c1,c3⟩,c4⟩,c5⟩:=hchk;obtain⟨il,ig⟩:=ny his;obtain⟨bl,bg⟩:=Nj (ops.toList.map AI);rw[hbs]at bl bg;have hbl:bs.length=ops.size:=by grind
  have hil:is.length=ops.size:=by grind
  have hml:m<=ops.size:=by rw[<-hmm,<-hbl];exact KR bs
  have hql:((is.zip bs).take m).length=m:=by grind
  rw[hql]at hk;have D:Pz P n ops is bs m:=by
   refine⟨hil,hbl,hml,λj o ho=>?_,λj o ho=>?_,λj b hb k hk=>?_,λj b hj hb i hi=>?_⟩
   .have hjl:j<is.length:=by grind
    exact⟨is[j],aA hjl,ig j o _ (by grind) (aA hjl)⟩
   simp_all
   .have:=RP bs 0 c1 j b hb k hk;omega
   .exact NA _ m c3 (j-m) b (by grind) i (by omega)
  have nol:∀j,¬(Array.replicate ops.size false).getD j false=true:=λj hj=>by
   have:=Mz hj;simp_all
  have cnt:(Array.replicate ops.size false).toList.count false<=ops.size:=by
   grind
  rcases KU hk with hk|hk
  .obtain⟨os,hk⟩:=zw hk;obtain⟨G,t,h,vs,hC,_,_,hk⟩:=sr os.1 G t h [] (λ_=>undef) hC (by simp) hk;have hC:=λk=>hC.grow (ga.draw w k) (λ_ h=>h) (λ_ h=>.inl h);refine lD Cr (sd hnd) hm ?_;unfold T2 at hk;cases hany:((is.zip bs).take m).any λi=>Sq i.1.o||XG i.1.o<;>rw[hany]at hk
   .exact H6 ow D rfl c5 hk _ _ _ _ (by simp) cnt nol (hC _)
   .simp only[δ,bn,By,fH]at hk;obtain⟨ρ',hC'⟩:=(hC _).places ((((is.zip bs).take m).filter λi=>Sq i.1.o).map λ_=>.nw) λx hx=>(bQ.1 hx).elim λ_ h=>h.2.symm;exact T1 ow D rfl c5 hE (hC ops.size).ok.hl hk _ _ _ _ (by simp) cnt nol hC'
  rcases KU hk with hk|hk
  .exact lD Cr (sd hnd) hm (S7 ow D rfl _ _ _ _ (by simp) cnt (λj _ hj=>absurd hj (nol j)) ⟨[],m,G,ρ,t,h,List.nodup_nil,by simp,λj=>⟨λhj=>absurd hj (nol j),λhj=>by grind⟩,λj hj=>by grind,hC.grow (ga.draw w _) (λ_ h=>h) (λ_ h=>.inl h),hk⟩)
  .obtain⟨os,hk⟩:=zw hk;obtain⟨G,t,h,vs,hC,_,_,hk⟩:=sr os.1 G t h [] (λ_=>undef) hC (by simp) hk;exact wpIn_mono (lD Cr (sd hnd) hm (Nn ow D c4 (λ_ _ _ h=>h) rfl _ _ _ _ (by simp) cnt ⟨λj b hj=>absurd hj (nol j),.inl ⟨[],m,G,ρ,t,h,List.nodup_nil,by simp,λj=>⟨λhj=>absurd hj (nol j),λhj=>by grind⟩,λj hj=>by grind,hC.grow (ga.draw w _) (λ_ h=>h) (λ_ h=>.inl h),hk⟩⟩)) λe a w hq=>Qq hq
 .cases hx;exact(hk 0).elim
theorem tG(v:V):GN v v:=by
 cases v<;>rfl
theorem GM{x y:V}(h:GN x y):x=y\/∃z,x=.nl z/\y=.d (.sl z []):=by
 unfold GN at h
 grind
theorem dO.wk{v:Value}{x y:V}(hv:dO G w ρ v x)(h:GN x y):dO G w ρ v y:=by
 rcases GM h with rfl|⟨z,rfl,rfl⟩
 grind
 .cases hv with
  |k h=>cases h with
   |nl=>exact .k (.d (.yv z))
theorem az.wk{v:Value}{x y:V}(hv:az G w ρ v x)(h:GN x y):az G w ρ v y:=by
 rcases GM h with rfl|⟨z,rfl,rfl⟩
 grind
 .cases hv with
  |o h=>cases h with
   |c h=>exact .o (.c (h.wk (by rfl)))
theorem C2:∀{a b:List V},Vj a b->a.length=b.length/\∀(i:Nat)(y:V),b[i]?=some y->∃x,a[i]?=some x/\GN x y
 |[],[],_=>⟨rfl,by simp⟩
 |_::_,[],h=>h.elim
 |[],_::_,h=>h.elim
 |a::r,b::s,h=>by
  obtain⟨h1,h2⟩:=h;obtain⟨g1,g2⟩:=C2 h2
  grind
theorem GO{x y:B}(h:LO x y):x=y\/∃a b,x=.cells a/\y=.cells b/\Vj a b:=by
 unfold LO at h
 grind
theorem Ad{x y:B}(h:LO x y):gh x=gh y:=by
 cases x<;>cases y<;>first|rfl|(cases h;done)|(cases h;rfl)
theorem Ac{x y:B}(h:LO x y)(hy:y≠.no):x≠.no:=by
 rcases GO h with rfl|⟨a,b,rfl,rfl,_⟩
 grind
 simp
theorem cQ.wk{hd:Value}{x y:B}(hv:cQ G w ρ hd x)(h:LO x y):cQ G w ρ hd y:=by
 rcases GO h with rfl|⟨a,b,rfl,rfl,hl⟩
 grind
 .obtain⟨bb,arr,ty,h1,h2,h3,h4⟩:=hv;obtain⟨g1,g2⟩:=C2 hl;refine⟨bb,arr,ty,h1,h2,h3.trans g1,λi y hy=>?_⟩;obtain⟨x,hx,hw⟩:=g2 i y hy;exact(h4 i x hx).wk hw
theorem Rr:∀{t s:T},lR t s->∀i,gs s i=.un\/(GN (gs t i) (gs s i)/\∃p∈s,p.2=gs s i):=by
 intro t s
 induction s with
 |nil=>intro _ i;exact .inl rfl
 |cons p s ih=>
  intro hs i;obtain⟨j,v⟩:=p;simp only[lR]at hs;simp only[gD]
  by_cases e:j=i
  simp_all
  .rw[fw e]
   grind
theorem Gf:∀{h s:H},kX h s->s.length<=h.length/\∀(i:Nat)(x:B),s[i]?=some x->x=.no\/∃y,h[i]?=some y/\LO y x:=by
 intro h
 induction h with
 |nil=>
  intro s hs;cases s with
  |nil=>simp
  |cons=>exact hs.elim
 |cons b h ih=>
  intro s hs;cases s with
  |nil=>simp
  |cons c s=>
   have hc:kX h s/\(c=.no\/LO b c):=by
    cases c with
    |no=>cases b<;>first|exact⟨hs,.inl rfl⟩|exact hs.elim
    |_=>cases b<;>exact⟨hs.2,.inr hs.1⟩
   grind
theorem Ce:∀{h s:H},kX h s->∀{i z:Nat}{rs:List (List D)},h[i]?=some (.lk z rs)->i<s.length->s[i]?=some (.lk z rs)
 |[],_,_,_,_,_,e,_=>by cases e
 |_::_,[],_,_,_,_,_,h=>absurd h (Nat.not_lt_zero _)
 |b::h,c::s,hs,i,z,rs,e,hl=>by
  have hc:kX h s/\(b=.lk z rs->c=.lk z rs):=by
   cases c with
   |no=>cases b<;>first|exact⟨hs,nofun⟩|exact hs.elim
   |_=>cases b<;>refine⟨hs.2,λe'=>?_⟩<;>cases e'<;>exact(show B.lk z rs=_ from hs.1).symm
  cases i with
  |zero=>exact κ some (hc.2 (af e))
  |succ i=>exact Ce hc.1 e (Nat.lt_of_succ_lt_succ hl)
theorem an.P7(hC:an E n G ρ t h a w)(hE:E.ρ.length=E.h.length){s1:T}{s2:H}(ht:∀i,gs s1 i=.un\/(GN (gs t i) (gs s1 i)/\∃p∈s1,p.2=gs s1 i))(hh:kX h s2)(hl:zV E.h.length s1 s2=true):∃ρ',ρ'=ρ.take s2.length/\an E n G ρ' s1 s2 a w:=by
 obtain⟨h1,h2⟩:=Gf hh;simp only[zV,aO,aP]at hl;obtain⟨⟨l1,l2⟩,l3⟩:=hl;have l1:=bN l1;have hr:=hC.ok.hr;have hρl:=hr.len;have hg:∀(i:Nat)(v:Value),(ρ.take s2.length)[i]?=some v->ρ[i]?=some v:=λi v hi=>by
  grind
 have hg':∀i,i<s2.length->(ρ.take s2.length)[i]?=ρ[i]?:=λi hi=>by grind
 have ho:∀b,own (ρ.take s2.length) s2 b->own ρ h b:=by
  rintro b ⟨i,v,x,g1,g2,g3,g4⟩
  obtain⟨y,y1,y2⟩:=(h2 i x g2).resolve_left g3;rw[fF,<-Ad y2]at g4;exact⟨i,v,y,hg i v g1,y1,Ac y2 g3,g4⟩
 refine⟨ρ.take s2.length,rfl,⟨⟨by grind,λi v x g1 g2=>?_,λi i' v v' x x' b g1 g2 g3 g4 g5 g6 g7 g8=>?_,hr.gl,λb hb hob=>hr.gd b hb (ho b hob),hr.vR⟩,hC.ok.gm,hC.ok.go,λb hb=>hC.ok.oo b (ho b hb),hC.ok.frame,hC.ok.size,hC.ok.os,hC.ok.tape,
  hC.ok.out,λi v g1 g2=>?_,l1,λr hr=>let⟨e1,e2,e3⟩:=hC.ok.uB r hr;⟨e1,e2,λe4=>e3 (ho r e4)⟩,λi z rs hi=>?_⟩,hC.df,hC.sz,λi=>?_⟩
 .rcases h2 i x g2 with rfl|⟨y,h3,h4⟩
  .trivial
  .exact((hr.rep i v y (hg i v g1) h3).wk h4).mono (λ_ h=>h) (λ_ _=>rfl) (λ_ _=>rfl) (λj hj=>hg' j ((fj ..).mp (l3 x (aG g2) j hj)))
 .obtain⟨y,y1,y2⟩:=(h2 i x g2).resolve_left g3;obtain⟨y',y1',y2'⟩:=(h2 i' x' g5).resolve_left g6;rw[fF,<-Ad y2]at g7;rw[fF,<-Ad y2']at g8;exact hr.pv i i' v v' y y' b (hg i v g1) y1 (Ac y2 g3) (hg i' v' g4) y1' (Ac y2' g6) g7 g8
 .have:=hC.ok.hand i v g1 g2
  grind
 .obtain⟨k1,k2⟩:=hC.ok.lk i z rs hi;have hil:i<s2.length:=bj (aC.1 hi).1 l1;exact⟨Ce hh k1 hil,by rw[hg' i hil,k2]⟩
 .rcases ht i with e|⟨e,p,p1,p2⟩
  .rw[e];exact .k (.un _)
  .refine((hC.tm i).wk e).mono (λ_ h=>h) (λ_ _=>rfl) (λj hj=>hg' j ?_);have:=l2 p p1 j (by grind);simp_all
theorem an.less(hC:an E n G ρ t h a w)(hE:E.ρ.length=E.h.length){s1:T}{s2:H}(ht:lR t s1)(hh:kX h s2)(hl:zV E.h.length s1 s2=true):∃ρ',ρ'=ρ.take s2.length/\an E n G ρ' s1 s2 a w:=
 hC.P7 hE (Rr ht) hh hl
theorem an.Us(hC:an E n G ρ t h a w)(hE:E.ρ.length=E.h.length){s2:H}(hh:kX h s2)(hl:zV E.h.length t s2=true):∃ρ',ρ'=ρ.take s2.length/\an E n G ρ' t s2 a w:=
 hC.P7 hE (λi=>(Ru t i).imp (λh=>h) λ⟨p,h1,h2⟩=>⟨tG _,p,h1,h2⟩) hh hl
end
section
variable{P:Program}{E:gG}{n:Nat}{G:Nat->Prop}{ρ:List Value}{t:T}{h:H}{a:Act}{w:World}(ow:Nat->Bool)
theorem Ok.self(hr:HR G w ρ h){ds:List Deferred}{ms:List Nat}(hm:∀r∈ms,w.heap[r]?=some (.deferred (some []))/\¬G r/\¬own ρ h r):Ok ⟨w,G,ρ,h,ds,ms⟩ G w ρ h:=
 ⟨hr,λ_ h=>h,λ_ h=>.inl h,λ_ h=>.inr h,λ_ _ _=>rfl,aL _,rfl,rfl,rfl,λ_ _ h _=>h,aL _,hm,λ_ _ _ h=>⟨h,rfl⟩⟩
theorem HG{ca cb:Code}{xa xb:C}(hA:WK P ow n ca xa)(hB:WK P ow n cb xb){T0:T}(hC:an E n G ρ T0 h a w){l:Nat}{rec:Loop}(hl:w.heap[l]?=some (.loop rec))(hrec:rec.state=.ready)
  (hEl:E.w.heap.size<=l) (hEG:¬E.G l) (hst:(T0.all λp=> !(Kx p.2))=true) {ps:List Nat} {row:List D} (hps:∀p∈ps,p<n) (hrow:∀d∈row,TW d) {KB:Ex->H->Prop} (hpan:∀v h,¬KB (.eU v) h)
  (hk:wx (Sat P) ow h.length xa (Sp ps row T0) h λe t h=>match e with
   |.qD=>wx (Sat P) ow h.length xb t h λe _ h=>KB e h
   |_=>False) {R:Ending->World->Prop}
  (hR1:∀(G':Nat->Prop)(ρ':List Value)(h':H)(w':World),an E n G' ρ' T0 h' a w'->w'.heap[l]?=some (.loop {rec with state:=.ready,pending:=none})->lu G w ρ G' w' ρ'->KB .qD h'->R (.returned (.bool true)) w')
  (hR2:∀(G':Nat->Prop)(ρ':List Value)(h':H)(w':World)(c:Code),an E n G' ρ' T0 h' a w'->w'.heap[l]?=some (.loop {rec with state:=.done,pending:=some c})->((c=.ret/\KB .ret h')\/∃j,c=.exit j/\KB (.ext j) h')->R (.returned (.bool false)) w') :
  ca.wpIn (Fw (some l)) 0 P (Exit.then (λa₁ w₁ =>∃w₂,(Instr.beginRound l).run P w₁=.ok () w₂/\cb.wpIn (Fw (some l)) 0 P (roundPost P l R) a₁ w₂) (λ_ _ _=>False))
   {tmps:=(ps.zip (row.map sO)).foldl (λt(p,v)=>t.setIfInBounds p v) a.tmps,defers:=[]} w:=by
 have hr:=hC.ok.hr;have hrl:Cq w l:=.inl ⟨_,hl⟩;have hGl:¬G l:=hC.ok.ng hrl hEG;have hml:∀r∈E.ms,r∈E.ms/\r≠l:=λr hr=>⟨hr,λe=>by
  subst e;have:=(hC.ok.uB r hr).1
  grind⟩
 have hC1:an ⟨w,G,ρ,h,[],E.ms⟩ n G ρ (Sp ps row T0) h {tmps:=(ps.zip (row.map sO)).foldl (λt(p,v)=>t.setIfInBounds p v) a.tmps,defers:=[]} w:=
  ⟨.self hr hC.ok.uB,rfl,(FT _ _).trans hC.sz,Rb ps row T0 a.tmps (λp hp=>by rw[hC.sz];grind) hrow hC.tm⟩
 refine wpIn_mono (hA (some l) 0 ⟨w,G,ρ,h,[],E.ms⟩ hr.len (λl' e=>by cases e;exact⟨⟨_,hl⟩,hr.BU hrl⟩) G ρ _ _ _ _ _ hC1 hk) ?_
 rintro e a1 w1 ⟨E1,⟨l1,rfl,_,_⟩,_,G1,ρ1,t1,h1,hC2,hk2⟩
 cases e with
 |normal=>
  have hl1:w1.heap[l]?=some (.loop rec):=(hC2.ok.frame l hrl.lt (hr.BU hrl)).trans hl;have hrl1:Cq w1 l:=.inl ⟨_,hl1⟩;refine⟨_,run_beginRound hl1 hrec,?_⟩;have hG1:¬G1 l:=hC2.ok.ng hrl1 hGl;have hOa:Ok E G1 w1 ρ1 h1:=hC.ok.comp (λr hr=>by grind) hC2.ok;have hOb:Ok E G1 (w1.putObj l (.loop {rec with state:=.busy})) ρ1 h1:=hOa.H7 hrl1 hEl hG1 hml _;have hSa:lu G w ρ G1 w1 ρ1:=hC2.ok.stay hr;have hl2:(w1.putObj l (.loop {rec with state:=.busy})).heap[l]?=some (.loop {rec with state:=.busy}):=World.putObj_heap_same hrl1.lt;have hrl2:Cq (w1.putObj l (.loop {rec with state:=.busy})) l:=.inl ⟨_,hl2⟩;have hSb:lu G w ρ G1 (w1.putObj l (.loop {rec with state:=.busy})) ρ1:=hSa.trans (.put hG1 _);have hC3:an ⟨w1.putObj l (.loop {rec with state:=.busy}),G1,ρ1,h1,a1.defers,E.ms⟩ n G1 ρ1 t1 h1 a1 (w1.putObj l (.loop {rec with state:=.busy})):=
   ⟨.self hOb.hr hOb.uB,rfl,hC2.sz,λi=>qJ (hC2.tm i) hG1 _⟩
  generalize w1.putObj l (.loop {rec with state:=.busy})=w2 at *;refine wpIn_mono (hB (some l) 0 ⟨w2,G1,ρ1,h1,a1.defers,E.ms⟩ hOb.hr.len (λl' e=>by cases e;exact⟨⟨_,hl2⟩,hOb.hr.BU hrl2⟩) G1 ρ1 _ _ _ _ _ hC3 hk2) ?_
  rintro e a2 w3 ⟨E2,⟨l2,rfl,_,_⟩,_,G2,ρ2,t2,h2,hC4,hk4⟩
  have hl3:w3.heap[l]?=some (.loop {rec with state:=.busy}):=(hC4.ok.frame l hrl2.lt (hOb.hr.BU hrl2)).trans hl2;have hrl3:Cq w3 l:=.inl ⟨_,hl3⟩;have hG2:¬G2 l:=hC4.ok.ng hrl3 hG1;have hOc:Ok E G2 w3 ρ2 h2:=hOb.comp (λr hr=>by grind) hC4.ok;have hSc:∀o,lu G w ρ G2 (w3.putObj l o) ρ2:=λo=>(hSb.trans (hC4.ok.stay hOb.hr)).trans (.put hG2 _);have fin:∀o,an E n G2 ρ2 T0 h2 a (w3.putObj l o):=λo=>⟨hOc.H7 hrl3 hEl hG2 hml _,hC.df,hC.sz,λi=>(hSc o).rep (hC.tm i) (Mx hst i)⟩
  have hsame:∀o,(w3.putObj l o).heap[l]?=some o:=λo=>World.putObj_heap_same hrl3.lt;cases e with
  |normal=>exact⟨_,_,run_endRound none hl3,hR1 G2 ρ2 h2 _ (fin _) (hsame _) (hSc _) hk4⟩
  |ret=>exact⟨_,_,run_endRound (some .ret) hl3,hR2 G2 ρ2 h2 _ .ret (fin _) (hsame _) (.inl ⟨rfl,hk4⟩)⟩
  |exit j=>exact⟨_,_,run_endRound (some (.exit j)) hl3,hR2 G2 ρ2 h2 _ (.exit j) (fin _) (hsame _) (.inr ⟨j,rfl,hk4⟩)⟩
  |panic ch=>grind
  |goto l=>grind
  |outgrown=>grind
 |panic ch=>grind
 |exit j=>grind
 |ret=>grind
 |goto l=>grind
 |outgrown=>grind
theorem ue{r:Option Nat}(hrd:Px r E){T0:T}(hC:an E n G ρ T0 h a w)(fn:FuncId)(ps:Array Tmp)(ca cb:Code) :
    ∃(l dd:Nat) (mark:List Deferred) (w1:World) (rec:Loop) (E1:gG),(Instr.enterLoop fn a.tmps ps ca cb r).run P w = .ok (l,mark) w1∧rec={ state:=.ready,pending:=none,fn,tmps:=a.tmps,params:=ps,assign:=ca,body:=cb,defers:=dd } ∧
      w1.heap[l]?=some (.loop rec)/\w.heap.size<=l/\ga w w1/\nE E E1/\an E1 n G ρ T0 h {a with defers:=mark++a.defers} w1:=by
  cases r with
  |none=>
    have hg:∀rec,ga w ((w.alloc (.deferred (some []))).alloc (.loop rec)):=λrec=>(ga.alloc w _).trans (ga.alloc _ _)
    refine⟨w.heap.size+1,w.heap.size,_,_,_,{E with ds:=[w.heap.size].map Uh++E.ds,ms:=[w.heap.size]++E.ms},run_enterLoop_outer fn a.tmps ps ca cb,rfl,?_,by omega,hg _,⟨_,rfl,λhn=>?_,λr hr=>?_⟩,?_⟩
    · have:=World.alloc_heap_new (w.alloc (.deferred (some []))) (.loop {state:=.ready,pending:=none,fn,tmps:=a.tmps,params:=ps,assign:=ca,body:=cb,defers:=w.heap.size})
      simp_all
    · refine db.2 ⟨λhm=>?_,hn⟩
      have:=(aW.1 (hC.ok.uB _ hm).1).1
      omega
    · simp at hr;subst hr;exact hC.ok.size
    · have h1:=hC.grow (G':=G) (hg {state:=.ready,pending:=none,fn,tmps:=a.tmps,params:=ps,assign:=ca,body:=cb,defers:=w.heap.size}) (λ_ h=>h) (λ_ h=>.inl h)
      refine⟨⟨h1.ok.hr,h1.ok.gm,h1.ok.go,h1.ok.oo,h1.ok.frame,h1.ok.size,h1.ok.os,h1.ok.tape,h1.ok.out,h1.ok.hand,h1.ok.hl,λr hr=>?_,h1.ok.lk⟩,?_,h1.sz,h1.tm⟩
      · rcases aT.1 hr with hr|hr
        · simp at hr;subst hr
          refine⟨?_,λhG=>?_,λho=>?_⟩
          · exact((ga.alloc _ _).iZ w.heap.size (by simp)).trans (World.alloc_heap_new w _)
          · have:=hC.ok.hr.gl _ hG;omega
          · have:=hC.ok.hr.He ho;omega
        · exact h1.ok.uB r hr
      · simp[hC.df,Uh]
  |some l0=>
    obtain⟨⟨r0,h0⟩,h2⟩:=hrd l0 rfl
    have hl0:w.heap[l0]?=some (.loop r0):=(hC.ok.frame l0 (aW.1 h0).1 h2).trans h0
    refine⟨w.heap.size,r0.defers,[],_,_,E,run_enterLoop_inner hl0 fn a.tmps ps ca cb,rfl,World.alloc_heap_new w _,aL _,ga.alloc w _,.refl E,?_⟩
    exact hC.grow (ga.alloc w _) (λ_ h=>h) (λ_ h=>.inl h)
theorem Fg{f:Nat}(h:ev P f=true):f<P.funcs.size:=by
 unfold ev at h
 grind
theorem TY{r:Option Nat}{N:Nat}(hE:E.ρ.length=E.h.length)(hrd:Px r E){ca cb:Code}{xa xb:C}(hA:WK P ow n ca xa)(hB:WK P ow n cb xb){g:Operand}{og:O}(hg:cO P 0 g=some og){ps:Array Tmp}(hps:∀p∈ps.toList,p<n)
  (hP:P.funcs.size<=5000000) {b:Bool} (hb:b=false) {K:Ex->T->H->Prop} (hC:an E n G ρ t h a w) (hk:wx (Sat P) ow E.h.length (.rf og ps.toList xa xb) t h K):(Code.rangeFunc g ps ca cb).wpIn (Fw r) N P (QM b E n K) a w:=by
 subst hb;rw[TC]at hk;unfold TX at hk;obtain⟨f,caps,ids,T0,A,I,Hs,x0,n1,z,xs,⟨hgv,hf,hchk,hcs,hpl⟩,hS,⟨hz,hxs⟩,⟨hs1,⟨Bn,hs2⟩,hs3⟩,hH,hRd,hD⟩:=hk;have hf:=(fj ..).mp hf;have hz:=kA hz;obtain⟨z',hI⟩:∃z':Nat,AV P f (caps.map (L_ (pos ids))) (ids.map λi=>nG (pos ids) ((get? h i).getD .no)) xs:=by
  rcases hS with h1|⟨_,z',xs',h1,h2⟩
  .have:=Fg h1.ok;omega
  simp_all
 obtain⟨ρ0,hρ0,hC0⟩:=hC.less hE hs1 hs2 (hH x0).2.1;simp only[LD,aO,aP]at hchk;obtain⟨⟨c1,c2⟩,c3⟩:=hchk;have hgetH:∀(i:A),∀j∈ids,get? (Hs i) j=get? h j:=λi j hj=>pV.1 (hH i).2.2 j hj;have hcell:∀j∈ids,∃cs,h[j]?=some (.cells cs)/\(cs.all λx=> !(PJ x))=true:=λj hj=>by
  have:=aP.1 hpl j hj;rw[get?_eq]at this;cases hc:h[j]? with
  |none=>simp_all
  |some x=>
   rw[hc]at this;cases x<;>first|exact⟨_,rfl,this⟩|cases this
 have hid:∀j∈ids,j<n1:=λj hj=>by
  obtain⟨cs,h1,_⟩:=hcell j hj;have:=hgetH x0 j hj;rw[get?_eq,get?_eq,h1]at this
  grind
 have hρ0':∀j∈ids,ρ0[j]?=ρ[j]?:=λj hj=>by grind
 have hnsl:∀j∈ids,∃u,ρ0[j]?=some u/\kZ u=false:=λj hj=>by
  obtain⟨cs,h1,_⟩:=hcell j hj;have hjl:=hid j hj;have hl0:ρ0.length=n1:=by rw[hC0.ok.hr.len,(hH x0).1]
  refine⟨ρ0[j],aA (by omega),?_⟩;have hx:(Hs x0)[j]?=some (.cells cs):=by rw[<-get?_eq,hgetH x0 j hj,get?_eq,h1]
  obtain⟨bb,arr,ty,e,_⟩:=hC0.ok.hr.rep j _ _ (aA (by omega)) hx;rw[e];rfl
 have hv:=bG hC hg;rw[hgv]at hv;obtain⟨cs,hfc,hcl,hcr⟩:∃cs:Array Value,FX f (a.eval g) cs/\cs.size=caps.length/\∀(i:Nat)(x:V),caps[i]?=some x->dN G w ρ (cs.getD i undef) x:=by
  generalize a.eval g=v at hv;cases hv with
  |o h=>cases h with
   |c h=>cases h with
    |k h=>cases h
    |fc _ _ cs _ g1 g2 g3=>grind
 have hfv:=xu hfc hf;have hmem:∀(i:Nat)(x:V),caps[i]?=some x->∀j∈lN x,j∈ids:=λi x hx j hj=>cI.1 (c3 j (aj.2 ⟨x,aG hx,hj⟩));have hcr0:∀(i:Nat)(x:V),caps[i]?=some x->dN G w ρ0 (cs.getD i undef) x:=λi x hx=>(hcr i x hx).mono (λ_ h=>h) (λ_ _=>rfl) (λj hj=>hρ0' j (hmem i x hx j hj));have hcsl:∀(i:Nat)(x:V),caps[i]?=some x->PH x=false:=λi x hx=>by
  grind
 refine wpIn_rangeFunc λfn _=>?_;obtain⟨l,dd,mark,w1,rec,E1,hent,hrec,hl,hlw,hgr,hM,hC1⟩:=ue (P:=P) hrd hC0 fn ps ca cb;refine⟨l,mark,w1,{target:=.fn (.func f) cs,args:= #[.func (.yield l) #[] #[]]},w1,f,#[.func (.yield l) #[] #[]]++cs,w1,hent,?_,λ_ _=>trivial,?_,Fw.depth _ _,?_⟩
 .simp only[resolve,hfv];simp[go_sem]
 .have:=fz (P:=P) (w:=w1) (as:= #[.func (.yield l) #[] #[]]++cs) hI.ok
  assumption
 have hSt0:lu G w ρ0 G w1 ρ0:=⟨λb hb=>⟨hb,hgr.iZ b (hC0.ok.hr.gl b hb)⟩,λ_ _ h _=>h⟩
 have hE1w:E1.w=E.w:=hM.ew;have hEl:E1.w.heap.size<=l:=by rw[hE1w];exact aX hC.ok.size hlw
 have hEG:¬E1.G l:=by
  rw[hM.eG];intro h1;have:=hC.ok.hr.gl l (hC.ok.gm l h1);omega
 generalize ha':({a with defers:=mark++a.defers}:Act)=a' at *;have ha't:a'.tmps=a.tmps:=by grind
 have hrunI:=hI.run (ids.map λj=>(ρ0[j]?).getD undef) cs.toList l
  (λi W=>∃(x:A)(G':Nat->Prop)(ρ':List Value),I i x/\an E1 n G' ρ' T0 (Hs x) a' W/\lu G w1 ρ0 G' W ρ'/\W.heap[l]?=some (.loop rec))
  (λW=>∃(c:Code)(G':Nat->Prop)(ρ':List Value)(h':H),an E1 n G' ρ' T0 h' a' W/\W.heap[l]?=some (.loop {rec with state:=.done,pending:=some c})/\((c=.ret/\K .ret T0 h')\/∃j,c=.exit j/\K (.ext j) T0 h'))
  (by grind) ?_ ?_ ?_ ?_ w1 ⟨x0,G,ρ0,Bn,hC1,.refl,hl⟩
 .have hrun2:CallsIn (Fw r) (N-1) P f (#[.func (.yield l) #[] #[]]++cs) w1 _:=um (uV (by rw[dF]at hrunI;exact hrunI));refine hrun2.mono ?_
  rintro e W ⟨⟨v,rfl⟩,⟨x,G',ρ',hi,hc,hs,hlr⟩|⟨c,G',ρ',h',hc,hlr,hj⟩⟩
  .have hrc:Cq W l:=.inl ⟨_,hlr⟩;have hng:=hc.ok.ng hrc hEG;have hml:∀r∈E1.ms,r∈E1.ms/\r≠l:=λr hr=>⟨hr,λe=>by
    subst e;have:=(hc.ok.uB r hr).1
    grind⟩
   have hend:=run_endLoop (P:=P) hlr (by grind);have hpe:rec.pending=none:=by grind
   rw[hpe]at hend;refine⟨none,_,hend,?_⟩
   .exact⟨E1,hM,nofun,G',ρ',T0,Hs x,⟨hc.ok.H7 hrc hEl hng hml _,hc.df,hc.sz,λi=>qJ (hc.tm i) hng _⟩,hD x hi⟩
  .have hrc:Cq W l:=.inl ⟨_,hlr⟩;have hng:=hc.ok.ng hrc hEG;have hml:∀r∈E1.ms,r∈E1.ms/\r≠l:=λr hr=>⟨hr,λe=>by
    subst e;have:=(hc.ok.uB r hr).1
    grind⟩
   have hc2:∀o,an E1 n G' ρ' T0 h' a' (W.putObj l o):=λo=>⟨hc.ok.H7 hrc hEl hng hml _,hc.df,hc.sz,λi=>qJ (hc.tm i) hng _⟩
   refine⟨some c,_,run_endLoop (P:=P) hlr (by simp),?_⟩;rcases hj with⟨rfl,hj⟩|⟨j,rfl,hj⟩
   .exact wpIn_ret ⟨E1,hM,nofun,G',ρ',T0,h',hc2 _,hj⟩
   .exact wpIn_exit ⟨E1,hM,nofun,G',ρ',T0,h',hc2 _,hj⟩
 .rintro i W W' ⟨x,G',ρ',hi,hc,hs,hlr⟩ hgw
  exact⟨x,G',ρ',hi,hc.grow hgw (λ_ h=>h) (λ_ h=>.inl h),hs.trans ⟨λb hb=>⟨hb,hgw.iZ b (hc.ok.hr.gl b hb)⟩,λ_ _ h _=>h⟩,(hgw.iZ l (aW.1 hlr).1).trans hlr⟩
 .rintro W W' ⟨c,G',ρ',h',hc,hlr,hj⟩ hgw
  exact⟨c,G',ρ',h',hc.grow hgw (λ_ h=>h) (λ_ h=>.inl h),(hgw.iZ l (aW.1 hlr).1).trans hlr,hj⟩
 .rintro i W ⟨x,G',ρ',_,hc,hs,hlr⟩
  have hρj:∀j∈ids,ρ'[j]?=ρ0[j]?:=λj hj=>by
   obtain⟨u,h1,h2⟩:=hnsl j hj;rw[h1];exact hs.2 j u h1 h2
  have hlen:∀j∈ids,j<(Hs x).length:=λj hj=>by grind
  have hcl2:∀j∈ids,∀y,(Hs x)[j]?=some y->∀k∈jL y,k∈ids:=λj hj y hx k hk=>by
   have:=(c2 j hj).2 k;rw[<-hgetH x j hj,get?_eq,hx]at this;exact cI.1 (this hk)
  obtain⟨p1,_⟩:=hc.ok.hr.part (nh c1) hlen hcl2;refine⟨G',?_,λj y hx=>?_⟩
  .have e1:(ids.map λj=>(ρ'[j]?).getD undef)=ids.map λj=>(ρ0[j]?).getD undef:=cA λj hj=>by grind
   have e2:(ids.map λj=>nG (pos ids) ((get? (Hs x) j).getD .no))=ids.map λj=>nG (pos ids) ((get? h j).getD .no):=cA λj hj=>by grind
   grind
  .rw[aB,aJ]at hx;obtain⟨y0,hx0,rfl⟩:=hx;have h1:=(hSt0.trans hs).W8 (hcr0 j y0 hx0) (hcsl j y0 hx0);have h2:cs.toList.getD j undef=cs.getD j undef:=by simp_all
   rw[h2];have h3:=h1.rn (ρ':=ids.map λj=>(ρ0[j]?).getD undef) (f:=pos ids) (λk hk=>by
    have hkm:=hmem j y0 hx0 k hk;obtain⟨u,g1,_⟩:=hnsl k hkm;rw[aB,h_ hkm,bJ,hρj k hkm,g1];rfl)
   exact .o (.c (.k h3))
 .rintro i row W hrow ⟨x,G',ρ',hi,hc,hs,hlr⟩
  have hrow2:=hxs row (aG hrow);have hy:=run_yield (P:=P) (args:=(row.map sO).toArray) hlr (by grind);have hfold:(ps.zip (row.map sO).toArray).foldl (λtmps(x:Tmp×Value)=>tmps.setIfInBounds x.1 x.2) a.tmps=(ps.toList.zip (row.map sO)).foldl (λt(p,v)=>t.setIfInBounds p v) a'.tmps:=by
   rw[ha't,<-Array.foldl_toList,Array.toList_zip]
  have hy':(Instr.yield l (row.map sO).toArray).run P W=.ok (.round l fn ((ps.zip (row.map sO).toArray).foldl (λtmps(x:Tmp×Value)=>tmps.setIfInBounds x.1 x.2) a.tmps) ca cb) W:=by
   grind
  refine⟨fn,_,ca,cb,hy',?_⟩;have hb:=HG (R:=λe W2=>(e=.returned (.bool true)/\∃(x:A)(G':Nat->Prop)(ρ':List Value),I (i+1) x/\an E1 n G' ρ' T0 (Hs x) a' W2/\lu G w1 ρ0 G' W2 ρ'/\W2.heap[l]?=some (.loop rec))\/(e=.returned (.bool false) /\
    ∃(c:Code)(G':Nat->Prop)(ρ':List Value)(h':H),an E1 n G' ρ' T0 h' a' W2/\W2.heap[l]?=some (.loop {rec with state:=.done,pending:=some c})/\((c=.ret/\K .ret T0 h')\/∃j,c=.exit j/\K (.ext j) T0 h')))
   (KB:=λe h=>match e with
    |.qD=>∃y,I (i+1) y/\kX h (Hs y)
    |.ext j=>K (.ext j) T0 h
    |.ret=>K .ret T0 h
    |.eU _=>False) ow hA hB hc hlr (by grind) hEl hEG hs3 hps hrow2.2 (λ_ _ h=>h) (by rw[(hH x).1];exact hRd i row x hrow hi)
   (λG2 ρ2 h2 W2 g1 g2 g3 ⟨y,hy1,g4⟩=>by
    have hle:zV E1.h.length T0 (Hs y)=true:=by rw[hM.eh];grind
    obtain⟨ρ3,e3,g5⟩:=g1.Us (by rw[hM.er,hM.eh];grind) g4 hle;refine .inl ⟨rfl,y,G2,ρ3,hy1,g5,⟨λb hb=>(hs.trans g3).1 b hb,λj u hj hu=>?_⟩,by grind⟩;have hjl:j<(Hs y).length:=by
     grind
    rw[e3,bO,ζ hjl];exact(hs.trans g3).2 j u hj hu)
   (λG2 ρ2 h2 W2 c g1 g2 g3=>.inr ⟨rfl,c,G2,ρ2,h2,g1,g2,g3⟩)
  refine roundIn_of_wpIn trivial ?_;show ca.wpIn (Fw (some l)) 0 P _ {tmps:=(ps.zip (row.map sO).toArray).foldl (λtmps(x:Tmp×Value)=>tmps.setIfInBounds x.1 x.2) a.tmps,defers:=[]} W;rw[hfold];exact hb
theorem TD(hm:P.follows .mixedOrders=true):∀(c:Code)(x:C),comp P n c=some x->WK P ow n c x:=by
 intro c
 induction c with
 |skip=>
  intro x hx r N E hE hrd G ρ t h a w K hC hk;cases hx;exact wpIn_skip (.of ⟨G,ρ,t,h,hC,hk⟩)
 |region id ops draw=>
  intro x hx r N E hE hrd G ρ t h a w K hC hk;cases draw with
  |false=>
   simp only[comp]at hx;cases hnd:ops.toList.all BV with
   |false=>
    rw[hnd]at hx;cases hx;exact hk.elim
   |true=>
    rw[hnd,δ]at hx;simp only[aJ]at hx;obtain⟨is,his,rfl⟩:=hx;exact wpIn_mono (E6 Cr (sd hnd) (Qj ow _ _ his G ρ t h a w hC hk)) λ_ _ _=>.of
  |true=>
   refine wpIn_mono (Qe ow hm hE hx hC λn0=>?_) λ_ _ _=>.of;simp only[comp]at hx;cases hnd:ops.toList.all BV with
   |false=>
    rw[hnd]at hx;cases hx;exact hk.elim
   |true=>
    rw[hnd,qC,ε]at hx;simp only[aK,aE]at hx;obtain⟨is,his,hx⟩:=hx;split at hx
    .cases hx;exact hk
    .cases hx;exact hk.elim
 |seq c d ih1 ih2=>
  intro x hx r N E hE hrd G ρ t h a w K hC hk;simp only[comp,aK,aE,aD]at hx;obtain⟨y,hy,z,hz,rfl⟩:=hx;simp only[QC]at hk;refine wpIn_seq (wpIn_mono (ih1 y hy r N E hE hrd G ρ t h a w _ hC hk) λe a' w' hq=>?_);obtain⟨E1,hM,hb1,G',ρ',t',h',hC',hk'⟩:=hq;have hb2:xS (.seq c d)=true->E1=E:=λh=>hb1 (by simp only[xS,aO]at h;grind);cases e with
  |normal=>
   refine wpIn_mono (ih2 z hz r N E1 (by rw[hM.er,hM.eh];grind) (hrd.mk hM) G' ρ' t' h' a' w' K hC' (by rw[hM.eh];exact hk')) λe a'' w'' hq=>?_;obtain⟨E2,hM2,hb3,hq⟩:=hq;exact⟨E2,hM.trans hM2,λh=>by simp only[xS,aO]at h;grind,hq⟩
  |exit id=>exact⟨E1,hM,hb2,G',ρ',t',h',hC',hk'⟩
  |ret=>exact⟨E1,hM,hb2,G',ρ',t',h',hC',hk'⟩
  |panic ch=>exact⟨E1,hM,hb2,G',ρ',t',h',hC',hk'⟩
  |goto l=>grind
  |outgrown=>grind
 |cond c x y ih1 ih2=>
  intro z hz r N E hE hrd G ρ t h a w K hC hk;simp only[comp,aK,aE,aD]at hz;obtain⟨oc,hoc,x',hx,y',hy,rfl⟩:=hz;simp only[LK]at hk;split at hk
  .rename_i b hb;have hv:=(hb ▸ bG hC hoc).bool;cases b
   .exact wpIn_cond_false hv (wpIn_mono (ih2 y' hy r N E hE hrd G ρ t h a w K hC hk) λ_ _ _ ⟨E1,hM,hb1,hq⟩=>⟨E1,hM,λh=>hb1 (by simp only[xS,aO]at h;grind),hq⟩)
   .exact wpIn_cond_true hv (wpIn_mono (ih1 x' hx r N E hE hrd G ρ t h a w K hC hk) λ_ _ _ ⟨E1,hM,hb1,hq⟩=>⟨E1,hM,λh=>hb1 (by simp only[xS,aO]at h;grind),hq⟩)
  grind
 |block id c ih=>
  intro x hx r N E hE hrd G ρ t h a w K hC hk;simp only[comp,aK,aE,aD]at hx;obtain⟨y,hy,rfl⟩:=hx;simp only[GJ]at hk;refine wpIn_block (wpIn_mono (ih y hy r N E hE hrd G ρ t h a w _ hC hk) λe a' w' hq=>?_);obtain⟨E1,hM,hb1,G',ρ',t',h',hC',hk'⟩:=hq;cases e with
  |normal=>exact⟨E1,hM,hb1,G',ρ',t',h',hC',hk'⟩
  |exit i=>
   simp only at hk';unfold Exit.inBlock;simp only
   by_cases e:i=id
   .rw[ζ e];rw[e,kQ]at hk';exact⟨E1,hM,hb1,G',ρ',t',h',hC',hk'⟩
   .rw[η e];rw[fw e]at hk';exact⟨E1,hM,hb1,G',ρ',t',h',hC',hk'⟩
  |ret=>exact⟨E1,hM,hb1,G',ρ',t',h',hC',hk'⟩
  |panic ch=>exact⟨E1,hM,hb1,G',ρ',t',h',hC',hk'⟩
  |goto l=>grind
  |outgrown=>grind
 |loop c ih=>
  intro x hx r N E hE hrd G ρ t h a w K hC hk;simp only[comp,aK,aE,aD]at hx;obtain⟨y,hy,rfl⟩:=hx;simp only[LJ,lx]at hk;obtain⟨A,I,S1,S2,m,x,⟨i1,i2,i3,i4⟩,hk⟩:=hk;obtain⟨ρ1,_,hC1⟩:=hC.less hE i2 i3 i4;refine Aa (λx a w=>I x/\∃E1 G ρ,nE E E1/\(xS c=true->E1=E)/\an E1 n G ρ (S1 x) (S2 x) a w) m x ⟨i1,E,G,ρ1,.refl E,λ_=>rfl,hC1⟩ λx a w hI=>?_;obtain⟨hI,E1,G,ρ,hM,hb,hC⟩:=hI;have hE1:E1.ρ.length=E1.h.length:=by rw[hM.er,hM.eh];grind
  refine wpIn_mono (ih y hy r N E1 hE1 (hrd.mk hM) G ρ _ _ a w _ hC (by rw[hM.eh];exact hk x hI)) λe a' w' hq=>?_;obtain⟨E2,hM2,hb2,G',ρ',t',h',hC',hk'⟩:=hq;have hb3:xS c=true->E2=E:=λh=>by grind
  have hM3:=hM.trans hM2;cases e with
  |normal=>
   simp only[bn]at hk';obtain⟨t',h',hC',z,z1,z2,z3,z4,z5⟩:=Rf hC' hk';obtain⟨ρ2,_,hC2⟩:=hC'.less (by rw[hM3.er,hM3.eh];grind) z3 z4 (by rw[hM3.eh];grind);exact⟨z,⟨z1,E2,G',ρ2,hM3,hb3,hC2⟩,z2⟩
  |exit i=>exact⟨E2,hM3,hb3,G',ρ',t',h',hC',hk'⟩
  |ret=>exact⟨E2,hM3,hb3,G',ρ',t',h',hC',hk'⟩
  |panic ch=>exact⟨E2,hM3,hb3,G',ρ',t',h',hC',hk'⟩
  |goto l=>grind
  |outgrown=>grind
 |exit id=>
  intro x hx r N E hE hrd G ρ t h a w K hC hk;cases hx;exact wpIn_exit (.of ⟨G,ρ,t,h,hC,hk⟩)
 |ret=>
  intro x hx r N E hE hrd G ρ t h a w K hC hk;cases hx;exact wpIn_ret (.of ⟨G,ρ,t,h,hC,hk⟩)
 |rangeFunc g ps ca cb ih1 ih2=>
  intro x hx r N E hE hrd G ρ t h a w K hC hk;simp only[comp]at hx;cases hcnd:Nat.ble P.funcs.size 5000000&&ps.toList.all (λp=>Nat.blt p n) with
  |false=>rw[hcnd]at hx;cases hx;exact hk.elim
  |true=>
   rw[hcnd,δ]at hx;simp only[aO,aP]at hcnd;split at hx
   .rename_i og hg;simp only[aK,aE,aD]at hx;obtain⟨xa,hxa,xb,hxb,rfl⟩:=hx;exact TY ow hE hrd (ih1 xa hxa) (ih2 xb hxb) hg (λp hp=>(fj ..).mp (hcnd.2 p hp)) (bN hcnd.1) rfl hC hk
   .cases hx;exact hk.elim
 |_=>
  intro x hx r N E hE hrd G ρ t h a w K hC hk;cases hx;exact hk.elim
theorem GH(hm:P.follows .mixedOrders=true)(hE:E.ρ.length=E.h.length)(c:Code)(x:C)(hx:comp P n c=some x)(G:Nat->Prop)(ρ:List Value)(t:T)(h:H)(a:Act)(w:World)(K:Ex->T->H->Prop)(hC:an E n G ρ t h a w)
  (hk:wx (Sat P) ow E.h.length x t h K):c.wpIn (Fw none) 0 P (QM (xS c) E n K) a w:=
 TD ow hm c x hx none 0 E hE (.none E) G ρ t h a w K hC hk
theorem GI(hm:P.follows .mixedOrders=true)(hE:E.ρ.length=E.h.length)(c:Code)(x:C)(hx:comp P n c=some x)(hr:xS c=true)(G:Nat->Prop)(ρ:List Value)(t:T)(h:H)(a:Act)(w:World)(K:Ex->T->H->Prop)(hC:an E n G ρ t h a w)
  (hk:wx (Sat P) ow E.h.length x t h K):c.wp P (QK E n K) a w:=
 wpIn_wide.1 (wpIn_mono (GH ow hm hE c x hx G ρ t h a w K hC hk) λ_ _ _ hq=>by rw[hr]at hq;exact hq.qk)
end
section
variable{P:Program}{E:gG}{n:Nat}{G:Nat->Prop}{ρ:List Value}{t:T}{h:H}{a:Act}{w:World}(ow:Nat->Bool)
theorem Ok.refl(hr:HR G w ρ h):Ok ⟨w,G,ρ,h,[],[]⟩ G w ρ h:=
 ⟨hr,λ_ h=>h,λ_ h=>.inl h,λ_ h=>.inr h,λ_ _ _=>rfl,aL _,rfl,rfl,rfl,λ_ _ h _=>h,aL _,(λ_ h=>nomatch h),λ_ _ _ h=>⟨h,rfl⟩⟩
theorem Ok.part(hO:Ok E G w ρ h)(hE:E.ρ.length=E.h.length){ids:List Nat}(hn:ids.Nodup)(hlt:∀i∈ids,i<h.length)(hcl:∀i∈ids,∀x,h[i]?=some x->∀j∈jL x,j∈ids)(hp:ids.take E.h.length=List.range E.h.length) :
  Ok E G w (ids.map λi=>(ρ[i]?).getD undef) (ids.map λi=>nG (pos ids) ((get? h i).getD .no)):=by
 obtain⟨h1,h2⟩:=hO.hr.part hn hlt hcl;have h3:∀b,own (ids.map λi=>(ρ[i]?).getD undef) (ids.map λi=>nG (pos ids) ((get? h i).getD .no)) b->own ρ h b:=λb hb=>by
  obtain⟨i,v,x,_,g1,g2,g3,g4⟩:=h2 b hb;exact⟨i,v,x,g1,g2,g3,g4⟩
 have hle:E.h.length<=ids.length:=by
  have:=κ List.length hp
  grind
 refine⟨h1,hO.gm,hO.go,λb hb=>hO.oo b (h3 b hb),hO.frame,hO.size,hO.os,hO.tape,hO.out,λi v hv hs=>?_,by grind,λr hr=>let⟨g1,g2,g3⟩:=hO.uB r hr;⟨g1,g2,λg4=>g3 (h3 r g4)⟩,λi z rs hi=>?_⟩
 .have hi:i<E.h.length:=by grind
  have hid:ids[i]?=some i:=by
   have:(ids.take E.h.length)[i]?=some i:=by grind
   grind
  rw[aB,hid,bJ,hO.hand i v hv hs];rfl
 .obtain⟨k1,k2⟩:=hO.lk i z rs hi;have hil:=(aC.1 hi).1;have hid:ids[i]?=some i:=by
   have:(ids.take E.h.length)[i]?=some i:=by grind
   grind
  have hir:i<ρ.length:=by rw[hO.hr.len];exact(aC.1 k1).1
  rw[aB,aB,hid,bJ,bJ,get?_eq,k1,<-k2,aA hir];exact⟨rfl,rfl⟩
theorem U9{v:Value}{x:V}(hv:dN G w ρ v x):dN G w ρ v (Ub x):=by
 cases hv with
 |nl z=>exact .d (.yv z)
 |cl a n z rows h=>exact .cl a n z rows h
 |un=>exact .un _
 |ud=>exact .ud
 |d h=>exact .d h
 |p id off b h=>exact .p id off b h
 |e b o off row U h1 h2 h3=>exact .e b o off row U h1 h2 h3
 |os id a n c h=>exact .os id a n c h
 |q id z i off b n c h=>exact .q id z i off b n c h
 |mp id r h=>exact .mp id r h
 |ov id z i _ a n c h hv=>exact .ov id z i _ a n c h hv
 |it id r m h=>exact .it id r m h
theorem Ua{v:Value}{x:V}(hv:dO G w ρ v x):dO G w ρ v (Ub x):=by
 cases hv with
 |k h=>exact .k (U9 h)
 |fc f u cs caps h0 h1 h2=>exact .fc f _ cs caps h0 h1 h2
theorem R0{v:Value}{x:V}(hv:az G w ρ v x):az G w ρ v (R1 x):=by
 cases hv with
 |o h=>cases h with
  |c h=>
   have:R1 x=Ub x:=by
    cases h with
    |k h=>cases h<;>rfl
    |fc=>rfl
   rw[this];exact .o (.c (Ua h))
  |ag cs vs h1 h2=>
   refine .o (.ag cs _ (by grind) (λi x hx=>?_));rw[aB]at hx;cases hc:vs[i]? with
   |none=>grind
   |some x0=>rw[hc]at hx;cases hx;exact xy (h2 i x0 hc)
 |tu cs vs h1 h2=>exact .tu cs vs h1 h2
def Nq(G:Nat->Prop)(w:World)(ρ:List Value)(U:Nat->Value)(vs:List V):Prop:=
 ∀(i:Nat)(x:V),vs[i]?=some x->az G w ρ (U i) x
theorem DB{id:Nat}{y:D}{x:V}(h:yS x=true):yS (ES id (.d y) x)=true:=by
 cases x with
 |tu=>cases h
 |os j=>
  show yS (bif Nat.beq j id then V.d y else V.os j)=true;cases Nat.beq j id<;>rfl
 |p j o=>
  show yS (bif Nat.beq j id then T7 (.d y) j o else .p j o)=true;cases Nat.beq j id;rfl
  .show yS (T7 (.d y) j o)=true;unfold T7;split
   .rename_i off _;cases Nat.beq off 0<;>rfl
   rfl
 |_=>rfl
theorem RU{x:V}(h:yS x=true):yS (R1 x)=true:=by
 cases x<;>simp_all[yS,R1,Ub]
theorem RT{f:Nat->Nat}{x:V}(h:yS x=true):yS (qy f x)=true:=by
 cases x<;>simp_all[yS,qy,F_,HM,L_]
theorem Jg{K:T->H->List V->Prop}:∀(ids:List Nat)(t:T)(h:H)(vs:List V),vs.all yS=true->q9 ids t h vs K->q9 ids t h vs λt h vs=>vs.all yS=true/\K t h vs:=by
 intro ids
 induction ids with
 |nil=>intro t h vs hv hk;exact⟨hv,hk⟩
 |cons id ids ih=>
  intro t h vs hv hk;simp only[wL,D4]at hk⊢;split at hk
  .rename_i z rs hg;simp only[ph,j6,fH]at hk⊢;refine ih _ _ _ ?_ hk;simp only[List.all_map,aP]at hv⊢;exact λx hx=>DB (hv x hx)
  .split at hk
   .simp only[ph,j6,fH]at hk⊢;refine ih _ _ _ ?_ hk;simp only[List.all_map,aP]at hv⊢;exact λx hx=>DB (hv x hx)
   grind
  grind
theorem SG{b:Nat}(x:B)(h:b∈gh (NN x)):b∈gh x:=by
 cases x with
 |di=>cases h
 |ms z es out it=>simp only[NN,gh,Pb,eI]at h;simp only[gh,aT];grind
 |_=>exact h
theorem CF{x:B}(h:NN x≠.no):x≠.no:=λe=>h (by rw[e];rfl)
theorem an.Yi(hC:an E n G ρ t h a w):an E n G ρ t (h.map NN) a w:=by
 have get:∀(i:Nat)(y:B),(h.map NN)[i]?=some y->∃x,h[i]?=some x/\y=NN x:=λi y hy=>by
  grind
 have bk:∀{v:Value}{x:B}{b:Nat},b∈fF v (NN x)->b∈fF v x:=λhb=>(bT.1 hb).elim (λh=>bT.2 (.inl h)) λh=>bT.2 (.inr (SG _ h));refine⟨hC.ok.view (ρ':= ρ) (λ_ _ h=>h) (by simp[hC.ok.hr.len]) (by simp) (λi z rs hi=>by rw[aB,hi];rfl) (λi v y h1 h2 h3=>?_) (λi v y b h1 h2 h3 h4=>?_),hC.df,hC.sz,hC.tm⟩
 .obtain⟨x,hx,rfl⟩:=get i y h2;have:=hC.ok.hr.rep i v x h1 hx;cases x with
  |di es r l=>exact this.1
  |ms z es out it=>exact⟨this.1,trivial⟩
  |_=>exact this
 .obtain⟨x,hx,rfl⟩:=get i y h2;refine⟨i,v,x,h1,hx,CF h3,bk h4,λi' v' y' g1 g2 g3 g4=>?_⟩;obtain⟨x',hx',rfl⟩:=get i' y' g2;exact hC.ok.hr.pv i' i v' v x' x b g1 hx' (CF g3) h1 hx (CF h3) (bk g4) (bk h4)
theorem u9{K:KT}(hC:an E n G ρ t h a w)(hE:E.ρ.length=E.h.length){keep:Bool}{vs:List V}{U:Nat->Value}(hU:Nq G w ρ U vs)(hk:fin keep E.h.length vs t h K) :
  ∃(G':Nat->Prop)(ρ':List Value)(h':H)(us:List V),Ok E G' w ρ' h'/\us.length=vs.length/\us.all yS=true/\Nq G' w ρ' U us/\K (outs us) h':=by
 obtain⟨hnt,hk⟩:=hk;simp only[bn,fH,mQ]at hk;have hU1:Nq G w ρ U (vs.map R1):=λi x hi=>by
  rw[aB]at hi;cases hc:vs[i]? with
  |none=>grind
  |some x0=>rw[hc]at hi;cases hi;exact R0 (hU i x0 hc)
 have hnt1:(vs.map R1).all yS=true:=by
  simp only[List.all_map,aP]at hnt⊢;exact λx hx=>RU (hnt x hx)
 obtain⟨G',t',h',vs',hC',hl,hU',hnt',hk'⟩:=sr _ G t h _ U hC hU1 (Jg _ _ _ _ hnt1 hk);rw[aI]at hl;obtain⟨t',h',hC',hk'⟩:=wh _ hC' hk'
 replace hC':=hC'.Yi
 generalize h'.map NN=h' at hC' hk';split at hk'
 .rename_i hn0 hid;have hO:=hC'.ok.part hE (ids:=[]) (by simp) (by simp) (by simp) (by grind);refine⟨G',_,_,vs',hO,hl,hnt',λi x hi=>?_,hk'⟩;have:=hU' i x hi;have hx:l8 x=[]:=(cK.1 hid) x (aG hi);have h1:=this.rn (ρ':=([]:List Value)) (f:=λi=>i) (λj hj=>by grind);rwa[HI hx]at h1
 .generalize reach h' 100 _ _=ids at hk';obtain⟨hchk,hpre,hk'⟩:=hk';simp only[aO,aP]at hchk;obtain⟨⟨c1,c2⟩,c3⟩:=hchk;have hlt:∀i∈ids,i<h'.length:=λi hi=>(fj ..).mp (c2 i hi).1;have hcl:∀i∈ids,∀x,h'[i]?=some x->∀j∈jL x,j∈ids:=λi hi x hx j hj=>by
   have:=(c2 i hi).2 j;rw[get?_eq,hx]at this;exact cI.1 (this hj)
  have hO:=hC'.ok.part hE (nh c1) hlt hcl hpre;refine⟨G',_,_,vs'.map (qy (pos ids)),hO,by grind,?_,λi x hi=>?_,hk'⟩
  .simp only[List.all_map,aP]at hnt'⊢;exact λx hx=>RT (hnt' x hx)
  .rw[aB]at hi;cases hc:vs'[i]? with
   |none=>grind
   |some x0=>
    rw[hc]at hi;cases hi;refine(hU' i x0 hc).rn λj hj=>?_;have hjm:j∈ids:=cI.1 (c3 j (by grind));have hjl:=hlt j hjm;rw[aB,h_ hjm,bJ,aA (by rw[hC'.ok.hr.len];grind)];rfl
def Ql(a:Act):ResultVar->Sem Value
 |.tmp t=>pure (a.tmps.getD t undef)
 |.cell b t=>do loadVar t (<-asAddr (a.tmps.getD b undef))
def Vq(P:Program):ResultVar->Option RV
 |.tmp t=>some (.s t)
 |.cell a t=>(vW P t).map (.c a)
theorem Q9(hC:an E n G ρ t h a w){r:ResultVar}{x:RV}(hx:Vq P r=some x){K:V->Prop}(hk:Vp x t h K) :
  ∃(u:Value)(v:V),(Ql a r).run P w=.ok u w/\az G w ρ u v/\K v:=by
 cases r with
 |tmp i=>
  cases hx;exact⟨_,_,rfl,hC.tm i,hk⟩
 |cell b ty=>
  simp only[Vq,aJ]at hx;obtain⟨m,hl,rfl⟩:=hx;have hv:=hC.tm b;simp only[Vp]at hk;split at hk
  .rename_i id off hg;rw[hg]at hv;obtain⟨bb,hp,hρ⟩:=hv.pt;rw[get?_eq]at hk;split at hk
   .rename_i cs hcs;obtain⟨b',arr,ty',hb,h1,h2,h3⟩:=hC.ok.hr.rep id _ _ hρ hcs;simp only[Value.pointer.injEq,aD,Addr.mk.injEq,ω]at hb;obtain⟨rfl,_⟩:=hb;cases m with
    |none=>
     simp only[get?_eq]at hk;split at hk
     .rename_i v hvv;have hol:off<arr.size:=by grind
      have hcell:w.cell? ⟨bb,off,none⟩=some arr[off]:=by rw[cz h1];grind
      refine⟨arr[off],v,?_,?_,hk⟩
      .simp[Ql,hp,asAddr,uL hl,hcell]
      .have:=h3 off v hvv;exact .o (.c (by simpa[aH,hol]using this))
     grind
    |some k=>
     simp only[bn]at hk;have hlen:=kA hk.1;have hlen':k<=cs.length-off:=by
      grind
     have hrun:=uK (w:=w) hl ⟨bb,off,none⟩ ((List.range k).map λj=>arr.getD (off+j) undef) (by simp) (λj v hv=>by
      rw[dk,cz h1];simp only[aB,aJ]at hv;obtain⟨j',hj',rfl⟩:=hv;have hjl:j<k:=by
       grind
      rw[cp hjl]at hj';cases hj';have hol:off+j<arr.size:=by omega
      simp_all)
     refine⟨_,_,by simp[Ql,hp,asAddr,hrun];rfl,.o (.ag _ _ (by grind) (λj y hy=>?_)),hk.2⟩;have hj:j<k:=by grind
     rw[bO,ζ hj,bY]at hy;simp_all
   grind
  grind
theorem HD(hC:an E n G ρ t h a w):∀(rs:List ResultVar)(xs:List RV),rs.mapM (Vq P)=some xs->∀(K:List V->Prop),PK xs t h K ->
    ∃(us:List Value) (vs:List V),(rs.mapM (Ql a)).run P w = .ok us w ∧
      us.length=vs.length/\Nq G w ρ (λi=>us.getD i undef) vs/\K vs:=by
  intro rs
  induction rs with
  |nil=>
    intro xs hm K hk
    simp at hm
    subst hm
    exact⟨[],[],by simp,rfl,λi x hi=>by grind,hk⟩
  |cons r rs ih=>
    intro xs hm K hk
    simp only[iR,aK,aE,jZ,aD]at hm
    obtain⟨x,hx,ys,hys,rfl⟩:=hm
    simp only[HE]at hk
    obtain⟨u,v,g1,g2,g3⟩:=Q9 hC hx hk
    obtain⟨us,vs,k1,k2,k3,k4⟩:=ih ys hys _ g3
    refine⟨u::us,v::vs,?_,by grind,λi x hi=>?_,k4⟩
    simp_all
    · cases i with
      |zero=>grind
      |succ i=>simpa using k3 i x (by grind)
theorem Cn{fn:Func}:BG P fn=fn.results.toList.mapM (Vq P):=by
 rfl
theorem tZ{fn:Func}:results fn a.tmps=(do let vs <-fn.results.mapM (Ql a);pure (if h:vs.size=1 then vs[0]else .tuple vs)):=by
 rfl
theorem Bq:∀(vs:List V)(k i:Nat),gs (FJ k vs) i=if k<=i then(vs[i-k]?).getD .un else .un:=by
 intro vs
 induction vs with
 |nil=>intro k i;simp[FJ,Rt]
 |cons v vs ih=>
  intro k i;simp only[FJ,gD]
  by_cases e:k=i
  simp_all
  .rw[fw e,ε,ih]
   grind
theorem Ok.ds{d1 d2:List Deferred}{m:List Nat}(hO:Ok {E with ds:=d1,ms:=m} G w ρ h):Ok {E with ds:=d2,ms:=m} G w ρ h:=
 ⟨hO.hr,hO.gm,hO.go,hO.oo,hO.frame,hO.size,hO.os,hO.tape,hO.out,hO.hand,hO.hl,hO.uB,hO.lk⟩
theorem uD{F:Fence}{N:Nat}{fn:Func}{tmps:Array Value}{R:Ending->World->Prop}{u:FrameMode}(hu:u≠.run):∀(l:List Nat)(w:World),l.Nodup->(∀r∈l,E.w.heap.size<=r)->Ok {E with ds:=[],ms:=l} G w ρ h ->
  (∀w',Ok {E with ds:=[],ms:=[]} G w' ρ h->(∀v x,az G w ρ v x->az G w' ρ v x)->LeavesIn F N P fn tmps R [] u w')->LeavesInM F N P fn tmps R (l.map Uh) u w:=by
 intro l
 induction l with
 |nil=>intro w _ _ hO hk;exact hk w hO λ_ _ h=>h
 |cons r l ih=>
  intro w hn hs hO hk;obtain⟨hn1,hn2⟩:=db.1 hn;obtain⟨g1,g2,_⟩:=hO.uB r (by simp);refine⟨hu,.inl ⟨r,_,rfl,run_takeDeferred g1,ih _ hn2 (λx hx=>hs x (by grind)) (hO.H7 (.inr ⟨_,g1⟩) (hs r (by simp)) g2 (λx hx=>⟨by grind,λe=>hn1 (e ▸ hx)⟩) _) λw' hO' hr=>hk w' hO' λv x hv=>hr v x (qJ hv g2 _)⟩⟩
theorem EX{f:Nat}{fn:Func}{c:Code}{x:C}{rs:List RV}{keep:Bool}{vs:List V}{K:KT}(hm:P.follows .mixedOrders=true)(hf:P.funcs[f]?=some fn)(hname:(fn.name != "runtime.NumGoroutine")=true) (hb:fn.body=some c)
  (hx:comp P fn.ntmps c=some x) (hr:BG P fn=some rs) (hl:Nat.ble vs.length fn.ntmps=true) (hk:fx (Sat P) ow keep x rs vs h K):Sat P f vs h K:=by
 have hl:=bN hl;refine .inl ⟨by simp[ev,hf,hname,hb],λG w ρ as hR hlen hv=>uV (r:=none) (N:=0) (callsIn_of_wp_marks hf hb (Fw.fn none f) ?_)⟩;have hC:an ⟨w,G,ρ,h,[],[]⟩ fn.ntmps G ρ (FJ 0 vs) h {tmps:=as.toArray++Array.replicate (fn.ntmps-as.toArray.size) undef,defers:=[]} w:=by
  refine⟨Ok.refl hR,rfl,by grind,λi=>?_⟩;rw[Bq,ζ (aY _),re];cases hc:vs[i]? with
  |none=>exact .k (.un _)
  |some v=>
   have hil:i<vs.length:=(aC.1 hc).1;have:=hv i v hc;rw[aq,aA (by omega)]at this;rw[aH,cX (by grind)]
   grind
 have hE:(⟨w,G,ρ,h,[],[]⟩:gG).ρ.length=(⟨w,G,ρ,h,[],[]⟩:gG).h.length:=hR.len;have norm:∀(G':Nat->Prop)(ρ':List Value)(t':T)(h':H)(a':Act)(w':World),an ⟨w,G,ρ,h,[],[]⟩ fn.ntmps G' ρ' t' h' a' w'->(PK rs t' h' λvs=>fin keep h.length vs t' h' K) ->
   ∃v,(results fn a'.tmps).run P w'=.ok v w'/\∃(G'':Nat->Prop)(ρ'':List Value)(h'':H)(out:Out),Ok ⟨w,G,ρ,h,[],[]⟩ G'' w' ρ'' h''/\Nr G'' w' ρ'' (.returned v) out/\K out h'':=by
  intro G' ρ' t' h' a' w' hC' hk';obtain⟨us,vs',g1,g2,g3,g4⟩:=HD hC' _ _ (Cn ▸ hr) _ hk';obtain⟨G'',ρ'',h'',us',k1,k2,k3,k4,k5⟩:=u9 hC' hE g3 g4;have harr:(fn.results.mapM (Ql a')).run P w'=.ok us.toArray w':=by
   rw[<-dF (xs:=fn.results),List.mapM_toArray];simp_all
  refine⟨if h:us.toArray.size=1 then us.toArray[0]else .tuple us.toArray,?_,G'',ρ'',h'',_,k1,?_,k5⟩
  .rw[tZ,Sem.run_bind,harr,Result.andThen_ok];rfl
  .by_cases h1:us.length=1
   .obtain⟨u,rfl⟩:=eD.1 h1;obtain⟨v,rfl⟩:=eD.1 (show us'.length=1 by omega);exact⟨u,rfl,by simpa using k4 0 v rfl⟩
   .rw[dif_neg (by grind)];have:outs us'=.ret (.tu us'):=by
     match us',(show us'.length≠1 by omega) with
     |[],_=>rfl
     |[_],h=>grind
     |_::_::_,_=>rfl
    rw[this];refine⟨_,rfl,.tu _ _ (by grind) (λi x hi=>?_)⟩;have h2:=k4 i x hi;have h3:yS x=true:=(aP.1 k3) x (aG hi);have h4:(us.toArray).getD i undef=us.getD i undef:=by
     simp_all
    rw[h4];simp only at h2;generalize us.getD i undef=u at h2;cases h2 with
    |o h=>exact h
    |tu=>contradiction
 refine wpIn_mono (GH ow hm hE c x hx G ρ _ h _ w _ hC hk) λe a' w' hq=>?_;obtain⟨E1,⟨l,rfl,hnd,hsz⟩,_,G',ρ',t',h',hC',hk'⟩:=hq;have hdf:a'.defers=l.map Uh:=by rw[hC'.df];simp
 have hn:l.Nodup:=by grind
 have hO:Ok { (⟨w,G,ρ,h,[],[]⟩:gG)with ds:=[],ms:=l} G' w' ρ' h':=by
  have:=hC'.ok;simp only[eI]at this;exact this.ds
 have go:∀w'',Ok { (⟨w,G,ρ,h,[],[]⟩:gG)with ds:=[],ms:=[]} G' w'' ρ' h'->(∀v x,az G' w' ρ' v x->az G' w'' ρ' v x)->an ⟨w,G,ρ,h,[],[]⟩ fn.ntmps G' ρ' t' h' {a' with defers:=[]} w'':=
  λw'' h1 h2=>⟨h1,rfl,hC'.sz,λi=>h2 _ _ (hC'.tm i)⟩
 cases e with
 |normal=>
  show LeavesInM _ _ _ _ _ _ a'.defers _ _;rw[hdf];exact uD (u:=.returning) (λe=>by cases e) l w' hn hsz hO λw'' h1 h2=>norm G' ρ' t' h' {a' with defers:=[]} w'' (go w'' h1 h2) hk'
 |ret=>
  show LeavesInM _ _ _ _ _ _ a'.defers _ _;rw[hdf];exact uD (u:=.returning) (λe=>by cases e) l w' hn hsz hO λw'' h1 h2=>norm G' ρ' t' h' {a' with defers:=[]} w'' (go w'' h1 h2) hk'
 |panic ch=>
  obtain⟨v,v',rfl,hv',hk'⟩:=hk';show LeavesInM _ _ _ _ _ _ a'.defers _ _;rw[hdf];refine uD (u:=.panicking [{v:=v',recovered:=false}]) (λe=>by cases e) l w' hn hsz hO λw'' h1 h2=>?_;obtain⟨G'',ρ'',h'',us',k1,k2,k3,k4,k5⟩:=u9 (go w'' h1 h2) hE (U:=λ_=>v') (vs:=[v]) (λi x hi=>by
   grind) hk'
  obtain⟨u,rfl⟩:=eD.1 (show us'.length=1 by grind);exact⟨G'',ρ'',h'',.eU u,k1,⟨v',rfl,k4 0 u rfl⟩,k5⟩
 |exit id=>grind
 |goto l=>grind
 |outgrown=>grind
end
theorem aU{b:Bool}{p q:Prop}(h1:b=true->p)(h2:b=false->q):sp b p q:=by
 cases b
 .exact h2 rfl
 .exact h1 rfl
theorem bf{b:Bool}{p q:Prop}(h:b=true)(hp:p):sp b p q:=by subst h;exact hp
theorem bB{b:Bool}{p q:Prop}(h:b=false)(hq:q):sp b p q:=by subst h;exact hq
theorem cD{x y:V}(h:x=y):Out.ret x=Out.ret y:=by rw[h]
def pO:List Nat->T->T
 |_,[]=>[]
 |ws,p::r=>bif has ws p.1 then pO ws r else p::pO (p.1::ws) r
theorem uS(t:T):∀(r:T)(ws:List Nat),(∀i,has ws i=false->gs t i=gs r i)->lR t (pO ws r):=by
 intro r
 induction r with
 |nil=>intro ws _;exact trivial
 |cons p r ih=>
  intro ws hw;simp only[pO];cases hp:has ws p.1 with
  |true=>
   refine ih ws λi hi=>?_;rw[hw i hi,gD,fw (λe=>by grind)];rfl
  |false=>
   refine⟨?_,ih _ λi hi=>?_⟩
   .rw[hw _ hp,gD,kQ];exact tG _
   .simp only[has,List.any_cons,iU]at hi;have hne:p.1≠i:=λe=>by
     simp_all
    have hi2:has ws i=false:=hi.2;rw[hw i hi2,gD,fw hne];rfl
theorem rl{t:T}:∀{a b:T},lR t a->lR t b->lR t (a++b)
 |[],_,_,h=>h
 |_::_,_,h1,h2=>⟨h1.1,rl h1.2 h2⟩
theorem zU{t:T}{h:H}{n0:Nat}{body:T->H->(Ex->T->H->Prop)->Prop}{K:Ex->T->H->Prop}
  (hx:∃(A:Type) (I:A→Prop) (S1:A→T) (S2:A→H) (m:A→Nat) (x:A),
   (I x∧lR t (S1 x)∧kX h (S2 x)∧zV n0 (S1 x) (S2 x)=true)∧∀x,I x→body (S1 x) (S2 x) λe t h=>match e with
    |.qD=>fl (Uf h) λl=>Up l t h λt h=>∃y,I y/\m y<m x/\lR t (S1 y)/\kX h (S2 y)/\zV n0 (S1 y) (S2 y)=true
    |.ext i=>K (.ext i) t h
    |.ret=>K .ret t h
    |.eU v=>K (.eU v) t h):lx n0 body t h K:=by
 unfold lx;omega
theorem JF{t:T}{h:H}{n0:Nat}{body:T->H->(Ex->T->H->Prop)->Prop}{K:Ex->T->H->Prop}(ws:List Nat){A:Type}(I:A->Prop)(f:A->T)(g:A->H)(m:A->Nat)(x:A)
  (h1:I x) (h2:lR t (f x)) (h3:kX h (g x)) (h4:zV n0 (f x++pO ws t) (g x)=true)
  (hr:∀x,I x→fl (f x++pO ws t) λs=>body s (g x) λe t' h'=>match e with
   |.qD=>fl (Uf h') λl=>Up l t' h' λt' h'=>∃y,I y/\m y<m x/\lR t' (f y++pO ws t)/\kX h' (g y)/\zV n0 (f y++pO ws t) (g y)=true
   |.ext i=>K (.ext i) t' h'
   |.ret=>K .ret t' h'
   |.eU v=>K (.eU v) t' h') :
  lx n0 body t h K:=by
 unfold lx;refine⟨A,I,λa=>f a++pO ws t,g,m,x,⟨h1,rl h2 (uS t t ws λ_ _=>rfl),h3,h4⟩,λa ha=>?_⟩;have:=hr a ha;rwa[bn]at this
theorem ky{a b:V}(h:a=b):GN a b:=h ▸ tG a
theorem aV{a b:B}(h:a=b):LO a b:=by
 subst h;cases a<;>first|exact rfl|exact Or.inl rfl
theorem bA{t:T}{h:H}{n0:Nat}{body:T->H->(Ex->T->H->Prop)->Prop}{K:Ex->T->H->Prop}(rest:T){A:Type}(I:A->Prop)(f:A->T)(g:A->H)(m:A->Nat)(x:A)
  (h1:I x) (h2:lR t (f x++rest)) (h3:kX h (g x)) (h4:zV n0 (f x++rest) (g x)=true)
  (hr:∀x,I x→fl (f x++rest) λs=>body s (g x) λe t' h'=>match e with
   |.qD=>fl (Uf h') λl=>Up l t' h' λt' h'=>∃y,I y/\m y<m x/\lR t' (f y++rest)/\kX h' (g y)/\zV n0 (f y++rest) (g y)=true
   |.ext i=>K (.ext i) t' h'
   |.ret=>K .ret t' h'
   |.eU v=>K (.eU v) t' h') :
  lx n0 body t h K:=by
 unfold lx;refine⟨A,I,λa=>f a++rest,g,m,x,⟨h1,h2,h3,h4⟩,λa ha=>?_⟩;have:=hr a ha;rwa[bn]at this
abbrev iS(d:Nat)(x:X):I:=⟨some d,x,none⟩
abbrev iG(d:Nat)(x:X)(g:Nat)(b:Bool):I:=⟨some d,x,some (g,b)⟩
abbrev iN(x:X):I:=⟨none,x,none⟩
abbrev iM(d m:Nat):I:=⟨some d,.mv (.s m),none⟩
abbrev iL(d m:Nat):I:=⟨some d,.ld (.s m) none,none⟩
abbrev iD(d m k:Nat):I:=⟨some d,.ld (.s m) (some k),none⟩
abbrev iF(d m k:Nat):I:=⟨some d,.fa (.s m) k,none⟩
abbrev iC(d m:Nat):I:=⟨some d,.nc (.s m),none⟩
abbrev iz:V:=.d (.int .i64 0)
abbrev sz:V:=.d (.str [])
class ZA(p:Prop)(q:outParam Prop):Prop where
  go:q->p
instance {p q:Prop}:ZA (Pq p q) p:=⟨tD⟩
instance {p q:Prop}:ZA (Pn p q) q:=⟨AP⟩
instance {K:List Nat×Nat->Prop}:ZA (Bw K) (K ([],0)):=⟨NB⟩
instance {p q:Prop}:ZA (P6 p q) p:=⟨DO⟩
theorem za{p q:Prop}[h:ZA p q](k:q):p:=h.go k
class ZS(p:Prop):Prop where
  w:True
instance {α:Sort _}{a b:α}:ZS (a=b):=⟨trivial⟩
instance {α:Sort _}{a b:α}:ZS (a≠b):=⟨trivial⟩
instance {α:Type _}[LE α]{a b:α}:ZS (a<=b):=⟨trivial⟩
instance {α:Type _}[LT α]{a b:α}:ZS (a<b):=⟨trivial⟩
instance {k n}:ZS (dB k n):=⟨trivial⟩
instance {p:Prop}:ZS (¬p):=⟨trivial⟩
instance {p q:Prop}[ZS p][ZS q]:ZS (p/\q):=⟨trivial⟩
instance {p q:Prop}[ZS p][ZS q]:ZS (p\/q):=⟨trivial⟩
instance {α:Sort _}{p:α->Prop}[∀x,ZS (p x)]:ZS (∀x,p x):=⟨trivial⟩
class ZL(p:Prop)(a b:outParam Prop):Prop where
  go:a->b->p
instance {a b:Prop}[ZS a]:ZL (a/\b) a b:=⟨And.intro⟩
instance {a b q:Prop}[ZS a]:ZL ((a/\b)\/q) a b:=⟨λx y=>.inl ⟨x,y⟩⟩
theorem zl{p a b:Prop}[h:ZL p a b](y:b)(x:a:=by(repeat' apply And.intro)<;>first|rfl|omega|(unfold dB;omega)|(simp;done)|(unfold dB;simp at *;omega)|(simp at *;omega)|(intros;contradiction)):p:=h.go x y
class ZF(p:Prop)(a b:outParam Prop):Prop where
  go:a->b->p
instance {a b:Out}{h k:H}:ZF (a=b/\h=k) (a=b) (h=k):=⟨And.intro⟩
theorem zf{p a b:Prop}[h:ZF p a b](x:a:=by exact rfl)(y:b:=by exact rfl):p:=h.go x y
theorem zg{p a b:Prop}[h:ZF p a b](x:a)(y:b:=by exact rfl):p:=h.go x y
theorem zzz{p:Prop}(h:p:=by repeat' (first|exact trivial|exact rfl|exact Or.inl rfl|refine And.intro ?_ ?_|refine Or.inr ?_)):p:=h
theorem zm{p q:Prop}(k:q)(h:q->p:=by first|exact λk=>zg k|exact And.intro rfl|exact za|exact λk=>da _ _ [] k rfl|exact λk=>a8 (a8 k)|exact λk=>zl k|fail):p:=h k
theorem zc{p q a:Prop}(c:a)(k:q)(h:a->q->p:=by first|exact λc k=>⟨_,c,k⟩|exact λc k=>c.use k|fail):p:=h c k
theorem zB{p q:Prop}(h:p)(k:q):Sw p q:=SX h k
theorem zj0{p:Prop}(h:p:=by repeat' ((conv=>whnf);first|exact zf|refine zm ?_|intro _)):p:=h
theorem zj1{p a:Prop}(u:a)(h:a->p:=by intro u;repeat' ((conv=>whnf);first|exact zf|refine zm ?_|refine zc u ?_|intro _)):p:=h u
theorem zj2{p a b:Prop}(u:a)(v:b)(h:a->b->p:=by intro u v;repeat' ((conv=>whnf);first|exact zf|refine zm ?_|refine zc u ?_|refine zc v ?_|intro _)):p:=h u v
theorem zj3{p a b c:Prop}(u:a)(v:b)(w:c)(h:a->b->c->p:=by intro u v w;repeat' ((conv=>whnf);first|exact zf|refine zm ?_|refine zc u ?_|refine zc v ?_|refine zc w ?_|intro _)):p:=h u v w
theorem zh0{p q:Prop}(k:q)(h:q->p:=by intro k;repeat' ((conv=>whnf);first|exact zf|refine zm ?_|intro _|exact k)):p:=h k
theorem zh1{p q a:Prop}(k:q)(u:a)(h:q->a->p:=by intro k u;repeat' ((conv=>whnf);first|exact zf|refine zm ?_|refine zc u ?_|intro _|exact k)):p:=h k u
theorem zh2{p q a b:Prop}(k:q)(u:a)(v:b)(h:q->a->b->p:=by intro k u v;repeat' ((conv=>whnf);first|exact zf|refine zm ?_|refine zc u ?_|refine zc v ?_|intro _|exact k)):p:=h k u v
theorem zh3{p q a b c:Prop}(k:q)(u:a)(v:b)(w:c)(h:q->a->b->c->p:=by intro k u v w;repeat' ((conv=>whnf);first|exact zf|refine zm ?_|refine zc u ?_|refine zc v ?_|refine zc w ?_|intro _|exact k)):p:=h k u v w
theorem _root_.Go.zx0{p:Prop}(h:p:=by kernel_rfl):p:=h
theorem zi0{k n}{p q:Prop}(y:p)(x:dB k n:=by unfold dB;(try dsimp only);first|omega|decide):dB k n/\p\/q:=.inl ⟨x,y⟩
theorem zr0{α:Sort _}{p:α->Prop}{q:Prop}(h:q):(∃x,p x)\/q:=.inr h
theorem zt{x:Bool}{a b:Prop}(y:a)(h:x=true:=by first|(simp;done)|(simp;omega)|(simp at *;omega)|(exact beq_eq_false_iff_ne.2 (by(try dsimp only);omega))|(exact beq_iff_eq.2 (by(try dsimp only);omega))):sp x a b:=bf h y
theorem zu{x:Bool}{a b:Prop}(y:b)(h:x=false:=by first|(simp;done)|(simp;omega)|(simp at *;omega)|(exact beq_eq_false_iff_ne.2 (by(try dsimp only);omega))|(exact beq_iff_eq.2 (by(try dsimp only);omega))):sp x a b:=bB h y
theorem zk0{p:Prop}(h:p:=by repeat' ((conv=>whnf);first|exact zf|refine zm ?_|refine zt ?_|refine zu ?_|intro _)):p:=h
theorem zk1{p a:Prop}(u:a)(h:a->p:=by intro u;repeat' ((conv=>whnf);first|exact zf|refine zm ?_|refine zc u ?_|refine zt ?_|refine zu ?_|intro _)):p:=h u
theorem zk2{p a b:Prop}(u:a)(v:b)(h:a->b->p:=by intro u v;repeat' ((conv=>whnf);first|exact zf|refine zm ?_|refine zc u ?_|refine zc v ?_|refine zt ?_|refine zu ?_|intro _)):p:=h u v
theorem zk3{p a b c:Prop}(u:a)(v:b)(w:c)(h:a->b->c->p:=by intro u v w;repeat' ((conv=>whnf);first|exact zf|refine zm ?_|refine zc u ?_|refine zc v ?_|refine zc w ?_|refine zt ?_|refine zu ?_|intro _)):p:=h u v w
end Go.Vx
