/- Lemmas. Conditions: none. -/
import Derived.Test.YtjpgfgajkjhonaaGreatDoorQRAN
namespace Go.Vx
section
variable{P:Program}{E:gL}{n:Nat}{G:Nat->Prop}{ρ:List Value}{t:T}{h:H}{a:Act}{w:World}(ow:Nat->Bool)
theorem vM{is:List I}{vs:List V}{t:T}{j:Nat}(z:j<=vs.length)(u:j<=is.length):agree is vs (· < j) t (ug (is.take j) (vs.take j) t):=by
 intro s;rcases A3 (is.take j) (vs.take j) t (by simp;omega) s with⟨k,i,h1,h2,h3⟩|⟨h1,h2⟩
 .have x:k<j:=by
   have:=(aC.1 h1).1;simp at this;omega
  rw[ao,ζ x]at h1 h3;exact .inl ⟨k,i,x,h1,h2,h3⟩
 .refine .inr ⟨λk i x y=>?_,h2⟩;exact h1 k i (by rw[ao,ζ x];exact y)
theorem zE(bs:List (List Nat)):cutAt bs<=bs.length:=by
 unfold cutAt;cases x:(List.range bs.length).find? λm=>lS m (bs.drop m) with
 |none=>exact aM _
 |some m=>
  have:=List.mem_of_find?_eq_some x;rw[cn]at this;exact Nat.le_of_lt this
theorem Hw:∀(t:T)(s:Nat),gs t s=.un\/∃p∈t,p.2=gs t s:=by
 intro t
 induction t with
 |nil=>intro s;exact .inl rfl
 |cons p t x=>
  intro s;rw[gI];cases u:Nat.beq p.1 s
  .rw[ε];rcases x s with h|⟨q,y,z⟩
   .exact .inl h
   .exact .inr ⟨q,by simp[y],z⟩
  .exact .inr ⟨p,by simp,rfl⟩
theorem Py{E:gL}{n:Nat}{K:Ex->T->H->Prop}{e:Exit}{a:Act}{w:World}(h:QK E n (Vg K) e a w):QK E n K e a w:=by
 have⟨G,ρ,t,h,y,x⟩:=h;refine⟨G,ρ,t,h,y,?_⟩;cases e with
 |panic z=>have⟨_,_,_,_,x⟩:=x;exact x.elim
 |_=>exact x
theorem Pr{r:Option Nat}{N:Nat}(hm:P.follows .mixedOrders=true)(hE:E.ρ.length=E.h.length){id:Nat}{ops:Array Oper}{x:C}(d:comp P n (.region id ops true)=some x){K:Ex->T->H->Prop}(L:ak E n G ρ t h a w)
  (z:∀n0,wx (Sat P) ow n0 x t h K):(Code.region id ops true).wpIn (Fw r) N P (QK E n K) a w:=by
 simp only[comp]at d;cases l:ops.toList.all Ae with
 |false=>
  rw[l]at d;cases d;exact(z 0).elim
 |true=>
 rw[l,Bool.not_true,ε]at d;simp only[aI,aD]at d;have⟨is,his,d⟩:=d;split at d
 .rename_i f;cases d;have z:=z 0;simp only[PL]at z;rcases J7 z with z|z
  case inr=>
   generalize U:B9 (ops.toList.map pD)=bs at *;generalize V:cutAt bs=m at *;simp only[aP]at f;have⟨⟨⟨c1,c2⟩,c3⟩,c4⟩:=f;have⟨il,ig⟩:=lK his;have⟨bl,bg⟩:=DO (ops.toList.map pD);rw[U]at bl bg;have M:bs.length=ops.size:=by simpa using bl
   have q:is.length=ops.size:=by simpa using il
   have W:m<=ops.size:=by rw[<-V,<-M];exact zE bs
   have X:((is.zip bs).take m).length=m:=by simp;omega
   rw[X]at z;have D:U9 P n ops is bs m:=by
    refine⟨q,M,W,λj o O=>?_,λj o O=>?_,λj b A k z=>?_,λj b u A i hi=>?_⟩
    .have F:j<is.length:=by rw[q];exact(aQ.1 O).1
     exact⟨is[j],aA F,ig j o _ (by simpa using O) (aA F)⟩
    .exact bg j (pD o) (by rw[aB];simp[O])
    .have:=Gp bs 0 c1 j b A k z;omega
    .exact Cj _ m c3 (j-m) b (by rw[bF];rw[<-A];congr 1;omega) i (by omega)
   rcases J7 z with z|z
   .refine kb CJ (sA l) hm (R8 ow D rfl _ _ _ _ (by simp) ?_ ⟨λj b u=>?_,.inl ⟨[],m,G,ρ,t,h,List.nodup_nil,by simp,λj=>⟨λu=>?_,λu=>by cases u⟩,λj u=>by(cases u),L.grow (gK.draw w _) (λ_ h=>h) (λ_ h=>.inl h),z⟩⟩)
    .rw[Array.toList_replicate];exact aV List.count_le_length (by simp)
    .have:=iw u;simp at this;simp[this]at u
    .have:=iw u;simp at this;simp[this]at u
   .have⟨os,z⟩:=yt z;have⟨G,t,h,vs,L,_,_,z⟩:=sG os.1 G t h [] (λ_=>undef) L (by simp) z;refine wpIn_mono (kb CJ (sA l) hm (NC ow D c4 (λ_ _ _ h=>h) rfl _ _ _ _ (by simp) ?_ ⟨λj b u=>?_,.inl ⟨[],m,G,ρ,t,h,List.nodup_nil,by simp,λj=>⟨λu=>?_,λu=>by cases u⟩,λj u=>by(cases u),L.grow (gK.draw w _) (λ_ h=>h) (λ_ h=>.inl h),z⟩⟩)) λe a w hq=>Py hq
    .rw[Array.toList_replicate];exact aV List.count_le_length (by simp)
    .have:=iw u;simp at this;simp[this]at u
    .have:=iw u;simp at this;simp[this]at u
  have⟨os,z⟩:=yt z;have⟨G,t,h,vs,L,_,_,z⟩:=sG os.1 G t h [] (λ_=>undef) L (by simp) z;generalize U:B9 (ops.toList.map pD)=bs at *;generalize V:cutAt bs=m at *;simp only[aP]at f;have⟨⟨⟨c1,c2⟩,c3⟩,_⟩:=f;have⟨il,ig⟩:=lK his;have⟨bl,bg⟩:=DO (ops.toList.map pD);rw[U]at bl bg;have M:bs.length=ops.size:=by simpa using bl
  have q:is.length=ops.size:=by simpa using il
  have W:m<=ops.size:=by rw[<-V,<-M];exact zE bs
  have g:∀(j:Nat)(x:I)(b:List Nat),j<m->is[j]?=some x->bs[j]?=some b->((is.zip bs).take m)[j]?=some (x,b):=λj x b u d A=>by
   rw[ao,ζ u,List.getElem?_zip_eq_some];exact⟨d,A⟩
  have X:((is.zip bs).take m).length=m:=by simp;omega
  have hq1:∀j,j<=m->(((is.zip bs).take m).take j).map (·.1)=is.take j:=λj u=>by
   rw[List.take_take,mG u,e_];congr 1;exact dr (by omega)
  simp only[bf]at z;generalize PB ((is.zip bs).take m)+os.2=kk at z;have hlo:E.ρ.length<=h.length:=by rw[hE];exact L.ok.hl
  have⟨ρ,L⟩:=L.room kk;generalize hh1:h++List.replicate kk B.nw=Q at *;have⟨rs,tR,hR,hkR,c⟩:=Pl ow _ _ _ _ z;have J:=c.r1;have htR:=c.r2;have hvq:=c.r3;rw[X]at J;have hvl:(rs.map (·.v)).length=m:=by simpa using J
  have S:∀(k:Nat),k<=m->(∀(j:Nat)(r:R),j<k->rs[j]?=some r->(r.ws.map (·.1)).Nodup/\∀w∈r.ws,w.1<Q.length)/\((rs.take k).foldl wr Q).length=Q.length:=by
   intro k
   induction k with
   |zero=>intro _;exact⟨λj r u=>by omega,by simp⟩
   |succ k ih=>
    intro z;have⟨i1,i2⟩:=ih (by omega);have hkb:k<bs.length:=by omega
    have⟨r,v1,v2⟩:=hvq k _ (g k _ _ (by omega) (aA (by omega)) (aA hkb));have hw:=ze.ws ow v2;rw[i2]at hw;refine⟨λj r' u Y=>?_,?_⟩
    .rcases de j k with h0|h0
     .exact i1 j r' h0 Y
     .obtain rfl:j=k:=by omega
      rw[v1]at Y;cases Y;exact hw
    .rw[bc,v1,List.foldl_append];simp only[Option.toList,cQ,List.foldl_nil];rw[(zp hw.1 (by rw[i2];exact hw.2)).1];exact i2
  have D:Rj ow P n ops is bs m h.length rs t Q:=by
   refine⟨q,W,λj o O=>?_,λj o O=>?_,λj b A k z=>?_,λj b u A i hi=>?_,λi j x y bi bj hi u hne d hy hbi hbj=>?_,λj x u d=>?_,J,λj k r r' b u z A Z hcf=>?_,λj r u id hid=>?_⟩
   .have F:j<is.length:=by rw[q];exact(aQ.1 O).1
    exact⟨is[j],aA F,ig j o _ (by simpa using O) (aA F)⟩
   .exact bg j (pD o) (by rw[aB];simp[O])
   .have:=Gp bs 0 c1 j b A k z;omega
   .exact Cj _ m c3 (j-m) b (by rw[bF];rw[<-A];congr 1;omega) i (by omega)
   .exact QT c2 (g i x bi hi d hbi) (g j y bj u hy hbj) hne
   .have hjb:j<bs.length:=by omega
    have⟨v,v1,v2⟩:=hvq j _ (g j x _ u d (aA hjb));rw[hq1 j (by omega),e_]at v2;exact⟨v,_,_,v1,v2,vM (by omega) (by omega),vZ (S j (by omega)).1⟩
   .have hkm:k<m:=by rw[<-J];exact(aC.1 z).1
    have:=c.r6 j k r r' _ u z (g k _ b hkm (aA (by omega)) A) Z hcf;simpa using this
   .have⟨k1,k2,_,k4⟩:=c.r7 j r u id hid;refine⟨λs hs=>?_,k2,λk r' x Z z d=>?_⟩
    .rcases Hw t s with e|⟨p,hp,e⟩
     .rw[e]at hs;cases hs
     .rw[<-e]at hs;exact k1 p hp hs
    .have hkm:k<m:=by rw[<-J];exact(aC.1 z).1
     exact k4 k r' _ Z z (g k x _ hkm d (aA (by omega)))
  have hA:agree is (rs.map (·.v)) (· < m) t tR:=by
   have Q:=vM (is:=is) (vs:=rs.map (·.v)) (t:=t) (j:=m) (by omega) (by omega);have h2:=hq1 m (aM _);rw[List.take_take,Nat.min_self]at h2;intro s;have h3:=htR s;rw[h2]at h3;have h4:(rs.map (·.v)).take m=rs.map (·.v):=cu (by omega);rw[h4]at Q;rw[h3];exact Q s
  have hH:BH rs (· < m) Q hR:=by
   have:=vZ (S m (aM _)).1;rw[cu (by omega)]at this;rw[c.r4];exact this
  refine kb CJ (sA l) hm (JR ow hlo hE D hkR hA hH _ _ _ _ ?_ ⟨by simp,λj b u=>?_,.inl ⟨λj u=>?_,G,ρ,t,Q,L.grow (gK.draw w _) (λ_ h=>h) (λ_ h=>.inl h),λs=>.inr ⟨λk i z=>?_,rfl⟩,rfl,λi=>.inr ⟨λk r w z=>?_,rfl⟩⟩⟩)
  .rw[Array.toList_replicate];exact aV List.count_le_length (by simp)
  .have:=iw u;simp at this;simp[this]at u
  .have:=iw u;simp at this;simp[this]at u
  .have:=iw z;simp at this;simp[this]at z
  .have:=iw z;simp at this;simp[this]at z
 .cases d;exact(z 0).elim
theorem sO(v:V):FL v v:=by
 cases v<;>rfl
theorem F0{x y:V}(h:FL x y):x=y\/∃z,x=.nl z/\y=.d (.sl z []):=by
 unfold FL at h;split at h
 .subst h;exact .inr ⟨_,rfl,rfl⟩
 .exact .inl h
theorem dI.wk{v:Value}{x y:V}(u:dI G w ρ v x)(h:FL x y):dI G w ρ v y:=by
 rcases F0 h with rfl|⟨z,rfl,rfl⟩
 .exact u
 .cases u with
  |k h=>cases h with
   |nl=>exact .k (.d (.xg z))
theorem au.wk{v:Value}{x y:V}(u:au G w ρ v x)(h:FL x y):au G w ρ v y:=by
 rcases F0 h with rfl|⟨z,rfl,rfl⟩
 .exact u
 .cases u with
  |o h=>cases h with
   |c h=>exact .o (.c (h.wk (by rfl)))
theorem Bl:∀{a b:List V},Uf a b->a.length=b.length/\∀(i:Nat)(y:V),b[i]?=some y->∃x,a[i]?=some x/\FL x y
 |[],[],_=>⟨rfl,by simp⟩
 |_::_,[],h=>h.elim
 |[],_::_,h=>h.elim
 |a::r,b::s,h=>by
  have⟨u,v⟩:=h;have⟨g1,c⟩:=Bl v;refine⟨by simp[g1],λi y z=>?_⟩;cases i with
  |zero=>simp at z;subst z;exact⟨a,rfl,u⟩
  |succ i=>simpa using c i y (by simpa using z)
theorem F1{x y:B}(h:K0 x y):x=y\/∃a b,x=.cells a/\y=.cells b/\Uf a b:=by
 unfold K0 at h;split at h
 .rcases h with rfl|h
  .exact .inl rfl
  .exact .inr ⟨_,_,rfl,rfl,h⟩
 .exact .inl h
theorem zx{x y:B}(h:K0 x y):gh x=gh y:=by
 cases x<;>cases y<;>first|rfl|(cases h;done)|(cases h;rfl)
theorem zw{x y:B}(h:K0 x y)(z:y≠.no):x≠.no:=by
 rcases F1 h with rfl|⟨a,b,rfl,rfl,_⟩
 .exact z
 .simp
theorem cY.wk{hd:Value}{x y:B}(z:cY G w ρ hd x)(h:K0 x y):cY G w ρ hd y:=by
 rcases F1 h with rfl|⟨a,b,rfl,rfl,hl⟩
 .exact z
 .have⟨u,arr,ty,v,c,d,e⟩:=z;have⟨g1,f⟩:=Bl hl;refine⟨u,arr,ty,v,c,d.trans g1,λi y g=>?_⟩;have⟨x,j,k⟩:=f i y g;exact(e i x j).wk k
theorem Qq:∀{t s:T},lD t s->∀i,gs s i=.un\/(FL (gs t i) (gs s i)/\∃p∈s,p.2=gs s i):=by
 intro t s
 induction s with
 |nil=>intro _ i;exact .inl rfl
 |cons p s y=>
  intro hs i;have⟨j,v⟩:=p;simp only[lD]at hs;simp only[gI]
  by_cases e:j=i
  .subst e;simp only[fV,δ];exact .inr ⟨hs.1,(j,v),by simp,rfl⟩
  .rw[fm e];rcases y hs.2 i with x|⟨x,p,z,u⟩
   .exact .inl x
   .exact .inr ⟨x,p,by simp[z],u⟩
theorem Ff:∀{h s:H},lE h s->s.length<=h.length/\∀(i:Nat)(x:B),s[i]?=some x->x=.no\/∃y,h[i]?=some y/\K0 y x:=by
 intro h
 induction h with
 |nil=>
  intro s hs;cases s with
  |nil=>simp
  |cons=>exact hs.elim
 |cons b h d=>
  intro s hs;cases s with
  |nil=>simp
  |cons c s=>
   have v:lE h s/\(c=.no\/K0 b c):=by
    cases c with
    |no=>exact⟨hs,.inl rfl⟩
    |_=>exact⟨hs.2,.inr hs.1⟩
   have⟨f,e⟩:=d v.1;refine⟨by simp;omega,λi x z=>?_⟩;cases i with
   |zero=>
    simp at z;subst z;rcases v.2 with u|u
    .exact .inl u
    .exact .inr ⟨b,by simp,u⟩
   |succ i=>simpa using e i x (by simpa using z)
theorem ak.Nk(z:ak E n G ρ t h a w)(hE:E.ρ.length=E.h.length){s1:T}{s2:H}(L:∀i,gs s1 i=.un\/(FL (gs t i) (gs s1 i)/\∃p∈s1,p.2=gs s1 i))(M:lE h s2)(hl:yb E.h.length s1 s2=true):∃ρ',ρ'=ρ.take s2.length/\ak E n G ρ' s1 s2 a w:=by
 have⟨h1,g⟩:=Ff M;simp only[yb,aP,aS]at hl;have⟨⟨o,N⟩,O⟩:=hl;have o:=bA o;have hr:=z.ok.hr;have Q:=hr.len;have l:∀(i:Nat)(v:Value),(ρ.take s2.length)[i]?=some v->ρ[i]?=some v:=λi v d=>by
  rw[ao]at d;split at d
  .exact d
  .cases d
 have c:∀i,i<s2.length->(ρ.take s2.length)[i]?=ρ[i]?:=λi d=>by rw[ao,ζ d]
 have q:∀b,own (ρ.take s2.length) s2 b->own ρ h b:=by
  rintro b ⟨i,v,x,g1,u,g3,m⟩
  have⟨y,s,y2⟩:=(g i x u).resolve_left g3;rw[eU,<-zx y2]at m;exact⟨i,v,y,l i v g1,s,zw y2 g3,m⟩
 refine⟨ρ.take s2.length,rfl,⟨⟨by simp;omega,λi v x g1 u=>?_,λi A v v' x R b g1 u g3 m S I J K=>?_,hr.gl,λb B C=>hr.gd b B (q b C),hr.sF⟩,z.ok.gm,z.ok.go,λb B=>z.ok.oo b (q b B),z.ok.frame,z.ok.size,z.ok.os,z.ok.tape,
  z.ok.out,λi v g1 u=>?_,o,λr hr=>let⟨U,V,W⟩:=z.ok.sC r hr;⟨U,V,λX=>W (q r X)⟩⟩,z.df,z.sz,λi=>?_⟩
 .rcases g i x u with rfl|⟨y,Y,Z⟩
  .trivial
  .exact((hr.rep i v y (l i v g1) Y).wk Z).mono (λ_ h=>h) (λ_ _=>rfl) (λ_ _=>rfl) (λj D=>c j ((fH ..).mp (O x (aJ u) j D)))
 .have⟨y,s,y2⟩:=(g i x u).resolve_left g3;have⟨y',F,f⟩:=(g A R S).resolve_left I;rw[eU,<-zx y2]at J;rw[eU,<-zx f]at K;exact hr.oB i A v v' y y' b (l i v g1) s (zw y2 g3) (l A v' m) F (zw f I) J K
 .have:=z.ok.hand i v g1 u;rw[c i]
  .exact this
  .have:=(aC.1 g1).1;omega
 .rcases L i with e|⟨e,p,p1,p2⟩
  .rw[e];exact .k (.un _)
  .refine((z.tm i).wk e).mono (λ_ h=>h) (λ_ _=>rfl) (λj D=>c j ?_);have:=N p p1 j (by rw[p2];exact D);exact(fH ..).mp this
theorem ak.less(x:ak E n G ρ t h a w)(y:E.ρ.length=E.h.length){s1:T}{s2:H}(z:lD t s1)(u:lE h s2)(hl:yb E.h.length s1 s2=true):∃ρ',ρ'=ρ.take s2.length/\ak E n G ρ' s1 s2 a w:=
 x.Nk y (Qq z) u hl
theorem ak.Tx(x:ak E n G ρ t h a w)(y:E.ρ.length=E.h.length){s2:H}(z:lE h s2)(hl:yb E.h.length t s2=true):∃ρ',ρ'=ρ.take s2.length/\ak E n G ρ' t s2 a w:=
 x.Nk y (λi=>(Hw t i).imp (λh=>h) λ⟨p,u,v⟩=>⟨sO _,p,u,v⟩) z hl
end
section
variable{P:Program}{E:gL}{n:Nat}{G:Nat->Prop}{ρ:List Value}{t:T}{h:H}{a:Act}{w:World}(ow:Nat->Bool)
theorem Ok.self(hr:HR G w ρ h){ds:List Deferred}{ms:List Nat}(x:∀r∈ms,w.heap[r]?=some (.deferred (some []))/\¬G r/\¬own ρ h r):Ok ⟨w,G,ρ,h,ds,ms⟩ G w ρ h:=
 ⟨hr,λ_ h=>h,λ_ h=>.inl h,λ_ h=>.inr h,λ_ _ _=>rfl,aM _,rfl,rfl,rfl,λ_ _ h _=>h,aM _,x⟩
theorem GG{ca cb:Code}{xa xb:C}(hA:WK P ow n ca xa)(hB:WK P ow n cb xb){T0:T}(hC:ak E n G ρ T0 h a w){l:Nat}{rec:Loop}(hl:w.heap[l]?=some (.loop rec))(hrec:rec.state=.ready)
  (hEl:E.w.heap.size<=l) (hEG:¬E.G l) (hst:(T0.all λp=> !(KH p.2))=true) {ps:List Nat} {row:List D} (hps:∀p∈ps,p<n) (hrow:∀d∈row,S7 d) {KB:Ex->H->Prop} (hpan:∀v h,¬KB (.fg v) h)
  (hk:wx (Sat P) ow h.length xa (Ry ps row T0) h λe t h=>match e with
   |.p7=>wx (Sat P) ow h.length xb t h λe _ h=>KB e h
   |_=>False) {R:Ending->World->Prop}
  (hR1:∀(G':Nat->Prop)(ρ':List Value)(h':H)(w':World),ak E n G' ρ' T0 h' a w'->w'.heap[l]?=some (.loop {rec with state:=.ready,pending:=none})->lV G w ρ G' w' ρ'->KB .p7 h'->R (.returned (.bool true)) w')
  (hR2:∀(G':Nat->Prop)(ρ':List Value)(h':H)(w':World)(c:Code),ak E n G' ρ' T0 h' a w'->w'.heap[l]?=some (.loop {rec with state:=.done,pending:=some c})->((c=.ret/\KB .ret h')\/∃j,c=.exit j/\KB (.ext j) h')->R (.returned (.bool false)) w') :
  ca.wpIn (Fw (some l)) 0 P (Exit.then (λa₁ w₁ =>∃w₂,(Instr.beginRound l).run P w₁=.ok () w₂/\cb.wpIn (Fw (some l)) 0 P (roundPost P l R) a₁ w₂) (λ_ _ _=>False))
   {tmps:=(ps.zip (row.map rW)).foldl (λt(p,v)=>t.setIfInBounds p v) a.tmps,defers:=[]} w:=by
 have hr:=hC.ok.hr;have hrl:CI w l:=.inl ⟨_,hl⟩;have hGl:¬G l:=hC.ok.ng hrl hEG;have hml:∀r∈E.ms,r∈E.ms/\r≠l:=λr hr=>⟨hr,λe=>by
  subst e;have:=(hC.ok.sC r hr).1
  grind⟩
 have hC1:ak ⟨w,G,ρ,h,[],E.ms⟩ n G ρ (Ry ps row T0) h {tmps:=(ps.zip (row.map rW)).foldl (λt(p,v)=>t.setIfInBounds p v) a.tmps,defers:=[]} w:=
  ⟨.self hr hC.ok.sC,rfl,(Ea _ _).trans hC.sz,Qb ps row T0 a.tmps (λp hp=>by rw[hC.sz];grind) hrow hC.tm⟩
 refine wpIn_mono (hA (some l) 0 ⟨w,G,ρ,h,[],E.ms⟩ hr.len (λl' e=>by cases e;exact⟨⟨_,hl⟩,hr.Ad hrl⟩) G ρ _ _ _ _ _ hC1 hk) ?_
 rintro e a1 w1 ⟨E1,⟨l1,rfl,_,_⟩,_,G1,ρ1,t1,h1,hC2,hk2⟩
 cases e with
 |normal=>
  have hl1:w1.heap[l]?=some (.loop rec):=(hC2.ok.frame l hrl.lt (hr.Ad hrl)).trans hl;have hrl1:CI w1 l:=.inl ⟨_,hl1⟩;refine⟨_,run_beginRound hl1 hrec,?_⟩;have hG1:¬G1 l:=hC2.ok.ng hrl1 hGl;have hOa:Ok E G1 w1 ρ1 h1:=hC.ok.comp (λr hr=>by grind) hC2.ok;have hOb:Ok E G1 (w1.putObj l (.loop {rec with state:=.busy})) ρ1 h1:=hOa.G0 hrl1 hEl hG1 hml _;have hSa:lV G w ρ G1 w1 ρ1:=hC2.ok.stay hr;have hl2:(w1.putObj l (.loop {rec with state:=.busy})).heap[l]?=some (.loop {rec with state:=.busy}):=World.putObj_heap_same hrl1.lt;have hrl2:CI (w1.putObj l (.loop {rec with state:=.busy})) l:=.inl ⟨_,hl2⟩;have hSb:lV G w ρ G1 (w1.putObj l (.loop {rec with state:=.busy})) ρ1:=hSa.trans (.put hG1 _);have hC3:ak ⟨w1.putObj l (.loop {rec with state:=.busy}),G1,ρ1,h1,a1.defers,E.ms⟩ n G1 ρ1 t1 h1 a1 (w1.putObj l (.loop {rec with state:=.busy})):=
   ⟨.self hOb.hr hOb.sC,rfl,hC2.sz,λi=>pU (hC2.tm i) hG1 _⟩
  generalize w1.putObj l (.loop {rec with state:=.busy})=w2 at *;refine wpIn_mono (hB (some l) 0 ⟨w2,G1,ρ1,h1,a1.defers,E.ms⟩ hOb.hr.len (λl' e=>by cases e;exact⟨⟨_,hl2⟩,hOb.hr.Ad hrl2⟩) G1 ρ1 _ _ _ _ _ hC3 hk2) ?_
  rintro e a2 w3 ⟨E2,⟨l2,rfl,_,_⟩,_,G2,ρ2,t2,h2,hC4,hk4⟩
  have hl3:w3.heap[l]?=some (.loop {rec with state:=.busy}):=(hC4.ok.frame l hrl2.lt (hOb.hr.Ad hrl2)).trans hl2;have hrl3:CI w3 l:=.inl ⟨_,hl3⟩;have hG2:¬G2 l:=hC4.ok.ng hrl3 hG1;have hOc:Ok E G2 w3 ρ2 h2:=hOb.comp (λr hr=>by grind) hC4.ok;have hSc:∀o,lV G w ρ G2 (w3.putObj l o) ρ2:=λo=>(hSb.trans (hC4.ok.stay hOb.hr)).trans (.put hG2 _);have fin:∀o,ak E n G2 ρ2 T0 h2 a (w3.putObj l o):=λo=>⟨hOc.G0 hrl3 hEl hG2 hml _,hC.df,hC.sz,λi=>(hSc o).rep (hC.tm i) (MI hst i)⟩
  have hsame:∀o,(w3.putObj l o).heap[l]?=some o:=λo=>World.putObj_heap_same hrl3.lt;cases e with
  |normal=>exact⟨_,_,run_endRound none hl3,hR1 G2 ρ2 h2 _ (fin _) (hsame _) (hSc _) hk4⟩
  |ret=>exact⟨_,_,run_endRound (some .ret) hl3,hR2 G2 ρ2 h2 _ .ret (fin _) (hsame _) (.inl ⟨rfl,hk4⟩)⟩
  |exit j=>exact⟨_,_,run_endRound (some (.exit j)) hl3,hR2 G2 ρ2 h2 _ (.exit j) (fin _) (hsame _) (.inr ⟨j,rfl,hk4⟩)⟩
  |panic ch=>grind
  |goto l=>grind
  |outgrown=>grind
 |panic ch=>grind
 |exit j=>grind
 |ret=>grind
 |goto l=>grind
 |outgrown=>grind
theorem uD{r:Option Nat}(hrd:PG r E){T0:T}(hC:ak E n G ρ T0 h a w)(fn:FuncId)(ps:Array Tmp)(ca cb:Code) :
    ∃(l dd:Nat) (mark:List Deferred) (w1:World) (rec:Loop) (E1:gL),(Instr.enterLoop fn a.tmps ps ca cb r).run P w = .ok (l,mark) w1∧rec={ state:=.ready,pending:=none,fn,tmps:=a.tmps,params:=ps,assign:=ca,body:=cb,defers:=dd } ∧
      w1.heap[l]?=some (.loop rec)/\w.heap.size<=l/\gK w w1/\mR E E1/\ak E1 n G ρ T0 h {a with defers:=mark++a.defers} w1:=by
  cases r with
  |none=>
    have hg:∀rec,gK w ((w.alloc (.deferred (some []))).alloc (.loop rec)):=λrec=>(gK.alloc w _).trans (gK.alloc _ _)
    refine⟨w.heap.size+1,w.heap.size,_,_,_,{E with ds:=[w.heap.size].map Tn++E.ds,ms:=[w.heap.size]++E.ms},run_enterLoop_outer fn a.tmps ps ca cb,rfl,?_,by omega,hg _,⟨_,rfl,λhn=>?_,λr hr=>?_⟩,?_⟩
    · have:=World.alloc_heap_new (w.alloc (.deferred (some []))) (.loop {state:=.ready,pending:=none,fn,tmps:=a.tmps,params:=ps,assign:=ca,body:=cb,defers:=w.heap.size})
      simp_all
    · refine cm.2 ⟨λhm=>?_,hn⟩
      have:=(aQ.1 (hC.ok.sC _ hm).1).1
      omega
    · simp at hr;subst hr;exact hC.ok.size
    · have h1:=hC.grow (G':=G) (hg {state:=.ready,pending:=none,fn,tmps:=a.tmps,params:=ps,assign:=ca,body:=cb,defers:=w.heap.size}) (λ_ h=>h) (λ_ h=>.inl h)
      refine⟨⟨h1.ok.hr,h1.ok.gm,h1.ok.go,h1.ok.oo,h1.ok.frame,h1.ok.size,h1.ok.os,h1.ok.tape,h1.ok.out,h1.ok.hand,h1.ok.hl,λr hr=>?_⟩,?_,h1.sz,h1.tm⟩
      · rcases aR.1 hr with hr|hr
        · simp at hr;subst hr
          refine⟨?_,λhG=>?_,λho=>?_⟩
          · exact((gK.alloc _ _).iE w.heap.size (by simp)).trans (World.alloc_heap_new w _)
          · have:=hC.ok.hr.gl _ hG;omega
          · have:=hC.ok.hr.yP ho;omega
        · exact h1.ok.sC r hr
      · simp[hC.df,Tn]
  |some l0=>
    have⟨⟨r0,h0⟩,h2⟩:=hrd l0 rfl
    have hl0:w.heap[l0]?=some (.loop r0):=(hC.ok.frame l0 (aQ.1 h0).1 h2).trans h0
    refine⟨w.heap.size,r0.defers,[],_,_,E,run_enterLoop_inner hl0 fn a.tmps ps ca cb,rfl,World.alloc_heap_new w _,aM _,gK.alloc w _,.refl E,?_⟩
    exact hC.grow (gK.alloc w _) (λ_ h=>h) (λ_ h=>.inl h)
theorem FA{f:Nat}(h:eo P f=true):f<P.funcs.size:=by
 unfold eo at h
 grind
theorem Sd{r:Option Nat}{N:Nat}(hE:E.ρ.length=E.h.length)(hrd:PG r E){ca cb:Code}{xa xb:C}(hA:WK P ow n ca xa)(hB:WK P ow n cb xb){g:Operand}{og:O}(hg:cX P 0 g=some og){ps:Array Tmp}(hps:∀p∈ps.toList,p<n)
  (hP:P.funcs.size<=5000000) {b:Bool} (hb:b=false) {K:Ex->T->H->Prop} (hC:ak E n G ρ t h a w) (hk:wx (Sat P) ow E.h.length (.rf og ps.toList xa xb) t h K):(Code.rangeFunc g ps ca cb).wpIn (Fw r) N P (QM b E n K) a w:=by
 subst hb;rw[SJ]at hk;unfold Sb at hk;have⟨f,caps,ids,T0,A,I,Hs,x0,n1,z,xs,⟨hgv,hf,hchk,hcs,hpl⟩,hS,⟨hz,hxs⟩,⟨hs1,⟨BF,hs2⟩,hs3⟩,hH,hRd,hD⟩:=hk;have hf:=(fH ..).mp hf;have hz:=kH hz;obtain⟨z',hI⟩:∃z':Nat,zZ P f (caps.map (wW (pos ids))) (ids.map λi=>eR (pos ids) ((get? h i).getD .no)) xs:=by
  rcases hS with h1|⟨_,z',xs',h1,h2⟩
  .have:=FA h1.ok;omega
  simp_all
 have⟨ρ0,hρ0,hC0⟩:=hC.less hE hs1 hs2 (hH x0).2.1;simp only[FQ,aP,aS]at hchk;have⟨⟨c1,c2⟩,c3⟩:=hchk;have hgetH:∀(i:A),∀j∈ids,get? (Hs i) j=get? h j:=λi j hj=>List.map_inj_left.1 (hH i).2.2 j hj;have hcell:∀j∈ids,∃cs,h[j]?=some (.cells cs)/\(cs.all λx=> !(NT x))=true:=λj hj=>by
  have:=aS.1 hpl j hj;rw[get?_eq]at this;cases hc:h[j]? with
  |none=>simp_all
  |some x=>
   rw[hc]at this;cases x<;>first|exact⟨_,rfl,this⟩|cases this
 have hid:∀j∈ids,j<n1:=λj hj=>by
  have⟨cs,h1,_⟩:=hcell j hj;have:=hgetH x0 j hj;rw[get?_eq,get?_eq,h1]at this
  grind
 have hρ0':∀j∈ids,ρ0[j]?=ρ[j]?:=λj hj=>by grind
 have hnsl:∀j∈ids,∃u,ρ0[j]?=some u/\kN u=false:=λj hj=>by
  have⟨cs,h1,_⟩:=hcell j hj;have hjl:=hid j hj;have hl0:ρ0.length=n1:=by rw[hC0.ok.hr.len,(hH x0).1]
  refine⟨ρ0[j],aA (by omega),?_⟩;have hx:(Hs x0)[j]?=some (.cells cs):=by rw[<-get?_eq,hgetH x0 j hj,get?_eq,h1]
  have⟨bb,arr,ty,e,_⟩:=hC0.ok.hr.rep j _ _ (aA (by omega)) hx;rw[e];rfl
 have hv:=bG hC hg;rw[hgv]at hv;obtain⟨cs,hfc,jb,hcr⟩:∃cs:Array Value,JJ f (a.eval g) cs/\cs.size=caps.length/\∀(i:Nat)(x:V),caps[i]?=some x->dL G w ρ (cs.getD i undef) x:=by
  generalize a.eval g=v at hv;cases hv with
  |o h=>cases h with
   |c h=>cases h with
    |k h=>cases h
    |fc _ _ cs _ g1 g2 g3=>grind
 have hfv:=uB hfc hf;have hmem:∀(i:Nat)(x:V),caps[i]?=some x->∀j∈ij x,j∈ids:=λi x hx j hj=>cK.1 (c3 j (aO.2 ⟨x,aJ hx,hj⟩));have hcr0:∀(i:Nat)(x:V),caps[i]?=some x->dL G w ρ0 (cs.getD i undef) x:=λi x hx=>(hcr i x hx).mono (λ_ h=>h) (λ_ _=>rfl) (λj hj=>hρ0' j (hmem i x hx j hj));have hcsl:∀(i:Nat)(x:V),caps[i]?=some x->NS x=false:=λi x hx=>by
  grind
 refine wpIn_rangeFunc λfn _=>?_;have⟨l,dd,mark,w1,rec,E1,hent,hrec,hl,hlw,hgr,hM,hC1⟩:=uD (P:=P) hrd hC0 fn ps ca cb;refine⟨l,mark,w1,{target:=.fn (.func f) cs,args:= #[.func (.yield l) #[] #[]]},w1,f,#[.func (.yield l) #[] #[]]++cs,w1,hent,?_,λ_ _=>trivial,?_,Fw.depth _ _,?_⟩
 .simp only[resolve,hfv];simp[go_sem]
 .have:=gC (P:=P) (w:=w1) (as:= #[.func (.yield l) #[] #[]]++cs) hI.ok
  assumption
 have hSt0:lV G w ρ0 G w1 ρ0:=⟨λb hb=>⟨hb,hgr.iE b (hC0.ok.hr.gl b hb)⟩,λ_ _ h _=>h⟩
 have hE1w:E1.w=E.w:=hM.ew;have hEl:E1.w.heap.size<=l:=by rw[hE1w];exact aV hC.ok.size hlw
 have hEG:¬E1.G l:=by
  rw[hM.eG];intro h1;have:=hC.ok.hr.gl l (hC.ok.gm l h1);omega
 generalize ha':({a with defers:=mark++a.defers}:Act)=a' at *;have ha't:a'.tmps=a.tmps:=by grind
 have hrunI:=hI.run (ids.map λj=>(ρ0[j]?).getD undef) cs.toList l
  (λi W=>∃(x:A)(G':Nat->Prop)(ρ':List Value),I i x/\ak E1 n G' ρ' T0 (Hs x) a' W/\lV G w1 ρ0 G' W ρ'/\W.heap[l]?=some (.loop rec))
  (λW=>∃(c:Code)(G':Nat->Prop)(ρ':List Value)(h':H),ak E1 n G' ρ' T0 h' a' W/\W.heap[l]?=some (.loop {rec with state:=.done,pending:=some c})/\((c=.ret/\K .ret T0 h')\/∃j,c=.exit j/\K (.ext j) T0 h'))
  (by grind) ?_ ?_ ?_ ?_ w1 ⟨x0,G,ρ0,BF,hC1,.refl,hl⟩
 .have hrun2:CallsIn (Fw r) (N-1) P f (#[.func (.yield l) #[] #[]]++cs) w1 _:=uJ (tg (by rw[cr]at hrunI;exact hrunI));refine hrun2.mono ?_
  rintro e W ⟨⟨v,rfl⟩,⟨x,G',ρ',hi,hc,hs,hlr⟩|⟨c,G',ρ',h',hc,hlr,hj⟩⟩
  .have hrc:CI W l:=.inl ⟨_,hlr⟩;have hng:=hc.ok.ng hrc hEG;have hml:∀r∈E1.ms,r∈E1.ms/\r≠l:=λr hr=>⟨hr,λe=>by
    subst e;have:=(hc.ok.sC r hr).1
    grind⟩
   have hend:=run_endLoop (P:=P) hlr (by grind);have hpe:rec.pending=none:=by grind
   rw[hpe]at hend;refine⟨none,_,hend,?_⟩
   .exact⟨E1,hM,nofun,G',ρ',T0,Hs x,⟨hc.ok.G0 hrc hEl hng hml _,hc.df,hc.sz,λi=>pU (hc.tm i) hng _⟩,hD x hi⟩
  .have hrc:CI W l:=.inl ⟨_,hlr⟩;have hng:=hc.ok.ng hrc hEG;have hml:∀r∈E1.ms,r∈E1.ms/\r≠l:=λr hr=>⟨hr,λe=>by
    subst e;have:=(hc.ok.sC r hr).1
    grind⟩
   have hc2:∀o,ak E1 n G' ρ' T0 h' a' (W.putObj l o):=λo=>⟨hc.ok.G0 hrc hEl hng hml _,hc.df,hc.sz,λi=>pU (hc.tm i) hng _⟩
   refine⟨some c,_,run_endLoop (P:=P) hlr (by simp),?_⟩;rcases hj with⟨rfl,hj⟩|⟨j,rfl,hj⟩
   .exact wpIn_ret ⟨E1,hM,nofun,G',ρ',T0,h',hc2 _,hj⟩
   .exact wpIn_exit ⟨E1,hM,nofun,G',ρ',T0,h',hc2 _,hj⟩
 .rintro i W W' ⟨x,G',ρ',hi,hc,hs,hlr⟩ hgw
  exact⟨x,G',ρ',hi,hc.grow hgw (λ_ h=>h) (λ_ h=>.inl h),hs.trans ⟨λb hb=>⟨hb,hgw.iE b (hc.ok.hr.gl b hb)⟩,λ_ _ h _=>h⟩,(hgw.iE l (aQ.1 hlr).1).trans hlr⟩
 .rintro W W' ⟨c,G',ρ',h',hc,hlr,hj⟩ hgw
  exact⟨c,G',ρ',h',hc.grow hgw (λ_ h=>h) (λ_ h=>.inl h),(hgw.iE l (aQ.1 hlr).1).trans hlr,hj⟩
 .rintro i W ⟨x,G',ρ',_,hc,hs,hlr⟩
  have hρj:∀j∈ids,ρ'[j]?=ρ0[j]?:=λj hj=>by
   have⟨u,h1,h2⟩:=hnsl j hj;rw[h1];exact hs.2 j u h1 h2
  have hlen:∀j∈ids,j<(Hs x).length:=λj hj=>by grind
  have hcl2:∀j∈ids,∀y,(Hs x)[j]?=some y->∀k∈eZ y,k∈ids:=λj hj y hx k hk=>by
   have:=(c2 j hj).2 k;rw[<-hgetH x j hj,get?_eq,hx]at this;exact cK.1 (this hk)
  have⟨p1,_⟩:=hc.ok.hr.part (iH c1) hlen hcl2;refine⟨G',?_,λj y hx=>?_⟩
  .have e1:(ids.map λj=>(ρ'[j]?).getD undef)=ids.map λj=>(ρ0[j]?).getD undef:=aZ λj hj=>by grind
   have e2:(ids.map λj=>eR (pos ids) ((get? (Hs x) j).getD .no))=ids.map λj=>eR (pos ids) ((get? h j).getD .no):=aZ λj hj=>by grind
   grind
  .rw[aB,aG]at hx;obtain⟨y0,hx0,rfl⟩:=hx;have h1:=(hSt0.trans hs).VY (hcr0 j y0 hx0) (hcsl j y0 hx0);have h2:cs.toList.getD j undef=cs.getD j undef:=by simp_all
   rw[h2];have h3:=h1.pL (ρ':=ids.map λj=>(ρ0[j]?).getD undef) (f:=pos ids) (λk hk=>by
    have hkm:=hmem j y0 hx0 k hk;have⟨u,g1,_⟩:=hnsl k hkm;rw[aB,iA hkm,bE,hρj k hkm,g1];rfl)
   exact .o (.c (.k h3))
 .rintro i row W hrow ⟨x,G',ρ',hi,hc,hs,hlr⟩
  have hrow2:=hxs row (aJ hrow);have hy:=run_yield (P:=P) (args:=(row.map rW).toArray) hlr (by grind);have hfold:(ps.zip (row.map rW).toArray).foldl (λtmps(x:Tmp×Value)=>tmps.setIfInBounds x.1 x.2) a.tmps=(ps.toList.zip (row.map rW)).foldl (λt(p,v)=>t.setIfInBounds p v) a'.tmps:=by
   rw[ha't,<-Array.foldl_toList,Array.toList_zip]
  have hy':(Instr.yield l (row.map rW).toArray).run P W=.ok (.round l fn ((ps.zip (row.map rW).toArray).foldl (λtmps(x:Tmp×Value)=>tmps.setIfInBounds x.1 x.2) a.tmps) ca cb) W:=by
   grind
  refine⟨fn,_,ca,cb,hy',?_⟩;have hb:=GG (R:=λe W2=>(e=.returned (.bool true)/\∃(x:A)(G':Nat->Prop)(ρ':List Value),I (i+1) x/\ak E1 n G' ρ' T0 (Hs x) a' W2/\lV G w1 ρ0 G' W2 ρ'/\W2.heap[l]?=some (.loop rec))\/(e=.returned (.bool false) /\
    ∃(c:Code)(G':Nat->Prop)(ρ':List Value)(h':H),ak E1 n G' ρ' T0 h' a' W2/\W2.heap[l]?=some (.loop {rec with state:=.done,pending:=some c})/\((c=.ret/\K .ret T0 h')\/∃j,c=.exit j/\K (.ext j) T0 h')))
   (KB:=λe h=>match e with
    |.p7=>∃y,I (i+1) y/\lE h (Hs y)
    |.ext j=>K (.ext j) T0 h
    |.ret=>K .ret T0 h
    |.fg _=>False) ow hA hB hc hlr (by grind) hEl hEG hs3 hps hrow2.2 (λ_ _ h=>h) (by rw[(hH x).1];exact hRd i row x hrow hi)
   (λG2 ρ2 h2 W2 g1 g2 g3 ⟨y,hy1,g4⟩=>by
    have hle:yb E1.h.length T0 (Hs y)=true:=by rw[hM.eh];grind
    have⟨ρ3,e3,g5⟩:=g1.Tx (by rw[hM.er,hM.eh];grind) g4 hle;refine .inl ⟨rfl,y,G2,ρ3,hy1,g5,⟨λb hb=>(hs.trans g3).1 b hb,λj u hj hu=>?_⟩,by grind⟩;have hjl:j<(Hs y).length:=by
     grind
    rw[e3,ao,ζ hjl];exact(hs.trans g3).2 j u hj hu)
   (λG2 ρ2 h2 W2 c g1 g2 g3=>.inr ⟨rfl,c,G2,ρ2,h2,g1,g2,g3⟩)
  refine roundIn_of_wpIn trivial ?_;show ca.wpIn (Fw (some l)) 0 P _ {tmps:=(ps.zip (row.map rW).toArray).foldl (λtmps(x:Tmp×Value)=>tmps.setIfInBounds x.1 x.2) a.tmps,defers:=[]} W;rw[hfold];exact hb
theorem SK(hm:P.follows .mixedOrders=true):∀(c:Code)(x:C),comp P n c=some x->WK P ow n c x:=by
 intro c
 induction c with
 |skip=>
  intro x u r N E D j G ρ t h a w K q k;cases u;exact wpIn_skip (.of ⟨G,ρ,t,h,q,k⟩)
 |region id ops draw=>
  intro x u r N E D j G ρ t h a w K q k;cases draw with
  |false=>
   simp only[comp]at u;cases L:ops.toList.all Ae with
   |false=>
    rw[L]at u;cases u;exact k.elim
   |true=>
    rw[L,δ]at u;simp only[aG]at u;obtain⟨is,W,rfl⟩:=u;exact wpIn_mono (Dt CJ (sA L) (Pv ow _ _ W G ρ t h a w q k)) λ_ _ _=>.of
  |true=>
   refine wpIn_mono (Pr ow hm D u q λn0=>?_) λ_ _ _=>.of;simp only[comp]at u;cases L:ops.toList.all Ae with
   |false=>
    rw[L]at u;cases u;exact k.elim
   |true=>
    rw[L,Bool.not_true,ε]at u;simp only[aI,aD]at u;have⟨is,W,u⟩:=u;split at u
    .cases u;exact k
    .cases u;exact k.elim
 |seq c d O Q=>
  intro x u r N E D j G ρ t h a w K q k;simp only[comp,aI,aD,aE]at u;obtain⟨y,U,z,X,rfl⟩:=u;simp only[PK]at k;refine wpIn_seq (wpIn_mono (O y U r N E D j G ρ t h a w _ q k) λe a' w' M=>?_);have⟨E1,o,s,G',ρ',t',F,f,v⟩:=M;have S:wg (.seq c d)=true->E1=E:=λh=>s (by simp only[wg,aP]at h;grind);cases e with
  |normal=>
   refine wpIn_mono (Q z X r N E1 (by rw[o.er,o.eh];grind) (j.mk o) G' ρ' t' F a' w' K f (by rw[o.eh];exact v)) λe a'' w'' M=>?_;have⟨E2,V,R,M⟩:=M;exact⟨E2,o.trans V,λh=>by simp only[wg,aP]at h;grind,M⟩
  |exit id=>exact⟨E1,o,S,G',ρ',t',F,f,v⟩
  |ret=>exact⟨E1,o,S,G',ρ',t',F,f,v⟩
  |panic ch=>exact⟨E1,o,S,G',ρ',t',F,f,v⟩
  |goto l=>grind
  |outgrown=>grind
 |cond c x y O Q=>
  intro z X r N E D j G ρ t h a w K q k;simp only[comp,aI,aD,aE]at X;obtain⟨oc,Y,x',u,y',U,rfl⟩:=X;simp only[KV]at k;split at k
  .rename_i b hb;have hv:=(hb ▸ bG q Y).bool;cases b
   .exact wpIn_cond_false hv (wpIn_mono (Q y' U r N E D j G ρ t h a w K q k) λ_ _ _ ⟨E1,o,s,M⟩=>⟨E1,o,λh=>s (by simp only[wg,aP]at h;grind),M⟩)
   .exact wpIn_cond_true hv (wpIn_mono (O x' u r N E D j G ρ t h a w K q k) λ_ _ _ ⟨E1,o,s,M⟩=>⟨E1,o,λh=>s (by simp only[wg,aP]at h;grind),M⟩)
  grind
 |block id c Z=>
  intro x u r N E D j G ρ t h a w K q k;simp only[comp,aI,aD,aE]at u;obtain⟨y,U,rfl⟩:=u;simp only[FX]at k;refine wpIn_block (wpIn_mono (Z y U r N E D j G ρ t h a w _ q k) λe a' w' M=>?_);have⟨E1,o,s,G',ρ',t',F,f,v⟩:=M;cases e with
  |normal=>exact⟨E1,o,s,G',ρ',t',F,f,v⟩
  |exit i=>
   simp only at v;unfold Exit.inBlock;simp only
   by_cases e:i=id
   .rw[ζ e];rw[e,fV]at v;exact⟨E1,o,s,G',ρ',t',F,f,v⟩
   .rw[η e];rw[fm e]at v;exact⟨E1,o,s,G',ρ',t',F,f,v⟩
  |ret=>exact⟨E1,o,s,G',ρ',t',F,f,v⟩
  |panic ch=>exact⟨E1,o,s,G',ρ',t',F,f,v⟩
  |goto l=>grind
  |outgrown=>grind
 |loop c Z=>
  intro x u r N E D j G ρ t h a w K q k;simp only[comp,aI,aD,aE]at u;obtain⟨y,U,rfl⟩:=u;simp only[KU,lx]at k;have⟨A,I,S1,S2,m,x,⟨i1,i2,i3,i4⟩,k⟩:=k;have⟨ρ1,_,hC1⟩:=q.less D i2 i3 i4;refine zq (λx a w=>I x/\∃E1 G ρ,mR E E1/\(wg c=true->E1=E)/\ak E1 n G ρ (S1 x) (S2 x) a w) m x ⟨i1,E,G,ρ1,.refl E,λ_=>rfl,hC1⟩ λx a w hI=>?_;have⟨hI,E1,G,ρ,o,hb,q⟩:=hI;have hE1:E1.ρ.length=E1.h.length:=by rw[o.er,o.eh];grind
  refine wpIn_mono (Z y U r N E1 hE1 (j.mk o) G ρ _ _ a w _ q (by rw[o.eh];exact k x hI)) λe a' w' M=>?_;have⟨E2,V,S,G',ρ',t',F,f,v⟩:=M;have R:wg c=true->E2=E:=λh=>by grind
  have J:=o.trans V;cases e with
  |normal=>
   simp only[bf]at v;have⟨t',F,f,z,z1,z2,z3,z4,z5⟩:=Qe f v;have⟨ρ2,_,hC2⟩:=f.less (by rw[J.er,J.eh];grind) z3 z4 (by rw[J.eh];grind);exact⟨z,⟨z1,E2,G',ρ2,J,R,hC2⟩,z2⟩
  |exit i=>exact⟨E2,J,R,G',ρ',t',F,f,v⟩
  |ret=>exact⟨E2,J,R,G',ρ',t',F,f,v⟩
  |panic ch=>exact⟨E2,J,R,G',ρ',t',F,f,v⟩
  |goto l=>grind
  |outgrown=>grind
 |exit id=>
  intro x u r N E D j G ρ t h a w K q k;cases u;exact wpIn_exit (.of ⟨G,ρ,t,h,q,k⟩)
 |ret=>
  intro x u r N E D j G ρ t h a w K q k;cases u;exact wpIn_ret (.of ⟨G,ρ,t,h,q,k⟩)
 |rangeFunc g ps ca cb O Q=>
  intro x u r N E D j G ρ t h a w K q k;simp only[comp]at u;cases B:Nat.ble P.funcs.size 5000000&&ps.toList.all (λp=>Nat.blt p n) with
  |false=>rw[B]at u;cases u;exact k.elim
  |true=>
   rw[B,δ]at u;simp only[aP,aS]at B;split at u
   .rename_i og hg;simp only[aI,aD,aE]at u;obtain⟨xa,hxa,xb,hxb,rfl⟩:=u;exact Sd ow D j (O xa hxa) (Q xb hxb) hg (λp hp=>(fH ..).mp (B.2 p hp)) (bA B.1) rfl q k
   .cases u;exact k.elim
 |_=>
  intro x u r N E D j G ρ t h a w K q k;cases u;exact k.elim
theorem FV(y:P.follows .mixedOrders=true)(z:E.ρ.length=E.h.length)(c:Code)(x:C)(u:comp P n c=some x)(G:Nat->Prop)(ρ:List Value)(t:T)(h:H)(a:Act)(w:World)(K:Ex->T->H->Prop)(v:ak E n G ρ t h a w)
  (b:wx (Sat P) ow E.h.length x t h K):c.wpIn (Fw none) 0 P (QM (wg c) E n K) a w:=
 SK ow y c x u none 0 E z (.none E) G ρ t h a w K v b
theorem FW(z:P.follows .mixedOrders=true)(u:E.ρ.length=E.h.length)(c:Code)(x:C)(v:comp P n c=some x)(hr:wg c=true)(G:Nat->Prop)(ρ:List Value)(t:T)(h:H)(a:Act)(w:World)(K:Ex->T->H->Prop)(b:ak E n G ρ t h a w)
  (d:wx (Sat P) ow E.h.length x t h K):c.wp P (QK E n K) a w:=
 wpIn_wide.1 (wpIn_mono (FV ow z u c x v G ρ t h a w K b d) λ_ _ _ y=>by rw[hr]at y;exact y.qk)
end
section
variable{P:Program}{E:gL}{n:Nat}{G:Nat->Prop}{ρ:List Value}{t:T}{h:H}{a:Act}{w:World}(ow:Nat->Bool)
theorem Ok.refl(hr:HR G w ρ h):Ok ⟨w,G,ρ,h,[],[]⟩ G w ρ h:=
 ⟨hr,λ_ h=>h,λ_ h=>.inl h,λ_ h=>.inr h,λ_ _ _=>rfl,aM _,rfl,rfl,rfl,λ_ _ h _=>h,aM _,λ_ h=>nomatch h⟩
theorem Ok.part(y:Ok E G w ρ h)(p:E.ρ.length=E.h.length){ids:List Nat}(f:ids.Nodup)(z:∀i∈ids,i<h.length)(jb:∀i∈ids,∀x,h[i]?=some x->∀j∈eZ x,j∈ids)(g:ids.take E.h.length=List.range E.h.length) :
  Ok E G w (ids.map λi=>(ρ[i]?).getD undef) (ids.map λi=>eR (pos ids) ((get? h i).getD .no)):=by
 have⟨k,l⟩:=y.hr.part f z jb;have e:∀b,own (ids.map λi=>(ρ[i]?).getD undef) (ids.map λi=>eR (pos ids) ((get? h i).getD .no)) b->own ρ h b:=λb u=>by
  have⟨i,v,x,_,g1,c,g3,d⟩:=l b u;exact⟨i,v,x,g1,c,g3,d⟩
 have m:E.h.length<=ids.length:=by
  have:=κ List.length g
  grind
 refine⟨k,y.gm,y.go,λb u=>y.oo b (e b u),y.frame,y.size,y.os,y.tape,y.out,λi v o hs=>?_,by grind,λr hr=>let⟨g1,c,g3⟩:=y.sC r hr;⟨g1,c,λd=>g3 (e r d)⟩⟩;have q:i<E.h.length:=by grind
 have hid:ids[i]?=some i:=by
  have:(ids.take E.h.length)[i]?=some i:=by grind
  grind
 rw[aB,hid,bE,y.hand i v o hs];rfl
theorem Tj{v:Value}{x:V}(y:dL G w ρ v x):dL G w ρ v (Tl x):=by
 cases y with
 |nl z=>exact .d (.xg z)
 |cl a n z rows h=>exact .cl a n z rows h
 |un=>exact .un _
 |ud=>exact .ud
 |d h=>exact .d h
 |p id off b h=>exact .p id off b h
 |e b o off row U u f g=>exact .e b o off row U u f g
 |os id a n c h=>exact .os id a n c h
 |q id z i off b n c h=>exact .q id z i off b n c h
 |mp id r h=>exact .mp id r h
 |ov id z i _ a n c h y=>exact .ov id z i _ a n c h y
 |it id r m h=>exact .it id r m h
theorem Tk{v:Value}{x:V}(y:dI G w ρ v x):dI G w ρ v (Tl x):=by
 cases y with
 |k h=>exact .k (Tj h)
 |fc f u cs caps z b c=>exact .fc f _ cs caps z b c
theorem Q4{v:Value}{x:V}(d:au G w ρ v x):au G w ρ v (Q5 x):=by
 cases d with
 |o h=>cases h with
  |c h=>
   have:Q5 x=Tl x:=by
    cases h with
    |k h=>cases h<;>rfl
    |fc=>rfl
   rw[this];exact .o (.c (Tk h))
  |ag cs vs u y=>
   refine .o (.ag cs _ (by grind) (λi x z=>?_));rw[aB]at z;cases b:vs[i]? with
   |none=>grind
   |some x0=>rw[b]at z;cases z;exact xP (y i x0 b)
 |tu cs vs u y=>exact .tu cs vs u y
def ND(G:Nat->Prop)(w:World)(ρ:List Value)(U:Nat->Value)(vs:List V):Prop:=
 ∀(i:Nat)(x:V),vs[i]?=some x->au G w ρ (U i) x
theorem CR{id:Nat}{y:D}{x:V}(h:we x=true):we (Dc id (.d y) x)=true:=by
 cases x with
 |tu=>cases h
 |os j=>
  show we (bif Nat.beq j id then V.d y else V.os j)=true;cases Nat.beq j id<;>rfl
 |p j o=>
  show we (bif Nat.beq j id then Sl (.d y) j o else .p j o)=true;cases Nat.beq j id;rfl
  .show we (Sl (.d y) j o)=true;unfold Sl;split
   .rename_i off _;cases Nat.beq off 0<;>rfl
   rfl
 |_=>rfl
theorem QZ{x:V}(h:we x=true):we (Q5 x)=true:=by
 cases x<;>simp_all[we,Q5,Tl]
theorem QY{f:Nat->Nat}{x:V}(h:we x=true):we (gS f x)=true:=by
 cases x<;>simp_all[we,gS,pK,sk,wW]
theorem H_{K:T->H->List V->Prop}:∀(ids:List Nat)(t:T)(h:H)(vs:List V),vs.all we=true->tq ids t h vs K->tq ids t h vs λt h vs=>vs.all we=true/\K t h vs:=by
 intro ids
 induction ids with
 |nil=>intro t h vs u y;exact⟨u,y⟩
 |cons id ids b=>
  intro t h vs u y;simp only[ve,Ch]at y⊢;split at y
  .rename_i z rs c;simp only[pC,jR,f_]at y⊢;refine b _ _ _ ?_ y;simp only[List.all_map,aS]at u⊢;exact λx v=>CR (u x v)
  .split at y
   .simp only[pC,jR,f_]at y⊢;refine b _ _ _ ?_ y;simp only[List.all_map,aS]at u⊢;exact λx v=>CR (u x v)
   grind
  grind
theorem RC{b:Nat}(x:B)(h:b∈gh (M1 x)):b∈gh x:=by
 cases x with
 |di=>cases h
 |ms z es out it=>simp only[M1,gh,Np,cV]at h;simp only[gh,aR];grind
 |_=>exact h
theorem B3{x:B}(h:M1 x≠.no):x≠.no:=λe=>h (by rw[e];rfl)
theorem ak.Xh(u:ak E n G ρ t h a w):ak E n G ρ t (h.map M1) a w:=by
 have get:∀(i:Nat)(y:B),(h.map M1)[i]?=some y->∃x,h[i]?=some x/\y=M1 x:=λi y A=>by
  grind
 have bk:∀{v:Value}{x:B}{b:Nat},b∈eU v (M1 x)->b∈eU v x:=λm=>(bR.1 m).elim (λh=>bR.2 (.inl h)) λh=>bR.2 (.inr (RC _ h));refine⟨u.ok.view (ρ':= ρ) (λ_ _ h=>h) (by simp[u.ok.hr.len]) (by simp) (λi v y c e f=>?_) (λi v y b c e f j=>?_),u.df,u.sz,u.tm⟩
 .obtain⟨x,d,rfl⟩:=get i y e;have:=u.ok.hr.rep i v x c d;cases x with
  |di es r l=>exact this.1
  |ms z es out it=>exact⟨this.1,trivial⟩
  |_=>exact this
 .obtain⟨x,d,rfl⟩:=get i y e;refine⟨i,v,x,c,d,B3 f,bk j,λk v' o g1 p g3 q=>?_⟩;obtain⟨s,g,rfl⟩:=get k o p;exact u.ok.hr.oB k i v' v s x b g1 g (B3 g3) c d (B3 f) (bk q) (bk j)
theorem BW{K:KT}(D:ak E n G ρ t h a w)(C:E.ρ.length=E.h.length){keep:Bool}{vs:List V}{U:Nat->Value}(F:ND G w ρ U vs)(q:fin keep E.h.length vs t h K) :
  ∃(G':Nat->Prop)(ρ':List Value)(b:H)(r:List V),Ok E G' w ρ' b/\r.length=vs.length/\r.all we=true/\ND G' w ρ' U r/\K (outs r) b:=by
 have⟨e,q⟩:=q;simp only[bf,f_,BV]at q;have s:ND G w ρ U (vs.map Q5):=λi x u=>by
  rw[aB]at u;cases g:vs[i]? with
  |none=>grind
  |some x0=>rw[g]at u;cases u;exact Q4 (F i x0 g)
 have k:(vs.map Q5).all we=true:=by
  simp only[List.all_map,aS]at e⊢;exact λx d=>QZ (e x d)
 have⟨G',t',b,vs',z,hl,l,v,y⟩:=sG _ G t h _ U D s (H_ _ _ _ _ k q);rw[aH]at hl;have⟨t',b,z,y⟩:=wB _ z y
 replace z:=z.Xh
 generalize b.map M1=b at z y;split at y
 .rename_i I hid;have A:=z.ok.part C (ids:=[]) (by simp) (by simp) (by simp) (by grind);refine⟨G',_,_,vs',A,hl,v,λi x u=>?_,y⟩;have:=l i x u;have d:eT x=[]:=(br.1 hid) x (aJ u);have J:=this.pL (ρ':=([]:List Value)) (f:=λi=>i) (λj B=>by grind);rwa[AY d]at J
 .generalize reach b 100 _ _=ids at y;have⟨c,m,y⟩:=y;simp only[aP,aS]at c;have⟨⟨L,c2⟩,c3⟩:=c;have o:∀i∈ids,i<b.length:=λi u=>(fH ..).mp (c2 i u).1;have jb:∀i∈ids,∀x,b[i]?=some x->∀j∈eZ x,j∈ids:=λi u x d j B=>by
   have:=(c2 i u).2 j;rw[get?_eq,d]at this;exact cK.1 (this B)
  have A:=z.ok.part C (iH L) o jb m;refine⟨G',_,_,vs'.map (gS (pos ids)),A,by grind,?_,λi x u=>?_,y⟩
  .simp only[List.all_map,aS]at v⊢;exact λx d=>QY (v x d)
  .rw[aB]at u;cases g:vs'[i]? with
   |none=>grind
   |some x0=>
    rw[g]at u;cases u;refine(l i x0 g).pL λj B=>?_;have p:j∈ids:=cK.1 (c3 j (by grind));have M:=o j p;rw[aB,iA p,bE,aA (by rw[z.ok.hr.len];grind)];rfl
def Px(a:Act):ResultVar->Sem Value
 |.tmp t=>pure (a.tmps.getD t undef)
 |.cell b t=>do loadVar t (<-asAddr (a.tmps.getD b undef))
def Uo(P:Program):ResultVar->Option RV
 |.tmp t=>some (.s t)
 |.cell a t=>(uj P t).map (.c a)
theorem Pk(p:ak E n G ρ t h a w){r:ResultVar}{x:RV}(q:Uo P r=some x){K:V->Prop}(z:Un x t h K) :
  ∃(u:Value)(v:V),(Px a r).run P w=.ok u w/\au G w ρ u v/\K v:=by
 cases r with
 |tmp i=>
  cases q;exact⟨_,_,rfl,p.tm i,z⟩
 |cell b ty=>
  simp only[Uo,aG]at q;obtain⟨m,hl,rfl⟩:=q;have e:=p.tm b;simp only[Un]at z;split at z
  .rename_i id off M;rw[M]at e;have⟨D,F,N⟩:=e.pt;rw[get?_eq]at z;split at z
   .rename_i cs s;have⟨S,arr,ty',I,J,U,O⟩:=p.ok.hr.rep id _ _ N s;simp only[Value.pointer.injEq,aE,Addr.mk.injEq,ω]at I;obtain⟨rfl,_⟩:=I;cases m with
    |none=>
     simp only[get?_eq]at z;split at z
     .rename_i v A;have f:off<arr.size:=by grind
      have d:w.cell? ⟨D,off,none⟩=some arr[off]:=by rw[dC J];grind
      refine⟨arr[off],v,?_,?_,z⟩
      .simp[Px,F,asAddr,tU hl,d]
      .have:=O off v A;exact .o (.c (by simpa[aF,f]using this))
     grind
    |some k=>
     simp only[bf]at z;have L:=kH z.1;have B:k<=cs.length-off:=by
      grind
     have g:=tT (w:=w) hl ⟨D,off,none⟩ ((List.range k).map λj=>arr.getD (off+j) undef) (by simp) (λj v e=>by
      rw[dx,dC J];simp only[aB,aG]at e;obtain⟨W,l,rfl⟩:=e;have C:j<k:=by
       grind
      rw[ck C]at l;cases l;have f:off+j<arr.size:=by omega
      simp_all)
     refine⟨_,_,by simp[Px,F,asAddr,g];rfl,.o (.ag _ _ (by grind) (λj y Q=>?_)),z.2⟩;have R:j<k:=by grind
     rw[ao,ζ R,bF]at Q;simp_all
   grind
  grind
theorem GB(hC:ak E n G ρ t h a w):∀(rs:List ResultVar)(xs:List RV),rs.mapM (Uo P)=some xs->∀(K:List V->Prop),NU xs t h K ->
    ∃(us:List Value) (vs:List V),(rs.mapM (Px a)).run P w = .ok us w ∧
      us.length=vs.length/\ND G w ρ (λi=>us.getD i undef) vs/\K vs:=by
  intro rs
  induction rs with
  |nil=>
    intro xs hm K hk
    simp at hm
    subst hm
    exact⟨[],[],by simp,rfl,λi x hi=>by grind,hk⟩
  |cons r rs ih=>
    intro xs hm K hk
    simp only[iU,aI,aD,jK,aE]at hm
    obtain⟨x,hx,ys,hys,rfl⟩:=hm
    simp only[GC]at hk
    have⟨u,v,g1,g2,g3⟩:=Pk hC hx hk
    have⟨us,vs,k1,k2,k3,k4⟩:=ih ys hys _ g3
    refine⟨u::us,v::vs,?_,by grind,λi x hi=>?_,k4⟩
    simp_all
    · cases i with
      |zero=>grind
      |succ i=>simpa using k3 i x (by grind)
theorem CD{fn:Func}:Ds P fn=fn.results.toList.mapM (Uo P):=by
 rfl
theorem sn{fn:Func}:results fn a.tmps=(do let vs <-fn.results.mapM (Px a);pure (if h:vs.size=1 then vs[0]else .tuple vs)):=by
 rfl
theorem BI:∀(vs:List V)(k i:Nat),gs (FO k vs) i=if k<=i then(vs[i-k]?).getD .un else .un:=by
 intro vs
 induction vs with
 |nil=>intro k i;simp[FO,Qr]
 |cons v vs x=>
  intro k i;simp only[FO,gI]
  by_cases e:k=i
  simp_all
  .rw[fm e,ε,x]
   grind
theorem Ok.ds{y z:List Deferred}{m:List Nat}(x:Ok {E with ds:=y,ms:=m} G w ρ h):Ok {E with ds:=z,ms:=m} G w ρ h:=
 ⟨x.hr,x.gm,x.go,x.oo,x.frame,x.size,x.os,x.tape,x.out,x.hand,x.hl,x.sC⟩
theorem tI{F:Fence}{N:Nat}{fn:Func}{tmps:Array Value}{R:Ending->World->Prop}{u:FrameMode}(i:u≠.run):∀(l:List Nat)(w:World),l.Nodup->(∀r∈l,E.w.heap.size<=r)->Ok {E with ds:=[],ms:=l} G w ρ h ->
  (∀w',Ok {E with ds:=[],ms:=[]} G w' ρ h->(∀v x,au G w ρ v x->au G w' ρ v x)->LeavesIn F N P fn tmps R [] u w')->LeavesInM F N P fn tmps R (l.map Tn) u w:=by
 intro l
 induction l with
 |nil=>intro w _ _ y z;exact z w y λ_ _ h=>h
 |cons r l j=>
  intro w k hs y z;have⟨b,c⟩:=cm.1 k;have⟨g1,f,_⟩:=y.sC r (by simp);refine⟨i,.inl ⟨r,_,rfl,run_takeDeferred g1,j _ c (λx g=>hs x (by grind)) (y.G0 (.inr ⟨_,g1⟩) (hs r (by simp)) f (λx g=>⟨by grind,λe=>b (e ▸ g)⟩) _) λw' d hr=>z w' d λv x m=>hr v x (pU m f _)⟩⟩
theorem Dj{f:Nat}{fn:Func}{c:Code}{x:C}{rs:List RV}{keep:Bool}{vs:List V}{K:KT}(X:P.follows .mixedOrders=true)(O:P.funcs[f]?=some fn)(q:(fn.name != "runtime.NumGoroutine")=true) (Q:fn.body=some c)
  (Y:comp P fn.ntmps c=some x) (hr:Ds P fn=some rs) (hl:Nat.ble vs.length fn.ntmps=true) (Z:fx (Sat P) ow keep x rs vs h K):Sat P f vs h K:=by
 have hl:=bA hl;refine .inl ⟨by simp[eo,O,q,Q],λG w ρ as R S hv=>tg (r:=none) (N:=0) (callsIn_of_wp_marks O Q (Fw.fn none f) ?_)⟩;have hC:ak ⟨w,G,ρ,h,[],[]⟩ fn.ntmps G ρ (FO 0 vs) h {tmps:=as.toArray++Array.replicate (fn.ntmps-as.toArray.size) undef,defers:=[]} w:=by
  refine⟨Ok.refl R,rfl,by grind,λi=>?_⟩;rw[BI,ζ (ae _),Nat.sub_zero];cases W:vs[i]? with
  |none=>exact .k (.un _)
  |some v=>
   have hil:i<vs.length:=(aC.1 W).1;have:=hv i v W;rw[a8,aA (by omega)]at this;rw[aF,cp (by grind)]
   grind
 have F:(⟨w,G,ρ,h,[],[]⟩:gL).ρ.length=(⟨w,G,ρ,h,[],[]⟩:gL).h.length:=R.len;have m:∀(G':Nat->Prop)(ρ':List Value)(t':T)(g:H)(a':Act)(w':World),ak ⟨w,G,ρ,h,[],[]⟩ fn.ntmps G' ρ' t' g a' w'->(NU rs t' g λvs=>fin keep h.length vs t' g K) ->
   ∃v,(results fn a'.tmps).run P w'=.ok v w'/\∃(G'':Nat->Prop)(ρ'':List Value)(h'':H)(out:Out),Ok ⟨w,G,ρ,h,[],[]⟩ G'' w' ρ'' h''/\NG G'' w' ρ'' (.returned v) out/\K out h'':=by
  intro G' ρ' t' g a' w' y z;have⟨p,vs',g1,g2,g3,g4⟩:=GB y _ _ (CD ▸ hr) _ z;have⟨G'',ρ'',h'',b,k1,k2,k3,D,I⟩:=BW y F g3 g4;have B:(fn.results.mapM (Px a')).run P w'=.ok p.toArray w':=by
   rw[<-cr (xs:=fn.results),List.mapM_toArray];simp_all
  refine⟨if h:p.toArray.size=1 then p.toArray[0]else .tuple p.toArray,?_,G'',ρ'',h'',_,k1,?_,I⟩
  .rw[sn,Sem.run_bind,B,Result.andThen_ok];rfl
  .by_cases j:p.length=1
   .obtain⟨u,rfl⟩:=eD.1 j;obtain⟨v,rfl⟩:=eD.1 (show b.length=1 by omega);exact⟨u,rfl,by simpa using D 0 v rfl⟩
   .rw[dif_neg (by grind)];have:outs b=.ret (.tu b):=by
     match b,(show b.length≠1 by omega) with
     |[],_=>rfl
     |[_],h=>grind
     |_::_::_,_=>rfl
    rw[this];refine⟨_,rfl,.tu _ _ (by grind) (λi x J=>?_)⟩;have d:=D i x J;have h3:we x=true:=(aS.1 k3) x (aJ J);have h4:(p.toArray).getD i undef=p.getD i undef:=by
     simp_all
    rw[h4];simp only at d;generalize p.getD i undef=u at d;cases d with
    |o h=>exact h
    |tu=>contradiction
 refine wpIn_mono (FV ow X F c x Y G ρ _ h _ w _ hC Z) λe a' w' hq=>?_;obtain⟨E1,⟨l,rfl,hnd,s⟩,_,G',ρ',t',g,y,z⟩:=hq;have A:a'.defers=l.map Tn:=by rw[y.df];simp
 have L:l.Nodup:=by grind
 have M:Ok { (⟨w,G,ρ,h,[],[]⟩:gL)with ds:=[],ms:=l} G' w' ρ' g:=by
  have:=y.ok;simp only[cV]at this;exact this.ds
 have go:∀w'',Ok { (⟨w,G,ρ,h,[],[]⟩:gL)with ds:=[],ms:=[]} G' w'' ρ' g->(∀v x,au G' w' ρ' v x->au G' w'' ρ' v x)->ak ⟨w,G,ρ,h,[],[]⟩ fn.ntmps G' ρ' t' g {a' with defers:=[]} w'':=
  λw'' j d=>⟨j,rfl,y.sz,λi=>d _ _ (y.tm i)⟩
 cases e with
 |normal=>
  show LeavesInM _ _ _ _ _ _ a'.defers _ _;rw[A];exact tI (u:=.returning) (λe=>by cases e) l w' L s M λw'' j d=>m G' ρ' t' g {a' with defers:=[]} w'' (go w'' j d) z
 |ret=>
  show LeavesInM _ _ _ _ _ _ a'.defers _ _;rw[A];exact tI (u:=.returning) (λe=>by cases e) l w' L s M λw'' j d=>m G' ρ' t' g {a' with defers:=[]} w'' (go w'' j d) z
 |panic ch=>
  obtain⟨v,v',rfl,hv',z⟩:=z;show LeavesInM _ _ _ _ _ _ a'.defers _ _;rw[A];refine tI (u:=.panicking [{v:=v',recovered:=false}]) (λe=>by cases e) l w' L s M λw'' j d=>?_;have⟨G'',ρ'',h'',b,k1,k2,k3,D,I⟩:=BW (go w'' j d) F (U:=λ_=>v') (vs:=[v]) (λi x J=>by
   grind) z
  obtain⟨u,rfl⟩:=eD.1 (show b.length=1 by grind);exact⟨G'',ρ'',h'',.fg u,k1,⟨v',rfl,D 0 u rfl⟩,I⟩
 |exit id=>grind
 |goto l=>grind
 |outgrown=>grind
end
theorem aW{b:Bool}{p q:Prop}(x:b=true->p)(y:b=false->q):sp b p q:=by
 cases b
 .exact y rfl
 .exact x rfl
theorem gM{b:Bool}{p q:Prop}(h:b=true)(x:p):sp b p q:=by subst h;exact x
theorem gG{b:Bool}{p q:Prop}(h:b=false)(x:q):sp b p q:=by subst h;exact x
theorem cJ{x y:V}(h:x=y):Out.ret x=Out.ret y:=by rw[h]
def oW:List Nat->T->T
 |_,[]=>[]
 |ws,p::r=>bif has ws p.1 then oW ws r else p::oW (p.1::ws) r
theorem tY(t:T):∀(r:T)(ws:List Nat),(∀i,has ws i=false->gs t i=gs r i)->lD t (oW ws r):=by
 intro r
 induction r with
 |nil=>intro ws _;exact trivial
 |cons p r b=>
  intro ws y;simp only[oW];cases z:has ws p.1 with
  |true=>
   refine b ws λi x=>?_;rw[y i x,gI,fm (λe=>by rw[e]at z;rw[z]at x;cases x)];rfl
  |false=>
   refine⟨?_,b _ λi x=>?_⟩
   .rw[y _ z,gI,fV];exact sO _
   .simp only[has,List.any_cons,lX]at x;have u:p.1≠i:=λe=>by
     have:=x.1;rw[e,fV]at this;cases this
    have v:has ws i=false:=x.2;rw[y i v,gI,fm u];rfl
theorem qv{t:T}:∀{a b:T},lD t a->lD t b->lD t (a++b)
 |[],_,_,h=>h
 |_::_,_,x,y=>⟨x.1,qv x.2 y⟩
theorem ya{t:T}{h:H}{n0:Nat}{body:T->H->(Ex->T->H->Prop)->Prop}{K:Ex->T->H->Prop}
  (hx:∃(A:Type) (I:A→Prop) (S1:A→T) (S2:A→H) (m:A→Nat) (x:A),
   (I x∧lD t (S1 x)∧lE h (S2 x)∧yb n0 (S1 x) (S2 x)=true)∧∀x,I x→body (S1 x) (S2 x) λe t h=>match e with
    |.p7=>fl (Tm h) λl=>Tw l t h λt h=>∃y,I y/\m y<m x/\lD t (S1 y)/\lE h (S2 y)/\yb n0 (S1 y) (S2 y)=true
    |.ext i=>K (.ext i) t h
    |.ret=>K .ret t h
    |.fg v=>K (.fg v) t h):lx n0 body t h K:=by
 unfold lx;exact hx
theorem HK{t:T}{h:H}{n0:Nat}{body:T->H->(Ex->T->H->Prop)->Prop}{K:Ex->T->H->Prop}(ws:List Nat){A:Type}(I:A->Prop)(f:A->T)(g:A->H)(m:A->Nat)(x:A)
  (h1:I x) (h2:lD t (f x)) (h3:lE h (g x)) (h4:yb n0 (f x++oW ws t) (g x)=true)
  (hr:∀x,I x→fl (f x++oW ws t) λs=>body s (g x) λe t' h'=>match e with
   |.p7=>fl (Tm h') λl=>Tw l t' h' λt' h'=>∃y,I y/\m y<m x/\lD t' (f y++oW ws t)/\lE h' (g y)/\yb n0 (f y++oW ws t) (g y)=true
   |.ext i=>K (.ext i) t' h'
   |.ret=>K .ret t' h'
   |.fg v=>K (.fg v) t' h') :
  lx n0 body t h K:=by
 unfold lx;refine⟨A,I,λa=>f a++oW ws t,g,m,x,⟨h1,qv h2 (tY t t ws λ_ _=>rfl),h3,h4⟩,λa ha=>?_⟩;have:=hr a ha;rwa[bf]at this
theorem fN{a b:V}(h:a=b):FL a b:=h ▸ sO a
theorem aU{a b:B}(h:a=b):K0 a b:=by
 subst h;cases a<;>first|exact rfl|exact Or.inl rfl
theorem bM{t:T}{h:H}{n0:Nat}{body:T->H->(Ex->T->H->Prop)->Prop}{K:Ex->T->H->Prop}(rest:T){A:Type}(I:A->Prop)(f:A->T)(g:A->H)(m:A->Nat)(x:A)
  (h1:I x) (h2:lD t (f x++rest)) (h3:lE h (g x)) (h4:yb n0 (f x++rest) (g x)=true)
  (hr:∀x,I x→fl (f x++rest) λs=>body s (g x) λe t' h'=>match e with
   |.p7=>fl (Tm h') λl=>Tw l t' h' λt' h'=>∃y,I y/\m y<m x/\lD t' (f y++rest)/\lE h' (g y)/\yb n0 (f y++rest) (g y)=true
   |.ext i=>K (.ext i) t' h'
   |.ret=>K .ret t' h'
   |.fg v=>K (.fg v) t' h') :
  lx n0 body t h K:=by
 unfold lx;refine⟨A,I,λa=>f a++rest,g,m,x,⟨h1,h2,h3,h4⟩,λa ha=>?_⟩;have:=hr a ha;rwa[bf]at this
abbrev iS(d:Nat)(x:X):I:=⟨some d,x,none⟩
abbrev iG(d:Nat)(x:X)(g:Nat)(b:Bool):I:=⟨some d,x,some (g,b)⟩
abbrev iN(x:X):I:=⟨none,x,none⟩
abbrev iM(d m:Nat):I:=⟨some d,.mv (.s m),none⟩
abbrev iL(d m:Nat):I:=⟨some d,.ld (.s m) none,none⟩
abbrev iD(d m k:Nat):I:=⟨some d,.ld (.s m) (some k),none⟩
abbrev iF(d m k:Nat):I:=⟨some d,.fa (.s m) k,none⟩
abbrev iC(d m:Nat):I:=⟨some d,.nc (.s m),none⟩
abbrev iz:V:=.d (.int .i64 0)
abbrev sz:V:=.d (.str [])
class ZA(p:Prop)(q:outParam Prop):Prop where
  go:q->p
instance {p q:Prop}:ZA (PD p q) p:=⟨NB⟩
instance {p q:Prop}:ZA (KQ p q) q:=⟨zM⟩
instance {K:List Nat×Nat->Prop}:ZA (E9 K) (K ([],0)):=⟨MN⟩
instance {p q:Prop}:ZA (eO p q) p:=⟨bu⟩
instance {p q:Prop}:ZA (Nj p q) p:=⟨C9⟩
instance {p q:Prop}:ZA (J8 p q) p:=⟨xM⟩
theorem za{p q:Prop}[h:ZA p q](k:q):p:=h.go k
class ZS(p:Prop):Prop where
  w:True
instance {α:Sort _}{a b:α}:ZS (a=b):=⟨trivial⟩
instance {α:Sort _}{a b:α}:ZS (a≠b):=⟨trivial⟩
instance {α:Type _}[LE α]{a b:α}:ZS (a<=b):=⟨trivial⟩
instance {α:Type _}[LT α]{a b:α}:ZS (a<b):=⟨trivial⟩
instance {k n}:ZS (eK k n):=⟨trivial⟩
instance {p:Prop}:ZS (¬p):=⟨trivial⟩
instance {p q:Prop}[ZS p][ZS q]:ZS (p/\q):=⟨trivial⟩
instance {p q:Prop}[ZS p][ZS q]:ZS (p\/q):=⟨trivial⟩
instance {α:Sort _}{p:α->Prop}[∀x,ZS (p x)]:ZS (∀x,p x):=⟨trivial⟩
class ZL(p:Prop)(a b:outParam Prop):Prop where
  go:a->b->p
instance {a b:Prop}[ZS a]:ZL (a/\b) a b:=⟨And.intro⟩
instance {a b q:Prop}[ZS a]:ZL ((a/\b)\/q) a b:=⟨λx y=>.inl ⟨x,y⟩⟩
theorem zl{p a b:Prop}[h:ZL p a b](y:b)(x:a:=by(repeat' apply And.intro)<;>first|rfl|omega|(unfold eK;omega)|(simp;done)|(unfold eK;simp at *;omega)|(simp at *;omega)|(intros;contradiction)):p:=h.go x y
class ZF(p:Prop)(a b:outParam Prop):Prop where
  go:a->b->p
instance {a b:Out}{h k:H}:ZF (a=b/\h=k) (a=b) (h=k):=⟨And.intro⟩
theorem zf{p a b:Prop}[h:ZF p a b](x:a:=by exact rfl)(y:b:=by exact rfl):p:=h.go x y
theorem zg{p a b:Prop}[h:ZF p a b](x:a)(y:b:=by exact rfl):p:=h.go x y
theorem zzz{p:Prop}(h:p:=by repeat' (first|exact trivial|exact rfl|exact Or.inl rfl|refine And.intro ?_ ?_|refine Or.inr ?_)):p:=h
theorem zm{p q:Prop}(k:q)(h:q->p:=by first|exact λk=>zg k|exact And.intro rfl|exact za|exact λk=>zl k|fail):p:=h k
theorem zc{p q a:Prop}(c:a)(k:q)(h:a->q->p:=by first|exact λc k=>⟨_,c,k⟩|exact λc k=>c.use k|fail):p:=h c k
theorem zj0{p:Prop}(h:p:=by repeat' ((conv=>whnf);first|exact zf|refine zm ?_|intro _)):p:=h
theorem zj1{p a:Prop}(u:a)(h:a->p:=by intro u;repeat' ((conv=>whnf);first|exact zf|refine zm ?_|refine zc u ?_|intro _)):p:=h u
theorem zj2{p a b:Prop}(u:a)(v:b)(h:a->b->p:=by intro u v;repeat' ((conv=>whnf);first|exact zf|refine zm ?_|refine zc u ?_|refine zc v ?_|intro _)):p:=h u v
theorem zj3{p a b c:Prop}(u:a)(v:b)(w:c)(h:a->b->c->p:=by intro u v w;repeat' ((conv=>whnf);first|exact zf|refine zm ?_|refine zc u ?_|refine zc v ?_|refine zc w ?_|intro _)):p:=h u v w
theorem zh0{p q:Prop}(k:q)(h:q->p:=by intro k;repeat' ((conv=>whnf);first|exact zf|refine zm ?_|intro _|exact k)):p:=h k
theorem zh1{p q a:Prop}(k:q)(u:a)(h:q->a->p:=by intro k u;repeat' ((conv=>whnf);first|exact zf|refine zm ?_|refine zc u ?_|intro _|exact k)):p:=h k u
theorem _root_.Go.zx0{p:Prop}(h:p:=by kernel_rfl):p:=h
theorem zi0{k n}{p q:Prop}(y:p)(x:eK k n:=by unfold eK;(try dsimp only);first|omega|decide):eK k n/\p\/q:=.inl ⟨x,y⟩
theorem zr0{α:Sort _}{p:α->Prop}{q:Prop}(h:q):(∃x,p x)\/q:=.inr h
theorem zt{x:Bool}{a b:Prop}(y:a)(h:x=true:=by first|(simp;done)|(simp;omega)|(simp at *;omega)|(exact beq_eq_false_iff_ne.2 (by(try dsimp only);omega))|(exact beq_iff_eq.2 (by(try dsimp only);omega))):sp x a b:=gM h y
theorem zu{x:Bool}{a b:Prop}(y:b)(h:x=false:=by first|(simp;done)|(simp;omega)|(simp at *;omega)|(exact beq_eq_false_iff_ne.2 (by(try dsimp only);omega))|(exact beq_iff_eq.2 (by(try dsimp only);omega))):sp x a b:=gG h y

theorem zk0{p:Prop}(h:p:=by repeat' ((conv=>whnf);first|exact zf|refine zm ?_|refine zt ?_|refine zu ?_|intro _)):p:=h
theorem zk1{p a:Prop}(u:a)(h:a->p:=by intro u;repeat' ((conv=>whnf);first|exact zf|refine zm ?_|refine zc u ?_|refine zt ?_|refine zu ?_|intro _)):p:=h u
theorem zk2{p a b:Prop}(u:a)(v:b)(h:a->b->p:=by intro u v;repeat' ((conv=>whnf);first|exact zf|refine zm ?_|refine zc u ?_|refine zc v ?_|refine zt ?_|refine zu ?_|intro _)):p:=h u v
theorem zk3{p a b c:Prop}(u:a)(v:b)(w:c)(h:a->b->c->p:=by intro u v w;repeat' ((conv=>whnf);first|exact zf|refine zm ?_|refine zc u ?_|refine zc v ?_|refine zc w ?_|refine zt ?_|refine zu ?_|intro _)):p:=h u v w
end Go.Vx
