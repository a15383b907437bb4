/- Lemmas. Conditions: none. -/
import Derived.Test.YtmigecldjbgneaaGreatDoorQKBJ
set_option maxHeartbeats 40000000
namespace Go.Proofs.YtmigecldjbgneaaGreatDoor
open Go.Vx
set_option maxRecDepth 100000
theorem N3(l:List (List D))(hl:l.length<100000000):Z1 75 [.d (.sl 1 l)] [] λout h=>out=.ret (.os 0)/\h=[.rows 1 l]:=by
 refine si0 Tryz.f75 ?_;cases l with
 |nil=>
  repeat' ((conv=>whnf);first|exact zf|refine zm ?_|refine zB ?_ ?_|refine And.intro ?_ ?_|intro _)
 |cons r l=>
  repeat' ((conv=>whnf);first|exact zf|refine zm ?_|refine zB ?_ ?_|intro _)
def strip(p:Nm):Lb×List (List Nat):=(p.1,p.2.2)
def Bs(i:Nat)(b:Option Nat)(nm:my):my:=nm.modify i λp=>(p.1,b,p.2.2)
theorem Br(i:Nat)(b:Option Nat)(nm:my):(Bs i b nm).map strip=nm.map strip:=by
 unfold Bs;apply bz;intro j;rw[aB,aB,ly];cases nm[j]? with
 |none=>rfl
 |some x=>show some (strip (if i=j then(x.1,b,x.2.2)else x))=some (strip x);split<;>rfl
theorem Ji{i:Nat}{nm:my}{l:Lb}{g:Option Nat}{ns:List (List Nat)}(h:nm[i]?=some (l,g,ns))(b:Option Nat) :
  eQ i (some (b,cM (ns.map b8))) (eQ i none (ik nm))=ik (Bs i b nm):=by
 rw[wA];apply bz;intro j;unfold ik Bs;rw[fX,aB,aB,ly]
 by_cases hj:i=j
 .subst hj;rw[ζ rfl,h];simp
 .rw[η hj];simp[hj]
theorem Bm{m:Lb}{d1 d2:Lb->Bool}{nm:my}{th:Fq}(h:∀p∈nm,d1 p.1=d2 p.1):kE m d1 nm th=kE m d2 nm th:=by
 unfold kE;refine eY λq _=>?_;unfold wK;have key:∀{l:my},(∀p∈l,d1 p.1=d2 p.1)->(l.any λp=>d1 p.1&&!bH p.1 m&&p.2.2.any λk=>b8 k==q.1)=l.any λp=>d2 p.1&&!bH p.1 m&&p.2.2.any λk=>b8 k==q.1:=by
  intro l
  induction l with
  |nil=>intro _;rfl
  |cons x r ih=>intro h;rw[List.any_cons,List.any_cons,h x (by simp),ih λy hy=>h y (by simp[hy])]
 rw[key h]
theorem EN(l:Fq)(i:Nat):(iW l).eraseIdx i=iW (l.eraseIdx i):=by
 unfold iW
 induction l generalizing i with
 |nil=>rfl
 |cons x r ih=>cases i with
  |zero=>rfl
  |succ i=>exact κ _ (ih i)
def rY(th:Fq)(ns:List (List Nat)):Fq:=th.filter λq=> !ns.any λk=>b8 k==q.1
theorem F9{th:Fq}(h:th.Pairwise λa b=>a.1≠b.1){ns:List (List Nat)}{j:Nat}(hj:j<ns.length) :
  (bw (b8 ns[j]) (rY th (ns.take j))=none/\rY th (ns.take j)=rY th (ns.take (j+1))) \/
  ∃i o,bw (b8 ns[j]) (rY th (ns.take j))=some (i,o)/\(iW (rY th (ns.take j))).eraseIdx i=iW (rY th (ns.take (j+1))):=by
 obtain⟨h1,h2⟩:=KF (key:=b8 ns[j]) h λx=>(ns.take j).any λk=>b8 k==x;have e:rY th (ns.take (j+1))=th.filter λq=> !(((ns.take j).any λk=>b8 k==q.1)||b8 ns[j]==q.1):=by
  unfold rY;rw[bV,aA hj];refine eY λq _=>?_;rw[List.any_append];simp
 rw[e];cases hl:bw (b8 ns[j]) (rY th (ns.take j)) with
 |none=>exact .inl ⟨rfl,h1 hl⟩
 |some x=>
  obtain⟨i,o⟩:=x;exact .inr ⟨i,o,rfl,by rw[EN];exact κ iW (h2 i o hl)⟩
structure HS(m:Lb)(s:br)(left:List Nat)(nm':my)(dn:Lb->Bool):Prop where
  st:nm'.map strip=s.nm.map strip
  nd:left.Nodup
  lt:∀i∈left,∃p,s.nm[i]?=some p/\dn p.1=false
  all:∀(i:Nat)(p:Nm),s.nm[i]?=some p->i∉left->dn p.1=true
theorem List.mh{l:List Nat}{i:Nat}(h:i∈l):(l.erase i).length<l.length:=by
 have:=List.length_erase_of_mem h;have:=List.length_pos_of_mem h;omega
theorem HS.step{m:Lb}{s:br}{left:List Nat}{nm':my}{dn:Lb->Bool}(h:HS m s left nm' dn)(hn:s.nm.Pairwise λa b=>a.1≠b.1){i:Nat}(hm:i∈left){p:Nm}(hp:s.nm[i]?=some p)(b:Option Nat):HS m s (left.erase i) (Bs i b nm') (more dn p.1):=by
 have hne:∀{j:Nat}{q:Nm},j≠i->s.nm[j]?=some q->q.1≠p.1:=λ{j q} hj hq e=>by
  rw[List.pairwise_iff_getElem]at hn;obtain⟨h1,rfl⟩:=aC.1 hp;obtain⟨h2,rfl⟩:=aC.1 hq;rcases Nat.lt_trichotomy i j with h3|h3|h3
  .exact hn i j h1 h2 h3 e.symm
  .exact hj h3.symm
  .exact hn j i h2 h1 h3 e
 refine⟨(Br _ _ _).trans h.st,h.nd.erase _,λj hj=>?_,λj q hq hj=>?_⟩
 .have hji:j≠i:=λe=>by subst e;exact(List.Nodup.not_mem_erase h.nd) hj
  obtain⟨q,hq,hd⟩:=h.lt j (List.mem_of_mem_erase hj);exact⟨q,hq,by unfold more;rw[hd,Rj (hne hji hq)];rfl⟩
 .by_cases hji:j=i
  .subst hji;rw[hp]at hq;cases hq;unfold more;rw[z7,kU]
  .have:j∉left:=λhl=>hj ((List.mem_erase_of_ne hji).2 hl);unfold more;rw[h.all j q hq this];rfl
theorem Rq{K:KT}(s:br)(m:Lb)(hn:s.nm.Pairwise λa b=>a.1≠b.1)(ht:s.th.Pairwise λa b=>a.1≠b.1)(hg:mj s)(hm:cC m)(hl:∀p∈s.nm,cC p.1)
  (hk:∀(nm':my)(bs:Lb->Option Nat),nm'.map strip=s.nm.map strip->K (.ret (.p 3 0)) (mZ ⟨s.th,nm'⟩++[.cells [.mp 4,.mp 5],.dm (iW (kE m (λ_=>true) s.nm s.th)),.ms 1 (ik (Jb m bs s.nm)) none none])) :
  Z1 39 [.p 0 0,lO m] (mZ s) K:=by
 have h60:=λ{K:KT}=>Sat.eqs (K:=K) (N5 (iW s.th));have h61:=λ{K:KT}=>Sat.eqs (K:=K) (N4 (ik s.nm));have hbeg:HS m s (List.range (ik s.nm).length) s.nm λ_=>false:=by
  have hlen:(ik s.nm).length=s.nm.length:=aI _;exact⟨rfl,qp,λi hi=>by
   have hi:i<s.nm.length:=by rw[<-hlen];exact b_.1 hi
   exact⟨_,aA hi,rfl⟩,λi p hp hi=>absurd (b_.2 (by rw[hlen];exact(aC.1 hp).1)) hi⟩
 refine s39.go (keep:=false) rfl ?_
 repeat' ((conv=>whnf);first|exact zf|refine(a8 (a8 ?_))|refine zm ?_|refine zr0 ?_|refine(h60 ?_)|refine(h61 ?_)|refine zB ?_ ?_|refine And.intro ?_ ?_|intro _)
 all_goals
  rename_i r
  conv=>whnf
  refine bA [(0,.p 0 0),(3,.p 3 0),(5,.p 6 0),(26,.it 2 r)] (λp:List Nat×Option Nat×my×(Lb->Bool)×(Lb->Option Nat)=>HS m s p.1 p.2.2.1 p.2.2.2.1) (λ_=>[]) (λp=>[.cells [.mp 1,.mp 2],.dm (iW s.th),.ms 1 (ik p.2.2.1) none (some (r,p.1,p.2.1)),.cells [.d (.str m.s),.d (.str m.i)],.dm (iW (kE m p.2.2.2.1 s.nm s.th)),.ms 1 (lH m p.2.2.2.1 p.2.2.2.2 s.nm) none none,.cells [.mp 4,.mp 5]]) (λp=>p.1.length) (List.range (ik s.nm).length,none,s.nm,(λ_=>false),λ_=>none) hbeg ?_ ?_ ?_ (λp hi=>?_)
  .exact zzz
  .exact⟨aV rfl,aV rfl,aV rfl,aV rfl,aV (by rw[J6]),aV (by rw[Ja];rfl),aV rfl,trivial⟩
  .exact zx0
  obtain⟨left,cur,nm',dn,bs⟩:=p;dsimp only at hi⊢
  repeat' ((conv=>whnf);first|exact zf|refine zm ?_|refine zB ?_ ?_|intro _)
  refine⟨λh0=>?_,λi hmem=>?_⟩
  .subst h0;have hall:∀p∈s.nm,dn p.1=true:=λp hp=>by
    obtain⟨i,hi'⟩:=ao.1 hp;exact hi.all i p hi' (by simp)
   repeat' ((conv=>whnf);first|exact zf|refine zm ?_|refine zB ?_ ?_|intro _)
   have e1:kE m dn s.nm s.th=kE m (λ_=>true) s.nm s.th:=Bm λp hp=>hall p hp;have h9:=hk nm' bs hi.st;rw[<-e1,<-J8 hall]at h9;exact h9
  .obtain⟨p,hp,hd⟩:=hi.lt i hmem;obtain⟨q,hq,hst⟩:∃q,nm'[i]?=some q/\strip q=strip p:=by
    have:=κ (λl=>l[i]?) hi.st;simp only[aB,hp,bJ]at this;exact aJ.1 this
   obtain⟨l,g,ns⟩:=p;obtain⟨l',g',ns'⟩:=q;unfold strip at hst;simp only[dG]at hst hd;obtain⟨rfl,rfl⟩:=hst;have hrow:(ik nm')[i]?=some ((l'.s,l'.i),some (g',cM (ns'.map b8))):=by unfold ik;rw[aB,hq];rfl
   have hsm:=hl _ (aG hp);have h13:=gi l' m hsm hm;cases hf:bH l' m
   all_goals rw[hf]at h13
   .obtain⟨x,hx⟩:=zo (m:=m) (bs:=bs) (aG hp) hd;have hT0:(kE m dn s.nm s.th).Pairwise λa b=>a.1≠b.1:=ht.filter _
    repeat' ((conv=>whnf);first|exact zf|refine zm ?_|refine⟨_,_,_,⟨rfl,hrow⟩,?_⟩|refine zc h13 ?_|refine zB ?_ ?_|refine zt ?_|refine zu ?_|intro _)
    repeat' ((conv=>whnf);first|exact zf|refine zm ?_|refine zB ?_ ?_|refine zt ?_|refine zu ?_|intro _)
    conv=>whnf
    refine bA [(0,.p 0 0),(3,.p 3 0),(5,.p 6 0),(26,.it 2 r),(6,.p 8 0),(42,.os 7),(43,.d (.int .i64 (cM (ns'.map b8)).length))] (λj:Nat=>j<=ns'.length) (λj=>[(44,.d (.int .i64 j))]) (λj=>[.cells [.mp 1,.mp 2],.dm (iW s.th),.ms 1 (eQ i none (ik nm')) (some (i,.os 7)) (some (r,left.erase i,some i)),.cells [.d (.str m.s),.d (.str m.i)],.dm (iW (rY (kE m dn s.nm s.th) (ns'.take j))),.ms 1 (lH m dn bs s.nm) none none,.cells [.mp 4,.mp 5],.rows 1 (cM (ns'.map b8)),.cells [.d (.str l'.s),.d (.str l'.i)]]) (λj=>ns'.length-j) 0 (aY _) ?_ ?_ ?_ (λj hj=>?_)
    .exact zzz
    .exact⟨aV rfl,aV rfl,aV rfl,aV rfl,aV (by unfold rY;rw[oS];exact κ B.dm (κ iW (jI.2 λ_ _=>rfl).symm)),aV rfl,aV rfl,aV rfl,aV rfl,trivial⟩
    .exact zx0
    have hlen:(cM (ns'.map b8)).length=ns'.length:=by rw[ff,aI]
    by_cases hlt:j<ns'.length
    .have tx:decide ((j:Int)<((cM (ns'.map b8)).length:Int))=true:=by rw[hlen];simp;omega
     have hr:(cM (ns'.map b8))[(j:Int).toNat]?=some [.str (b8 ns'[j])]:=by rw[show(j:Int).toNat=j by omega];unfold cM;rw[aB,aB,aA hlt];rfl
     have hfn:=rS (b8 ns'[j]) (rY (kE m dn s.nm s.th) (ns'.take j)) 0;rcases F9 hT0 hlt with⟨h1,h2⟩|⟨y,o,h1,h2⟩
     all_goals rw[h1]at hfn
     .skip
      repeat' ((conv=>whnf);first|exact zf|refine zm ?_|refine(bf tx ?_)|refine⟨_,hr,?_⟩|refine⟨_,hfn,?_⟩|refine zB ?_ ?_|refine zt ?_|refine zu ?_|intro _)
      refine .inl ⟨j+1,hlt,(by show ns'.length-(j+1)<ns'.length-j;omega),zzz,⟨aV rfl,aV rfl,aV rfl,aV rfl,aV (by rw[h2]),aV rfl,aV rfl,aV rfl,aV rfl,trivial⟩,rfl⟩
     .skip
      repeat' ((conv=>whnf);first|exact zf|refine zm ?_|refine(bf tx ?_)|refine⟨_,hr,?_⟩|refine⟨_,hfn,?_⟩|refine zB ?_ ?_|refine zt ?_|refine zu ?_|intro _)
      refine .inl ⟨j+1,hlt,(by show ns'.length-(j+1)<ns'.length-j;omega),zzz,⟨aV rfl,aV rfl,aV rfl,aV rfl,aV (κ B.dm h2),aV rfl,aV rfl,aV rfl,aV rfl,trivial⟩,rfl⟩
    .have tx:decide ((j:Int)<((cM (ns'.map b8)).length:Int))=false:=by rw[hlen];simp;omega
     obtain rfl:j=ns'.length:=by omega
     repeat' ((conv=>whnf);first|exact zf|refine zm ?_|refine(bB tx ?_)|refine⟨_,hx,?_⟩|refine zB ?_ ?_|refine zt ?_|refine zu ?_|intro _)
     repeat' ((conv=>whnf);first|exact zf|refine zm ?_|refine zB ?_ ?_|refine zt ?_|refine zu ?_|intro _)
     refine .inr ?_
     repeat' ((conv=>whnf);first|exact zf|refine zm ?_|refine zB ?_ ?_|refine zt ?_|refine zu ?_|intro _)
     rename_i b;have e2:=Ji hq b;have e4:iW (rY (kE m dn s.nm s.th) (ns'.take ns'.length))=iW (kE m (more dn l') s.nm s.th):=by rw[cG];exact κ iW (J5 hn (aG hp) hf).symm
     have e5:(lH m dn bs s.nm).eraseIdx x=lH m (more dn l') bs s.nm:=J9 (p:=(l',g,ns')) hn hf hx;refine⟨(left.erase i,some i,Bs i b nm',more dn l',bs),hi.step hn hmem hp b,List.mh hmem,zzz,?_,rfl⟩;exact⟨aV rfl,aV rfl,aV (κ (λes=>B.ms 1 es none (some (r,left.erase i,some i))) e2),aV rfl,aV (κ B.dm e4),aV (κ (λes=>B.ms 1 es none none) e5),aV rfl,trivial⟩
   .obtain⟨x,hx⟩:=zo (m:=m) (bs:=bs) (aG hp) hd;have hc:=N3 (cM (ns'.map b8)) (by rw[ff,aI];exact(hg.2 _ (aG hp)).1);have hscl:(cM (ns'.map b8)).all (λr=>r.all HA)=true:=by
     rw[aP];intro r hr;unfold cM at hr;obtain⟨x,_,rfl⟩:=bQ.1 hr;rfl
    have hsB:[B.rows 1 (cM (ns'.map b8))].all yy=true:=by show((cM (ns'.map b8)).all (λr=>r.all HA)&&true)=true;rw[hscl];rfl
    have hs2:([B.rows 1 (cM (ns'.map b8))].all yy&&BB (.os 0))=true:=by rw[hsB];rfl
    repeat' ((conv=>whnf);first|exact zf|refine(jQ 1 ?_)|refine DP ?_|refine da _ _ [75] ?_ rfl|refine a8 (a8 ?_)|refine zm ?_|refine⟨_,_,_,⟨rfl,hrow⟩,?_⟩|refine zc h13 ?_|refine(And.intro ⟨rfl,λh=>nomatch h⟩ ?_)|refine(.inl ⟨x,⟨hx,(λj v h=>nomatch h)⟩,λb2=>?_⟩)|refine zr0 ?_|refine⟨_,_,hc,?_⟩|refine(And.intro hs2 ?_)|refine zB ?_ ?_|refine zt ?_|refine zu ?_|intro _)
    all_goals
     rename_i b;have e2:=Ji hq b;have e4:iW (kE m dn s.nm s.th)=iW (kE m (more dn l') s.nm s.th):=κ iW (FM (p:=(l',g,ns')) hf).symm;have e5:eQ x (some (b2,cM (ns'.map b8))) (lH m dn bs s.nm)=lH m (more dn l') (λy=>bif A7 y l' then b2 else bs y) s.nm:=J7 (p:=(l',g,ns')) hn (aG hp) hf hx;refine⟨(left.erase i,some i,Bs i b nm',more dn l',λy=>bif A7 y l' then b2 else bs y),hi.step hn hmem hp b,List.mh hmem,zzz,?_,rfl⟩;exact⟨aV rfl,aV rfl,aV (κ (λes=>B.ms 1 es none (some (r,left.erase i,some i))) e2),aV rfl,aV (κ B.dm e4),aV (κ (λes=>B.ms 1 es none none) e5),aV rfl,trivial⟩
theorem Wv{K:KT}(k:Kn)(hk:K (.ret (.d (.int .i64 k.now))) (fU false k)):Z1 16 [.p 0 0] (fU false k) K:=by
 refine sh0 Tryz.f16 ?_
 repeat' ((conv=>whnf);first|exact zf|refine zm ?_|refine zB ?_ ?_|intro _)
 exact hk
theorem SR{K:KT}(l:List (List D))(hl:l.length<1000000000)(hk:K (.ret (.os 0)) [.rows 8 l]):Z1 34 [.d (.sl 8 l)] [] K:=by
 refine si0 Tryz.f34 ?_;cases l with
 |nil=>
  repeat' ((conv=>whnf);first|exact zf|refine zm ?_|refine zB ?_ ?_|refine And.intro ?_ ?_|intro _)
  all_goals exact hk
 |cons x r=>
  repeat' ((conv=>whnf);first|exact zf|refine zm ?_|refine zB ?_ ?_|intro _)
  all_goals exact hk
theorem JK{K:KT}(k:Kn)(hn:k.le.length<100000000)(hk:K (.ret (.os 8)) (fU false k++[.rows 8 (k.le.map jT)])):Z1 13 [.p 0 0] (fU false k) K:=by
 have h1:=SR (K:=λout h=>out=.ret (.os 0)/\h=[.rows 8 (k.le.map jT)]) (k.le.map jT) (by rw[aI];omega) ⟨rfl,rfl⟩;have h2:([B.rows 8 (k.le.map jT)].all yy&&BB (.os 0))=true:=by simp[yy,BB,EW,jT,lh,HA]
 refine si0 Tryz.f13 ?_
 repeat' ((conv=>whnf);first|exact zf|refine DP ?_|refine da _ _ [34] ?_ rfl|refine a8 (a8 ?_)|refine zm ?_|refine zr0 ?_|refine⟨_,_,h1,?_⟩|refine(And.intro h2 ?_)|refine zB ?_ ?_|intro _)
 exact hk
def Nx(k:Kn)(l:Lb):List Fa:=k.fa.filter λf=>bH f.l l
theorem Uo{K:KT}(k:Kn)(l:Lb)(hl:cC l)(hf:∀f∈k.fa,cC f.l)(hn:k.fa.length<100000000)(hk:K (.ret (.os 8)) (fU false k++[.rows 9 ((Nx k l).map fm)])):Z1 12 [.p 0 0,lO l] (fU false k) K:=by
 have e1:(k.fa.map fm).length=k.fa.length:=aI _;refine si0 Tryz.f12 ?_
 repeat' ((conv=>whnf);first|exact zf|refine zm ?_|refine zB ?_ ?_|intro _)
 conv=>whnf
 refine bA [(3,.p 8 0),(5,.os 10),(11,.os 6),(12,.d (.int .i64 (k.fa.map fm).length))] (λj:Nat=>j<=k.fa.length) (λj=>[(13,.d (.int .i64 j))]) (λj=>fU false k++[.cells [.d (.str l.s),.d (.str l.i)],.rows 9 [],.rows 9 (((k.fa.take j).filter λf=>bH f.l l).map fm)]) (λj=>k.fa.length-j) 0 (aY _) ?_ ?_ ?_ (λj hi=>?_)
 .exact zzz
 .exact zzz
 .exact rfl
 repeat' ((conv=>whnf);first|exact zf|refine zm ?_|refine zB ?_ ?_|intro _)
 refine aU (λhlt=>?_) (λhge=>?_)
 .have hlt:j<k.fa.length:=by rw[<-e1];simpa using hlt
  obtain⟨x,hx⟩:∃x,k.fa[j]?=some x:=⟨_,aA hlt⟩
  have hrow:(k.fa.map fm)[j]?=some (fm x):=by rw[aB,hx];rfl
  have h2:=gi x.l l (hf x (aG hx)) hl;have hle:(((k.fa.take j).filter λf=>bH f.l l).map fm).length<100000000:=by
   rw[aI];have:=List.length_filter_le (λf:Fa=>bH f.l l) (k.fa.take j);rw[a_]at this;omega
  have e2:((k.fa.take (j+1)).filter λf=>bH f.l l).map fm=((k.fa.take j).filter λf=>bH f.l l).map fm++(bif bH x.l l then[fm x]else[]):=by
   rw[bV,hx,List.filter_append,bt];cases h:bH x.l l<;>simp[h]
  have hnx:j+1<=k.fa.length:=hlt;cases h:bH x.l l with
  |true=>
   rw[h]at h2 e2
   repeat' ((conv=>whnf);first|exact zf|refine(tD ?_)|refine zm ?_|refine⟨fm x,hrow,?_⟩|refine zc h2 ?_|refine zB ?_ ?_|intro _)
   refine⟨j+1,hnx,aN hlt (aQ j),zzz,(by rw[e2];exact zzz),rfl⟩
  |false=>
   rw[h,ε,eI]at e2;rw[h]at h2
   repeat' ((conv=>whnf);first|exact zf|refine zm ?_|refine⟨fm x,hrow,?_⟩|refine zc h2 ?_|refine zB ?_ ?_|intro _)
   refine⟨j+1,hnx,aN hlt (aQ j),zzz,(by rw[e2];exact zzz),rfl⟩
 .have hge:j=k.fa.length:=by
   have h1:¬j<k.fa.length:=by rw[<-e1];simpa using hge
   omega
  subst hge;rw[cG]
  repeat' ((conv=>whnf);first|exact zf|refine zm ?_|refine zB ?_ ?_|intro _)
  exact hk
theorem N1(l:List (List D))(hl:l.length<1000000000):Z0 35 [.d (.sl 14 l)] (.d (.sl 14 l)):=by
 refine sh0 Tryz.f35 ?_;cases l with
 |nil=>
  repeat' ((conv=>whnf);first|exact zf|refine zm ?_|refine zB ?_ ?_|refine And.intro ?_ ?_|intro _)
 |cons r l=>
  repeat' ((conv=>whnf);first|exact zf|refine zm ?_|refine zB ?_ ?_|intro _)
theorem Dq(l:List (List D))(hl:l.length<1000000000):Z0 36 [.d (.sl 5 l)] (.d (.sl 5 l)):=by
 refine sh0 Tryz.f36 ?_;cases l with
 |nil=>
  repeat' ((conv=>whnf);first|exact zf|refine zm ?_|refine zB ?_ ?_|refine And.intro ?_ ?_|intro _)
 |cons r l=>
  repeat' ((conv=>whnf);first|exact zf|refine zm ?_|refine zB ?_ ?_|intro _)
theorem N0(l:List (List D))(hl:l.length<1000000000):Z0 37 [.d (.sl 3 l)] (.d (.sl 3 l)):=by
 refine sh0 Tryz.f37 ?_;cases l with
 |nil=>
  repeat' ((conv=>whnf);first|exact zf|refine zm ?_|refine zB ?_ ?_|refine And.intro ?_ ?_|intro _)
 |cons r l=>
  repeat' ((conv=>whnf);first|exact zf|refine zm ?_|refine zB ?_ ?_|intro _)
def Wx:Th:=⟨[],[],YA,⟨[],[],[]⟩,[],0,0,0,[],ck,false⟩
def TN(k:Kn)(id:List UInt8):Th:=((dy id k.th).map (·.2)).getD Wx
def Wy:List V:=[.d (.str []),.d (.str []),.d (.str []),.d (.str []),.d (.str []),.d (.str []),.nl 5,.nl 5,.nl 3,.nl 14,.d (.int .i64 0),.d (.int .i64 0),.d (.int .i64 0),.d (.str []),.d (.int .i64 0),.d (.int .i64 0),.d (.str []),.d (.str []),.d (.str []),.d (.bool false)]
def Td(t:Th)(i:Nat):List V:=((eF t).map .d).set 6 (.os i)
theorem jv{α:Type}{l:List α}{j:Nat}{x:α}(h:l[j]?=some x):l.set j x=l:=by
 apply bz;intro i;rw[eE];split
 .rename_i e;subst e;rw[ζ (aC.1 h).1,h]
 .rfl
theorem C8{K:KT}(k:Kn)(id:List UInt8)(hn:∀p∈k.th,p.2.c.fr.length<100000000/\p.2.c.st.length<100000000/\p.2.c.tr.length<100000000/\p.2.sc.length<100000000/\∀f∈p.2.c.fr,f.vars.length<100000000)
  (hk:K (.ret (.tu [eW (TN k id),.d (.bool (dy id k.th).isSome)])) (fU false k)):Z1 14 [.p 0 0,.d (.str id)] (fU false k) K:=by
 have hm:=pg id k.th 0;unfold TN at hk;cases h:dy id k.th with
 |none=>
  rw[h]at hm hk;refine sh0 Tryz.f14 ?_
  repeat' ((conv=>whnf);first|exact zf|refine zm ?_|refine zB ?_ ?_|intro _)
  refine⟨_,hm,?_⟩
  repeat' ((conv=>whnf);first|exact zf|refine zm ?_|refine zB ?_ ?_|intro _)
  exact hk
 |some p=>
  obtain⟨i,t⟩:=p;obtain⟨pt,hpt,ept⟩:=oh h;have hn:=hn pt hpt;rw[show pt.2=t from ept]at hn;obtain⟨n1,n2,n3,n4,n5⟩:=hn;rw[h]at hm hk
  replace hk:K (.ret (.tu [eW t,.d (.bool true)])) (fU false k):=hk
  have c1:=N1 (t.sc.map fI) (by rw[aI];omega);have c2:=Dq (t.c.st.map b9) (by rw[aI];omega);have c3:=N0 (t.c.tr.map eJ) (by rw[aI];omega);have c4:=λ{K:KT}=>qg (K:=K) (t.c.fr.map bP) (by rw[aI];omega);have e1:(t.c.fr.map bP).length=t.c.fr.length:=aI _;refine sh0 Tryz.f14 ?_
  repeat' ((conv=>whnf);first|exact zf|refine zm ?_|refine zB ?_ ?_|intro _)
  refine⟨_,hm,?_⟩
  repeat' ((conv=>whnf);first|exact zf|refine zm ?_|refine zc c1 ?_|refine zc c2 ?_|refine zc c3 ?_|refine(c4 ?_)|refine zB ?_ ?_|intro _)
  conv=>whnf
  refine bA [(4,.p 8 0),(6,.p 9 0),(46,.d (.int .i64 (t.c.fr.map bP).length))] (λj:Nat=>j<=t.c.fr.length) (λj=>[(47,.d (.int .i64 j))]) (λ_=>fU false k++[.cells Wy,.cells (Td t 10),.rows 5 (t.c.fr.map bP)]) (λj=>t.c.fr.length-j) 0 (aY _) ?_ ?_ ?_ (λj hi=>?_)
  .exact zzz
  .exact zzz
  .exact rfl
  repeat' ((conv=>whnf);first|exact zf|refine zm ?_|refine zB ?_ ?_|intro _)
  refine aU (λhlt=>?_) (λhge=>?_)
  .have hlt:j<t.c.fr.length:=by rw[<-e1];simpa using hlt
   obtain⟨f,hx⟩:∃f,t.c.fr[j]?=some f:=⟨_,aA hlt⟩
   have hrow:(t.c.fr.map bP)[j]?=some (bP f):=by rw[aB,hx];rfl
   have c5:=Dq (f.vars.map b9) (by rw[aI];have:=n5 f (aG hx);omega);have e2:(t.c.fr.map bP).set j (bP f)=t.c.fr.map bP:=jv hrow
   repeat' ((conv=>whnf);first|exact zf|refine zm ?_|refine⟨bP f,hrow,?_⟩|refine zc c5 ?_|refine zB ?_ ?_|intro _)
   refine⟨j+1,hlt,aN hlt (aQ j),zzz,(by rw[show List.set (t.c.fr.map bP) (j:Int).toNat (lay (bP f) 4 [D.sl 5 (f.vars.map b9)])=t.c.fr.map bP from e2];exact zzz),rfl⟩
  .skip
   repeat' ((conv=>whnf);first|exact zf|refine zm ?_|refine zB ?_ ?_|intro _)
   exact hk
theorem L9{K:KT}(k:Kn)(hn:k.s.nm.Pairwise λa b=>a.1≠b.1)(ht:k.s.th.Pairwise λa b=>a.1≠b.1)(hg:mj k.s)(hl:∀p∈k.s.nm,cC p.1)
  (hk:∀(nm':my)(bs:Lb->Option Nat),nm'.map strip=k.s.nm.map strip->K (.ret (.p 8 0)) (fU false {k with s:=⟨k.s.th,nm'⟩}++[.cells [.mp 9,.mp 10],.dm (iW (kE ⟨[0],[]⟩ (λ_=>true) k.s.nm k.s.th)),.ms 1 (ik (Jb ⟨[0],[]⟩ bs k.s.nm)) none none])) :
  Z1 17 [.p 0 0] (fU false k) K:=by
 have h1:=J4;have h2:=λ{K:KT}=>Rq (K:=K) k.s ⟨[0],[]⟩ hn ht hg (And.intro (show 1<=_ by decide) (show 0<=_ by decide)) hl;refine sh0 Tryz.f17 ?_
 repeat' ((conv=>whnf);first|exact zf|refine zm ?_|refine zc h1 ?_|refine zr0 ?_|refine(h2 (λnm' bs hs=>?_))|refine zB ?_ ?_|intro _)
 exact hk _ _ hs
theorem L4(sc:Bool)(m:Int):Z0 28 [sC (gE sc m).im] (.tu [.d (.int .i64 0),.d (.int .i64 0),.d (.int .i64 0)]):=by
 have h:lJ (gE sc m).im 300 (gE sc m).im.fs 0=some (0,0,0):=by cases sc<;>kernel_rfl
 refine Ds (gE sc m).im ⟨(by decide:4<=64),λv hv=>?_,(by decide:0<2),(by decide:2<=16),λf hf=>?_⟩ 300 (0,0,0) h
 .rcases ah.1 hv with rfl|hv
  .exact⟨.inr rfl,tX kW lB rfl⟩
  .rcases ah.1 hv with rfl|hv
   .exact⟨.inr rfl,tX a1 (PG (by decide) (by decide)) zx0⟩
   .rcases ah.1 hv with rfl|hv
    .exact⟨.inl rfl,tY 2⟩
    .rw[aF.1 hv];exact⟨.inl rfl,tY 9⟩
 .have:∀sc,(gE sc 0).im.fs.all tt=true:=by intro sc;cases sc<;>kernel_rfl
  exact aP.1 (this sc) f hf
theorem TM{sc:Bool}{m:Int}{s:br}(h:sD (gE sc m) (gE sc m).bx.length s):∃g,s=PD g:=by
 change sD (gE sc m) 1 s at h
 cases h with
 |s b h hx=>
  cases h;cases hx;exact⟨b,by kernel_rfl⟩
theorem wc{K:KT}(sc:Bool)(m:Int)(hm:m=0\/m=1)(hK:∀g,KI 255 20 1 (iY (gE sc m) (PD g) 1)->K (.ret (.tu [.p 0 0,.d (.int .i64 0),.d (.int .i64 0)])) (fU false (iY (gE sc m) (PD g) 1))):Z1 8 [yF (gE sc m)] [] K:=
 Wz (L1 sc m hm) (L4 sc m) (by rw[Nz sc m hm]) λs hs h=>by
  obtain⟨g,rfl⟩:=TM hs;exact hK g h
theorem Ud:Z0 8 [yF ⟨⟨[],[]⟩,[],[]⟩] (.tu [.d .np,.d (.int .i64 0),.d (.int .i64 6)]):=
 H_ ⟨⟨[],[]⟩,[],[]⟩ 0 0 6 K3 ⟨λb hb=>(by cases hb),λb hb=>(by cases hb),by decide,by decide⟩ (by decide)
theorem zM(n:Int):Z0 15 [.d (.int .i64 n)] (jh (num n)):=by
 refine sh0 Tryz.f15 ?_
 repeat' ((conv=>whnf);first|exact zf|refine zm ?_|refine zB ?_ ?_|intro _)
theorem Cs{K:KT}{f:Nat->Option Nat->Kn}{i:Nat}(hi:i<31){g:Option Nat}(h:KI 255 (20+40*i) (i+1) (f i g))(ho:(f i g).ord=[[1]])
  (hs:∀b b',∃g',PB i (f i g) b b'=f (i+1) g') (hk:∀b g',KI 255 (20+40*(i+1)) (i+2) (f (i+1) g')->K (.ret (.d (.bool (runs (kN (tN (f i g)) [49] b) [49])))) (fU false (f (i+1) g'))) :
  Z1 11 [.p 0 0,.d (.str [49])] (fU false (f i g)) K:=by
 refine Ta h (by decide) (by decide) (by omega) [49] λk' b hb _ hK=>?_;rw[ho]at hb;cases hb with
 |s b2 hb hx=>
  cases hb;cases hx;obtain⟨g',e⟩:=hs b2 b;unfold PB at e;rw[show b8 [1]=[49]by kernel_rfl]at hK⊢;rw[show i+1+1=i+2 from rfl,e]at hK⊢;exact hk b2 g' (hK.mono (by omega) (aL _))
def WZ(s:br):H:=[.cells [.mp 9,.mp 10],.dm (iW s.th),.ms 1 (ik s.nm) none none]
theorem L8{K:KT}{g:Option Nat}{N M:Nat}(h:KI 255 N M (kK 31 g))(hN:N<100000000)(hk:∀(k':Kn)(nm:my),K (.ret (.p 8 0)) (fU false k'++WZ ⟨(Vn g).th,nm⟩)):Z1 17 [.p 0 0] (fU false (kK 31 g)) K:=by
 refine L9 (kK 31 g) (List.pairwise_singleton _ _) ?_ (h.so.gs hN) (λp hp=>?_) λnm' bs _=>?_
 .show[(([48]:List UInt8),V0),([49,46,48],V0)].Pairwise _;simp
 .rw[aF.1 (show p∈[(a1,g,[[0],[1,0]])]from hp)];exact PG (l:=a1) (by decide) (by decide)
 .rw[show kE ⟨[0],[]⟩ (λ_=>true) (kK 31 g).s.nm (kK 31 g).s.th=(Vn g).th by kernel_rfl];exact hk {kK 31 g with s:=⟨(kK 31 g).s.th,nm'⟩} (Jb ⟨[0],[]⟩ bs (kK 31 g).s.nm)
def Yf(k:Kn):H:=[FE k 9 10 11 14 15,.dm (k_ k.th),GB false k.ord,.cells [.mp 12,.mp 13],.dm (iW k.s.th),.ms 1 (ik k.s.nm) none none,.rows 9 (k.fa.map fm),.rows 8 (k.le.map jT)]
def XF(k:Kn):H:=[FE k 17 18 19 22 23,.dm (k_ k.th),GB false k.ord,.cells [.mp 20,.mp 21],.dm (iW k.s.th),.ms 1 (ik k.s.nm) none none,.rows 9 (k.fa.map fm),.rows 8 (k.le.map jT)]
structure XI(i:Nat)(a b c:Option Nat):Prop where
  le:i<=30
  a:KI 255 (20+40*i) (i+1) (kK i a)
  b:KI 255 (20+40*i) (i+1) (dK 1 i b)
  c:KI 255 (20+40*i) (i+1) (dK 0 i c)
set_option maxRecDepth 100000 in
theorem FZ:Z0 4 [] (.d (.bool true)):=by
  have t1:=GZ true 0
  have t2:=GZ false 1
  have t3:=GZ false 0
  have n4:=Ud
  have n1:=λ{K:KT}=>wc (K:=K) true 0 (.inl rfl)
  have n2:=λ{K:KT}=>wc (K:=K) false 1 (.inr rfl)
  have n3:=λ{K:KT}=>wc (K:=K) false 0 (.inl rfl)
  have e1:∀g,iY (gE true 0) (PD g) 1=kK 0 g:=λg=>by kernel_rfl
  have e2:∀g,iY (gE false 1) (PD g) 1=dK 1 0 g:=λg=>by kernel_rfl
  have e3:∀g,iY (gE false 0) (PD g) 1=dK 0 0 g:=λg=>by kernel_rfl
  simp only[e1]at n1
  simp only[e2]at n2
  simp only[e3]at n3
  refine s4.go (keep:=false) rfl ?_
  repeat' ((conv=>whnf);first|exact zf|refine zm ?_|refine zc t1 ?_|refine zc t2 ?_|refine zc t3 ?_|refine zc n4 ?_|refine zr0 ?_|refine(n1 (λg1 k1=>?_))|refine(n2 (λg2 k2=>?_))|refine(n3 (λg3 k3=>?_))|refine zB ?_ ?_|intro _)
  conv=>whnf
  refine bA [(1,.p 0 0),(3,.d (.int .i64 0)),(4,.p 8 0),(6,.d (.int .i64 0)),(7,.p 16 0),(9,.d (.int .i64 0)),(12,.d (.int .i64 6))] (λq:Nat×Option Nat×Option Nat×Option Nat=>XI q.1 q.2.1 q.2.2.1 q.2.2.2) (λq=>[(13,.d (.int .i64 q.1))]) (λq=>fU false (kK q.1 q.2.1)++Yf (dK 1 q.1 q.2.2.1)++XF (dK 0 q.1 q.2.2.2)) (λq=>30-q.1) (0,g1,g2,g3) ⟨aY _,k1,k2,k3⟩ ?_ ?_ ?_ (λ⟨i,a,b,c⟩ hq=>?_)
  · exact zzz
  · exact zzz
  · exact rfl
  by_cases hi:i<30
  · have hi':decide ((i:Int)<30)=true:=by simp;omega
    have p1:=λ{K:KT}=>Cs (K:=K) (f:=kK) (by omega) hq.a rfl λb b'=>⟨_,YD i (by omega) a b b'⟩
    have p2:=λ{K:KT}=>Cs (K:=K) (f:=dK 1) (by omega) hq.b rfl λx b'=>⟨_,Yj i (by omega) b x b'⟩
    have p3:=λ{K:KT}=>Cs (K:=K) (f:=dK 0) (by omega) hq.c rfl λx b'=>⟨_,YY i (by omega) c x b'⟩
    repeat' ((conv=>whnf);first|exact zf|refine zm ?_|refine(bf hi' ?_)|refine zr0 ?_|refine(p1 (λ_ a' ka=>?_))|refine(p2 (λ_ b' kb=>?_))|refine(p3 (λ_ c' kc=>?_))|refine zB ?_ ?_|intro _)
    exact⟨(i+1,a',b',c'),⟨by omega,ka,kb,kc⟩,by omega,zzz,zzz,rfl⟩
  · have e:i=30:=by have:=hq.le;omega
    subst e
    have hl:=λ{K:KT}=>Uo (K:=K) (kK 30 a) kW lB hq.a.fs (dh hq.a.fa (show 20+40*30<100000000 by decide))
    rw[show Nx (kK 30 a) kW=[⟨17,[49],kW,num 9⟩]by kernel_rfl]at hl
    have he:=λ{K:KT}=>JK (K:=K) (dK 1 30 b) (dh hq.b.le (show 20+40*30<100000000 by decide))
    have h0:=λ{K:KT}=>JK (K:=K) (kK 30 a) (dh hq.a.le (show 20+40*30<100000000 by decide))
    rw[show(dK 1 30 b).le=[⟨5,[49],⟨42,a1,kW,1⟩⟩]from rfl]at he
    rw[show(kK 30 a).le=[]from rfl]at h0
    have s1:=λ{K:KT}=>C8 (K:=K) (kK 30 a) [49] λp hp=>by rw[aF.1 hp];exact⟨by decide,by decide,by decide,by decide,λf hf=>by cases hf⟩
    have s2:=λ{K:KT}=>C8 (K:=K) (dK 0 30 c) [49] λp hp=>by rw[aF.1 hp];exact⟨by decide,by decide,by decide,by decide,λf hf=>by rw[aF.1 hf];decide⟩
    have nw:=λ{K:KT}=>Wv (K:=K) (kK 30 a)
    have pk:=λ{K:KT}=>Cs (K:=K) (f:=kK) (i:=30) (by omega) hq.a rfl λb b'=>⟨_,YD 30 (by omega) a b b'⟩
    have m1:=zM 9
    have m2:=zM (-3)
    have ln:=λ{K:KT}(g:Option Nat)(nm:my)=>Ut (K:=K) ⟨(Vn g).th,nm⟩
    repeat' ((conv=>whnf);first|exact zf|refine(a8 (a8 ?_))|refine zm ?_|refine(bB (by decide) ?_)|refine zr0 ?_|refine(hl ?_)|refine(he ?_)|refine(h0 ?_)|refine(s1 ?_)|refine(s2 ?_)|refine zc m1 ?_|refine zc m2 ?_|refine(nw ?_)|refine(pk (λ_ a' ka=>?_))|refine(L8 ka (by decide) (λk' nm=>?_))|refine(ln a' nm ?_)|refine⟨fm ⟨17,[49],kW,num 9⟩,rfl,?_⟩|refine⟨jT ⟨5,[49],⟨42,a1,kW,1⟩⟩,rfl,?_⟩|refine zB ?_ ?_|intro _)
abbrev Ty:=Int×Int
def nU(im:Im)(o:Op)(i:Info)(x d t:Int):List (Int×Ty):=
 bif o.c==18||o.c==19 then[]
 else bif o.c==15 then[(o.a,(d-bm im o+i.pu,t))]
 else bif o.c==16 then[(o.a,(d-bm im o+i.pu,t)),(x+1,(d-bm im o+i.pu,t))]
 else bif o.c==20 then[(x+1,(d-bm im o+i.pu,t+1)),(o.a,(d+1,t))]
 else bif o.c==21 then[(x+1,(d-bm im o+i.pu,t-1))]
 else[(x+1,(d-bm im o+i.pu,t))]
def LV(tys:List Ty)(p:Int×Ty):Prop:=∃y:Nat,p.1=y/\tys[y]?=some p.2
structure Typed(im:Im)(code:List Op)(tys:List Ty):Prop where
  len:tys.length=code.length
  at':∀(x:Nat)(o:Op),code[x]?=some o->∃i d t,inf o.c=some i/\tys[x]?=some (d,t)/\(0<=d/\d<=32/\0<=t/\t<=16)/\(bm im o<=d/\d-bm im o+i.pu<=32)/\(o.c=21->0<t)/\(o.c=20->t<16/\d<32)/\∀p∈nU im o i x d t,LV tys p
theorem p8{x:Int}{r:Nat×Ty}:∀{s:Sn}{i:Nat},gF s x i=some r->(x,r.2)∈s
 |[],_,h=>by cases h
 |p::q,i,h=>by
  simp only[gF]at h;cases hx:x==p.1 with
  |true=>
   rw[hx]at h;simp only[δ,aD]at h;subst h;have:=beq_iff_eq.1 hx;subst this;exact aw
  |false=>
   rw[hx]at h;exact bU _ (p8 h)
theorem uH{x:Int}:∀{s:Sn}{i:Nat},gF s x i=none->x∉s.map (·.1)
 |[],_,_=>by simp
 |p::q,i,h=>by
  simp only[gF]at h;cases hx:x==p.1 with
  |true=>rw[hx]at h;cases h
  |false=>
   rw[hx]at h;have h1:=uH h;have h2:x≠p.1:=by simpa using hx
   simp only[dI,ah,not_or];exact⟨h2,h1⟩
theorem tv{s:Sn}(h:(s.map (·.1)).Nodup){x:Int}{p q:Ty}(h1:(x,p)∈s)(h2:(x,q)∈s):p=q:=by
 induction s with
 |nil=>cases h1
 |cons y s ih=>
  simp only[dI,db]at h;rcases ah.1 h1 with e1|e1<;>rcases ah.1 h2 with e2|e2
  .rw[<-e1]at e2;cases e2;rfl
  .exact absurd (bQ.2 ⟨_,e2,by rw[<-e1]⟩) h.1
  .exact absurd (bQ.2 ⟨_,e1,by rw[<-e2]⟩) h.1
  .exact ih h.2 e1 e2
theorem Es{s:Sn}(h:(s.map (·.1)).Nodup){x:Int}{p:Ty}(hm:(x,p)∈s):∃j,gF s x 0=some (j,p):=by
 cases hl:gF s x 0 with
 |none=>exact absurd (bQ.2 ⟨_,hm,rfl⟩) (uH hl)
 |some r=>
  have:=tv h (p8 hl) hm;subst this;exact⟨r.1,rfl⟩
structure GF(tys:List Ty)(s:Sn)(l:List Int):Prop where
  sub:∀p∈s,LV tys p
  nd:(s.map (·.1)).Nodup
  lk:∀y∈l,y∈s.map (·.1)
  ln:l.Nodup
structure yH(tys:List Ty)(s:Sn)(l:List Int)(q:Sn×List Int):Prop where
  r:GF tys q.1 q.2
  ss:∀p∈s,p∈q.1
  nw:∀p∈q.1,p∈s\/p.1∈q.2
  ll:∀y∈l,y∈q.2
  ol:∀y∈q.2,y∈l\/y∉s.map (·.1)
  ct:q.1.length+l.length=s.length+q.2.length
theorem yH.refl{tys:List Ty}{s:Sn}{l:List Int}(h:GF tys s l):yH tys s l (s,l):=⟨h,λ_ h=>h,λ_ h=>.inl h,λ_ h=>h,λ_ h=>.inl h,rfl⟩
theorem yH.trans{tys:List Ty}{s:Sn}{l:List Int}{q r:Sn×List Int}(h:yH tys s l q)(k:yH tys q.1 q.2 r):yH tys s l r:=
 ⟨k.r,λp hp=>k.ss p (h.ss p hp),λp hp=>(k.nw p hp).elim (λh1=>(h.nw p h1).imp (λh=>h) (k.ll _)) .inr,λy hy=>k.ll y (h.ll y hy),
  λy hy=>(k.ol y hy).elim (h.ol y) λh1=>.inr λh2=>h1 (by obtain⟨p,hp,rfl⟩:=bQ.1 h2;exact bQ.2 ⟨p,h.ss p hp,rfl⟩),by have:=h.ct;have:=k.ct;omega⟩
theorem xI{tys:List Ty}{s:Sn}{l:List Int}(h:GF tys s l){y:Int}{p:Ty}(hy:LV tys (y,p)):∃q,yR s l y p=some q/\yH tys s l q/\(y,p)∈q.1:=by
 unfold yR;cases hl:gF s y 0 with
 |some r=>
  have hm:=p8 hl;obtain⟨k,e1,e2⟩:=hy;obtain⟨k',e3,e4⟩:=h.sub _ hm;have hk:k'=k:=by
   have:(k':Int)=k:=e3.symm.trans e1;omega
  subst hk;have hp:r.2=p:=by
   simp only at e2 e4;rw[e2]at e4;exact(af e4).symm
  subst hp;refine⟨(s,l),?_,.refl h,hm⟩;simp
 |none=>
  have hn:=uH hl;have hyl:y∉l:=λhy=>hn (h.lk y hy);have hi:ins l y=l++[y]:=by
   unfold ins;cases hmi:rL l y 0 with
   |none=>rfl
   |some j=>
    obtain⟨_,h2⟩:=qR hmi;exact absurd (aG h2) hyl
  refine⟨_,rfl,⟨⟨λq hq=>?_,?_,λz hz=>?_,?_⟩,λq hq=>by simp[hq],λq hq=>?_,λz hz=>by simp[hi,hz],λz hz=>?_,by simp[hi];omega⟩,by simp⟩
  .simp only[aT,aF]at hq;rcases hq with hq|rfl
   .exact h.sub q hq
   .exact hy
  .simp only[bt,dI,gO];exact List.nodup_append.2 ⟨h.nd,by simp,λa ha b hb e=>by
    simp at hb;subst hb e;exact hn ha⟩
  .simp only[hi,aT,aF]at hz;rcases hz with hz|rfl
   .simp only[bt,aT];exact .inl (h.lk z hz)
   .simp
  .simp only[hi];exact List.nodup_append.2 ⟨h.ln,by simp,λa ha b hb e=>by
    simp at hb;subst hb e;exact hyl ha⟩
  .simp only[aT,aF]at hq;rcases hq with hq|rfl
   .exact .inl hq
   .exact .inr (by simp[hi])
  .simp only[hi,aT,aF]at hz;rcases hz with hz|rfl
   .exact .inl hz
   .exact .inr hn
theorem Ch{tys:List Ty}{s:Sn}{l:List Int}(h:GF tys s l){n:Nat}(hn:tys.length=n){x:Int}{o:Op}{p:Ty}(hl:last o.c=false)(hy:LV tys (x+1,p)):∃q,sq n x o s l p=.ok q/\yH tys s l q/\(x+1,p)∈q.1:=by
 obtain⟨q,h1,h2,h3⟩:=xI h hy;refine⟨q,?_,h2,h3⟩;obtain⟨y,e1,e2⟩:=hy;have hlt:y<n:=by rw[<-hn];exact(aC.1 e2).1
 have hd:decide (x+1<(n:Int))=true:=by
  simp only at e1;rw[e1];simpa using hlt
 unfold sq;rw[hl,hd,h1];rfl
theorem Ci{n:Nat}{x:Int}{o:Op}{s:Sn}{l:List Int}{p:Ty}(hl:last o.c=true):sq n x o s l p=.ok (s,l):=by
 unfold sq;rw[hl];rfl
theorem QO{im:Im}{code:List Op}{tys:List Ty}(hT:Typed im code tys){s:Sn}{l:List Int}(h:GF tys s l){x:Nat}{o:Op}(ho:code[x]?=some o){i:Info}{d t:Int}(hi:inf o.c=some i)(hx:tys[x]?=some (d,t)) :
  ∃q,rk im code.length o i x (d,t) s l=.ok q/\yH tys s l q/\∀p∈nU im o i x d t,p∈q.1:=by
 obtain⟨i',d',t',e1,e2,hb,⟨h1,h2⟩,h3,h4,h5⟩:=hT.at' x o ho;rw[hi]at e1;cases e1;rw[hx]at e2;cases e2;have hd:(decide (bm im o<=d)&&decide (d-bm im o+i.pu<=32))=true:=by simp[h1,h2]
 unfold rk;simp only;rw[hd];simp only[δ];unfold nU at h5⊢
 by_cases c21:o.c=21
 .have hl:last o.c=false:=by rw[c21];rfl
  rw[c21]at h5⊢;have ht:decide (0<t)=true:=by simpa using h3 c21
  obtain⟨q,g1,g2,g3⟩:=Ch h hT.len hl (h5 _ (by exact aw));refine⟨q,?_,g2,λp hp=>?_⟩
  .simp only[beq_self_eq_true,δ,ht];exact g1
  .have:p=_:=aF.1 (show p∈[_]from hp);rw[this];exact g3
 by_cases c20:o.c=20
 .have hl:last o.c=false:=by rw[c20];rfl
  rw[c20]at h5⊢;obtain⟨k1,k2⟩:=h4 c20;have ht:(decide (t<16)&&decide (d<32))=true:=by simp[k1,k2]
  obtain⟨q,g1,g2,g3⟩:=Ch h hT.len hl (h5 _ (by exact aw));obtain⟨r,f1,f2,f3⟩:=xI g2.r (h5 _ (by exact bU _ aw));refine⟨r,?_,g2.trans f2,λp hp=>?_⟩
  .show(bif (20:Int)==21 then _ else bif (20:Int)==20 then bif decide (t<16)&&decide (d<32)then _ else _ else _)=_;rw[ht];simp only[show((20:Int)==21)=false from rfl,show((20:Int)==20)=true from rfl,ε,δ];rw[g1];simp only;rw[f1]
  .rcases ah.1 (show p∈[_,_]from hp)with rfl|hp
   .exact f2.ss _ g3
   .rw[aF.1 hp];exact f3
 by_cases c16:o.c=16
 .have hl:last o.c=false:=by rw[c16];rfl
  rw[c16]at h5⊢;obtain⟨q,g1,g2,g3⟩:=xI h (h5 _ (by exact aw));obtain⟨r,f1,f2,f3⟩:=Ch g2.r hT.len hl (h5 _ (by exact bU _ aw));refine⟨r,?_,g2.trans f2,λp hp=>?_⟩
  .simp only[show((16:Int)==21)=false from rfl,show((16:Int)==20)=false from rfl,show((16:Int)==16)=true from rfl,Bool.true_or,ε,δ];rw[g1];exact f1
  .rcases ah.1 (show p∈[_,_]from hp)with rfl|hp
   .exact f2.ss _ g3
   .rw[aF.1 hp];exact f3
 by_cases c15:o.c=15
 .have hl:last o.c=true:=by rw[c15];rfl
  rw[c15]at h5⊢;obtain⟨q,g1,g2,g3⟩:=xI h (h5 _ (by exact aw));refine⟨q,?_,g2,λp hp=>?_⟩
  .simp only[show((15:Int)==21)=false from rfl,show((15:Int)==20)=false from rfl,show((15:Int)==16)=false from rfl,show((15:Int)==15)=true from rfl,Bool.false_or,ε,δ];rw[g1];exact Ci hl
  .have:p=_:=aF.1 (show p∈[_]from hp);rw[this];exact g3
 have b21:(o.c==21)=false:=by simpa using c21
 have b20:(o.c==20)=false:=by simpa using c20
 have b16:(o.c==16)=false:=by simpa using c16
 have b15:(o.c==15)=false:=by simpa using c15
 simp only[b21,b20,b16,b15,Bool.or_self,ε]at h5⊢
 by_cases c18:o.c=18\/o.c=19
 .have hl:last o.c=true:=by rcases c18 with e|e<;>rw[e]<;>rfl
  have b18:(o.c==18||o.c==19)=true:=by simpa using c18
  rw[b18];exact⟨(s,l),Ci hl,.refl h,λp hp=>by cases hp⟩
 .have b18:(o.c==18||o.c==19)=false:=by simpa using c18
  have hl:last o.c=false:=by
   unfold last;rw[b15,b18];rfl
  rw[b18]at h5⊢;obtain⟨q,g1,g2,g3⟩:=Ch h hT.len hl (h5 _ (by exact aw));refine⟨q,g1,g2,λp hp=>?_⟩;have:p=_:=aF.1 (show p∈[_]from hp);rw[this];exact g3
theorem tw:∀{l m:List Int},l.Nodup->(∀x∈l,x∈m)->l.length<=m.length
 |[],_,_,_=>by simp
 |x::l,m,h,hs=>by
  obtain⟨h1,h2⟩:=db.1 h;have hm:=hs x (by simp);have:=tw (m:=m.erase x) h2 λy hy=>(List.mem_erase_of_ne (λe:y=x=>h1 (e ▸ hy))).2 (hs y (by simp[hy]));rw[List.length_erase_of_mem hm]at this;have:=List.length_pos_of_mem hm;simp only[aZ];omega
def LG(im:Im)(code:List Op)(s:Sn)(l:List Int):Prop:=
 ∀p∈s,p.1∉l->∀(x:Nat)(o:Op)(i:Info),p.1=x->code[x]?=some o->inf o.c=some i->∀q∈nU im o i x p.2.1 p.2.2,q∈s
theorem M9{l:List Int}(hn:l.Nodup){x:Int}(hx:x∈l):(∀y,y∈era l x<->y∈l/\y≠x)/\(era l x).Nodup/\(era l x).length+1=l.length:=by
 obtain⟨j,hj⟩:=uC 0 hx;obtain⟨_,h2⟩:=qR hj;rw[re]at h2;have he:era l x=l.eraseIdx j:=by unfold era;rw[hj]
 rw[he];have hjl:j<l.length:=(aC.1 h2).1;refine⟨λy=>?_,hn.sublist (List.eraseIdx_sublist ..),by rw[List.length_eraseIdx,ζ hjl];omega⟩;rw[List.mem_eraseIdx_iff_getElem?];constructor
 .rintro ⟨k,hk,hy⟩
  refine⟨aG hy,λe=>hk ?_⟩;subst e;exact(List.getElem?_inj (aC.1 hy).1 hn).1 (hy.trans h2.symm)
 .rintro ⟨hy,hne⟩
  obtain⟨k,hk⟩:=ao.1 hy;refine⟨k,λe=>hne ?_,hk⟩;subst e;rw[h2]at hk;exact(af hk).symm
theorem FI{l:List Int}{x:Int}:x∈rz l<->x∈l:=(mM l).mem_iff
theorem DU{tys:List Ty}{s:Sn}{l:List Int}(h:GF tys s l):s.length<=tys.length:=by
 have h1:(s.map (·.1)).length<=((List.range tys.length).map (λn:Nat=>(n:Int))).length:=by
  refine tw h.nd λy hy=>?_;obtain⟨p,hp,rfl⟩:=bQ.1 hy;obtain⟨k,e1,e2⟩:=h.sub p hp;rw[e1];exact bQ.2 ⟨k,b_.2 (aC.1 e2).1,rfl⟩
 simpa using h1
theorem Me{im:Im}{fn:Fn}{tys:List Ty}(hT:Typed im fn.code tys)(hn:fn.code.length<=1000):∀(n:Nat)(s:Sn)(l:List Int),GF tys s l->LG im fn.code s l->fn.code.length+l.length<n+s.length ->
  ∃s',ru im fn n s l=some (.ok s')/\GF tys s' []/\LG im fn.code s' []/\∀p∈s,p∈s':=by
 intro n
 induction n with
 |zero=>
  intro s l h _ hf;have:=DU h;rw[hT.len]at this;omega
 |succ n ih=>
  intro s l h hc hf;have hpos:∀y∈l,∃k:Nat,y=k/\k<fn.code.length:=λy hy=>by
   obtain⟨p,hp,rfl⟩:=bQ.1 (h.lk y hy);obtain⟨k,e1,e2⟩:=h.sub p hp;exact⟨k,e1,by rw[<-hT.len];exact(aC.1 e2).1⟩
  have hll:l.length<=s.length:=by
   have:=tw h.ln (λy hy=>h.lk y hy);simpa using this
  have hsl:=DU h;rw[hT.len]at hsl;have hok:Ee l=true:=by
   unfold Ee;simp only[aO,χ,aP];refine⟨by omega,h.ln,λy hy=>?_⟩;obtain⟨k,rfl,hk⟩:=hpos y hy;omega
  unfold ru;rw[hok];simp only[δ];cases hs:rz l with
  |nil=>
   have:l=[]:=by
    have:=(mM l).length_eq;rw[hs]at this;exact bR this.symm
   subst this;exact⟨s,rfl,h,hc,λ_ h=>h⟩
  |cons x xs=>
   have hxl:x∈l:=FI.1 (by rw[hs];simp);obtain⟨k,rfl,hk⟩:=hpos x hxl;obtain⟨p,hp,e1⟩:=bQ.1 (h.lk _ hxl);obtain⟨y,p2⟩:=p;obtain⟨d,t⟩:=p2;simp only at e1;subst e1;obtain⟨k',e2,e3⟩:=h.sub _ hp;have ekk:k'=k:=by simp only at e2;omega
   subst ekk;simp only at e3;obtain⟨o,ho⟩:∃o,fn.code[k']?=some o:=⟨_,aA hk⟩
   obtain⟨i,d',t',hi,e4,hb,_⟩:=hT.at' k' o ho;rw[e3]at e4;cases e4;obtain⟨j,hj⟩:=Es h.nd hp;have hhr:Ht (k':Int) (d,t)=true:=by
    unfold Ht;simp only[aO,χ];omega
   obtain⟨m1,m2,m3⟩:=M9 h.ln hxl;have hE:GF tys s (era l k'):=⟨h.sub,h.nd,λy hy=>h.lk y ((m1 y).1 hy).1,m2⟩
   obtain⟨q,g1,g2,g3⟩:=QO hT hE ho hi e3;have hcq:LG im fn.code q.1 q.2:=by
    intro p hp' hpl z o' i' ez ho' hi' r hr;rcases g2.nw p hp' with h1|h1
    .by_cases hpk:p.1=(k':Int)
     .have hz:z=k':=by omega
      subst hz;rw[ho]at ho';cases ho';rw[hi]at hi';cases hi';obtain⟨pa,pd,pt⟩:=p;simp only at hpk hr;subst hpk;have:=tv h.nd h1 hp;cases this;exact g3 r hr
     .have hpl2:p.1∉l:=λhm=>hpl (g2.ll _ ((m1 _).2 ⟨hm,hpk⟩));exact g2.ss _ (hc p h1 hpl2 z o' i' ez ho' hi' r hr)
    .exact absurd h1 hpl
   obtain⟨s',k1,k2,k3,k4⟩:=ih q.1 q.2 g2.r hcq (by have:=g2.ct;omega);refine⟨s',?_,k2,k3,λp hp=>k4 p (g2.ss p hp)⟩;simp only[hj,pW,ho,hhr,δ,hi];rw[g1];exact k1
theorem GY{im:Im}{fn:Fn}{tys:List Ty}(hT:Typed im fn.code tys)(hn:fn.code.length<=1000)(h0:tys[0]?=some (0,0))(hop:jy im fn fn.code 0=none){N:Nat}(hN:fn.code.length<N) :
  ∃s,nM im fn N=some (.ok s)/\GF tys s []/\LG im fn.code s []/\(0,(0,0))∈s:=by
 have hR:GF tys [((0:Int),((0:Int),(0:Int)))] [0]:=⟨λp hp=>by rw[aF.1 hp];exact⟨0,rfl,h0⟩,by simp,by simp,by simp⟩
 obtain⟨s,h1,h2,h3,h4⟩:=Me hT hn N _ _ hR (λp hp hpl=>by rw[aF.1 hp]at hpl;simp at hpl) (by simp;omega);refine⟨s,?_,h2,h3,h4 _ (by simp)⟩;unfold nM;rw[hop];exact h1
end Go.Proofs.YtmigecldjbgneaaGreatDoor