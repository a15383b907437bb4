/- Lemmas. Conditions: none. -/
import Derived.Test.YtmigecldjbgneaaGreatDoorQKAY
set_option maxHeartbeats 8000000
set_option maxRecDepth 1000000
namespace Go.Proofs.YtmigecldjbgneaaGreatDoor
open Go.Vx
set_option maxRecDepth 100000
open Go.RowKit Go.Shelf Go.Proofs
theorem u64:Tryz.prog.underlying 93=some (.slice 200):=zx0
def zL:List Value:=[.string ⟨#[]⟩,.bool false,.int .i64 0,.int .i64 0,.string ⟨#[]⟩,.string ⟨#[]⟩,.string ⟨#[]⟩]
def zW:Value:=.agg zL.toArray
theorem i197:∃i,Tryz.prog.info? 200=some i/\i.size=7/\i.zero=some zW:=by
  cases h:Tryz.prog.info? 200 with
  | none => exact absurd h (by have : (Tryz.prog.info? 200).isSome = true := by kernel_rfl
                               intro e;rw[e]at this;cases this)
  |some i=>
    have h1:(Tryz.prog.info? 200).map (·.size)=some 7:=zx0
    have h2:(Tryz.prog.info? 200).map (·.zero)=some (some zW):=zx0
    rw[h]at h1 h2
    exact⟨i,rfl,af h1,af h2⟩
theorem BE(w:World)(ty:TypeId)(b o c:Nat)(hc:∀j,j<7->(w.cell? ⟨b,o+j,none⟩).isSome=true)(hf:∀j,j<7->w.frozen? ⟨b,o+j,none⟩=false) :
  (Builtin.clear_ #[93] ty #[.slice (some ⟨b,o,none⟩) 1 c]).run Tryz.prog w=.ok (.tuple #[]) (w.setCells b o zL):=by
 have hv:∀w,(zeroValue 200).run Tryz.prog w=.ok zW w:=by
  obtain⟨i,h1,_,h2⟩:=i197;intro w;simp[zeroValue,typeInfo,h1,h2]
 have hst:=run_storeCells_cells (P:=Tryz.prog) b o zL 0 w (λj hj=>by rw[eB];exact hc j hj) (λj hj=>by rw[eB];exact hf j hj) (by decide);simp only[eB]at hst;have hzc:(Builtin.zeroCells zW.cells 1).toList=zL:=zx0
 simp[Builtin.clear_,run_underlying u64,hv,hzc,hst]
theorem R8:Tryz.prog.follows .mixedOrders=true:=mixed
theorem NQ(b n c i j:Nat)(hij:j=i+1)(hi:i<n)(hn:n<=c)(_:c<=9223372036854775807)(w:World)(news:List Value)(hlen:news.length=(n-j)*7)(hnw:∀t u,news[t]?=some u->w.cell? ⟨b,j*7+t,none⟩=some u)(h1:∀u∈news,u.oneCell'=true)
    (arr:Array Value) (ty0:TypeId) (harr:w.heap[b]?=some (.cells arr ty0 (0,0))) (hsz:n*7<=arr.size) :
    Calls Tryz.prog 239 #[.slice (some ⟨b,0,none⟩) n c,.int .i64 i,.int .i64 j] w λe w'=>e=.returned (.slice (some ⟨b,0,none⟩) (n-1) c)/\w'=(w.drew.setCells b (i*7) news).setCells b ((n-1)*7) zL:=by
  have hall:∀j,j<n*7->(w.cell? ⟨b,j,none⟩).isSome=true:=λj hj=>by rw[cz harr,aS (by omega)];rfl
  have hfz:∀j,w.frozen? ⟨b,j,none⟩=false:=λj=>by simp[World.frozen?,harr]
  obtain⟨i0,Bn,hz7,_⟩:=i197
  have mixed:=R8
  have t64:=u64
  obtain ⟨A, hA, hsrc⟩ : ∃ A : Addr, (if c = j then some (⟨b, 0, none⟩ : Addr) else some ⟨b, j * 7, none⟩) = some A ∧ Hid (∀ t u, news[t]? = some u → w.drew.cell? (A.add t) = some u) := by
    by_cases h:c=j
    · refine⟨⟨b,0,none⟩,by simp[h],λt u hu=>?_⟩
      have h0 : news.length = 0 := by rw [hlen]; have : n - j = 0 := by omega
                                      rw[this]
      rw[List.length_eq_zero_iff.1 h0]at hu
      simp at hu
    · refine⟨⟨b,j*7,none⟩,by simp[h],λt u hu=>?_⟩
      rw[Addr.add_lit]
      exact hnw t u hu
  have s1:Hid (news.length=(n-j)*7):=hlen
  have s2:Hid (∀u∈news,u.oneCell'=true):=h1
  have s3:Hid (∀t,t<news.length->(w.drew.cell? ⟨b,0+i*7+t,none⟩).isSome=true/\w.drew.frozen? ⟨b,0+i*7+t,none⟩=false):=by
    intro t ht
    rw[hlen]at ht
    exact⟨hall _ (by omega),hfz _⟩
  obtain⟨W1,hW1⟩:∃W1,W1=w.drew.setCells b (0+i*7) news:=⟨_,rfl⟩
  have hcl:∀ty,(Builtin.clear_ #[93] ty #[.slice (some ⟨b,(i+(n-j))*7,none⟩) (n-(i+(n-j))) (c-(i+(n-j)))]).run Tryz.prog W1=.ok (.tuple #[]) (W1.setCells b ((n-1)*7) zL):=λty=>by
    rw[show i+(n-j)=n-1 by omega,show n-(n-1)=1 by omega]
    obtain⟨arr',g1,g2,_⟩:=e8 b news (0+i*7) w.drew arr ty0 _ harr
    rw[<-hW1]at g1
    exact BE W1 ty b ((n-1)*7) _ (λk hk=>by rw[cz g1,aS (by omega)];rfl) (λk _=>by simp[World.frozen?,g1])
  have hW:Hid (W1=w.drew.setCells b (0+i*7) news):=hW1
  have hic:i<=c:=by omega
  have hjc:j<=c:=by omega
  have hjn:j<=n:=by omega
  have hlt:i<j:=by omega
  have hle:i<=j:=by omega
  have HJ:Hid (j=i+1):=hij
  clear hW1 hlen hnw h1 hall hfz hij harr hsz
  go_enter Tryz.func239,Tryz.ntmps239
  go_wp2_with fail
  go_region_law_o (refine step_append_room rfl (.tmp 22) (.tmp 25) 93 rfl 200 i0 7 t64 Bn hz7 b 0 i c (by simp[Act.eval,Act.put]) A (n-j) (c-j) news (by simp[Act.eval,Act.put]) s1.out hsrc.out s2.out (by omega) s3.out ?_;rw[<-hW.out])
  go_wp2_with fail
  have hij:=HJ.out
  go_ret
  refine⟨by rw[show n-1=i+(n-j)by omega];rfl,?_⟩
  rw[hW.out,cE]
theorem Jf{G:Nat->Prop}{w w':World}{v0 v1:Value}{x0 x1:B}(hR:HR G w [v0] [x0])(hx:x0≠.no)(hs:w.heap.size<=w'.heap.size)(same:∀b,b<w.heap.size->b∉fF v0 x0->w'.heap[b]?=w.heap[b]?)(ho:w'.os=w.os)(ht:w'.tape=w.tape)(hou:w'.output=w.output)
  (new:cQ G w' [v0,v1] v1 x1) (hb1:∀b∈fF v1 x1,b∈fF v0 x0\/w.heap.size<=b) (hnl:∀z rs,x0≠.lk z rs:=by simp):Ok ⟨w,G,[v0],[x0],[],[]⟩ G w' [v0,v1] [.no,x1]:=by
 have h0:∀b,b∈fF v0 x0->own [v0] [x0] b:=λb hb=>⟨0,v0,x0,rfl,rfl,hx,hb⟩
 have hG:∀b,G b->w'.heap[b]?=w.heap[b]?:=λb hb=>same b (hR.gl b hb) λh=>hR.gd b hb (h0 b h);have get:∀(i:Nat)(v:Value)(y:B),[v0,v1][i]?=some v->[B.no,x1][i]?=some y->y≠.no->i=1/\v=v1/\y=x1:=by
  intro i v y h1 h2 h3
  match i,h1,h2 with
  |0,h1,h2=>cases h2;exact absurd rfl h3
  |1,h1,h2=>cases h1;cases h2;exact⟨rfl,rfl,rfl⟩
 have hown:∀b,own [v0,v1] [.no,x1] b->own [v0] [x0] b\/w.heap.size<=b:=by
  rintro b ⟨i,v,y,h1,h2,h3,h4⟩
  obtain⟨rfl,rfl,rfl⟩:=get i v y h1 h2 h3;exact(hb1 b h4).imp (h0 b) λh=>h
 refine⟨⟨rfl,λi v y h1 h2=>?_,λi j v u x y b h1 h2 h3 h4 h5 h6 _ _=>?_,λb hb=>bj (hR.gl b hb) hs,λb hb ho=>?_,hR.vR.mono (λ_ h=>h) hG⟩,λ_ h=>h,λ_ h=>.inl h,λb hb=>(hown b hb).symm.imp (λh=>h) λh=>h,
  λb hb hn=>same b hb λh=>hn (h0 b h),hs,ho,ht,hou,λi v hv _=>?_,by simp,(λ_ h=>nomatch h),λi z rs hi=>?_⟩
 .by_cases hy:y=.no
  .subst hy;trivial
  .obtain⟨rfl,rfl,rfl⟩:=get i v y h1 h2 hy;exact new
 .obtain⟨rfl,_⟩:=get i v x h1 h2 h3;obtain⟨rfl,_⟩:=get j u y h4 h5 h6;rfl
 .rcases hown b ho with h|h
  .exact hR.gd b hb h
  .have:=hR.gl b hb;omega
 .match i,hv with
  |0,hv=>exact hv
 .match i,hi with
  |0,hi=>exact absurd (af hi) (hnl z rs)
theorem NP(l:List (List D))(i:Nat)(hi:i<l.length)(hll:l.length<1000000000)(hsc:∀r∈l,∀x∈r,HA x=true) :
  Z1 239 [.os 0,.d (.int .i64 i),.d (.int .i64 (i+1:Nat))] [.rows 7 l] λout h=>out=.ret (.os 1)/\h=[.no,.rows 7 (l.take i++l.drop (i+1))]:=by
 refine .inl ⟨by kernel_rfl,λG w ρ vs hR hl hv=>?_⟩
 match ρ,hR.len with
 |[v0],_=>
 match vs,hl with
 |[a0,a1,a2],_=>
 have e0:a0=v0:=by
  have:=hv 0 _ rfl;cases this with|o h=>cases h with|c h=>cases h with|k h=>cases h with|os _ a n c h=>exact(af h).symm
 have e1:a1=.int .i64 i:=(hv 1 _ rfl).int;have e2:a2=.int .i64 (i+1:Nat):=(hv 2 _ rfl).int;subst e0 e1 e2;have hmax:(1000000000:Nat)<=maxLen:=by decide
 have hlen:(l.take i++l.drop (i+1)).length=l.length-1:=by
  rw[aM,a_,dt];omega
 rcases hR.rep 0 a0 _ rfl rfl with⟨rfl,hnil⟩|⟨b,c,arr,ty,rfl,h1,h2,h3,h4,h5⟩
 .cases l with
  |nil=>simp at hi
  |cons=>cases hnil
 .have hbo:b∈fF (.slice (some ⟨b,0,none⟩) l.length c) (.rows 7 l):=(fT).2 rfl;have hblt:b<w.heap.size:=(aW.1 h1).1;have hmx:maxLen<=9223372036854775807:=by decide
  have hcell:∀q,q<arr.size->w.cell? ⟨b,q,none⟩=some (arr.getD q undef):=λq hq=>by
   rw[cz h1,aH,aS hq];rfl
  have hrep:∀(q k:Nat)(row:List D)(x:D),l[q]?=some row->row[k]?=some x->bp G w (arr.getD (q*7+k) undef) x:=λq k row x hq hk=>(h5 q row hq).2 k x hk;have hone:∀q,q<l.length*7->(arr.getD q undef).oneCell'=true:=λq hq=>by
   obtain⟨row,hr⟩:∃row,l[q / 7]?=some row:=⟨_,aA (by omega)⟩
   obtain⟨x,hx⟩:∃x,row[q % 7]?=some x:=⟨_,aA (by rw[(h5 _ row hr).1];omega)⟩
   have:=(hrep _ _ row x hr hx).one;rwa[show q / 7*7+q % 7=q by omega]at this
  obtain⟨news,hnl,hng,hng2⟩:∃news:List Value,news.length=(l.length-(i+1))*7/\(∀(t:Nat)(u:Value),news[t]?=some u->u=arr.getD ((i+1)*7+t) undef/\t<(l.length-(i+1))*7)/\∀t,t<(l.length-(i+1))*7->news[t]?=some (arr.getD ((i+1)*7+t) undef):=by
   refine⟨(List.range ((l.length-(i+1))*7)).map λt=>arr.getD ((i+1)*7+t) undef,by simp,λt u hu=>?_,λt ht=>?_⟩
   .rw[aB,aJ]at hu;obtain⟨k,hk,rfl⟩:=hu;obtain⟨hk1,hk2⟩:=aC.1 hk;simp at hk1 hk2;exact⟨by rw[hk2],hk1⟩
   .rw[aB,cp ht];rfl
  have:=NQ b l.length c i (i+1) rfl hi h2 (by omega) w news hnl (λt u hu=>by
   obtain⟨rfl,ht⟩:=hng t u hu;exact hcell _ (by omega)) (λu hu=>by
   obtain⟨t,ht⟩:=ao.1 hu;obtain⟨rfl,ht2⟩:=hng t u ht;exact hone _ (by omega)) arr ty h1 (by omega)
  refine Calls.mono this ?_
  rintro e w' ⟨rfl,rfl⟩
  obtain⟨arr1,g1,g2,g3,g4,g5,g6,g7,g8,g9⟩:=e8 b news (i*7) w.drew arr ty _ h1;obtain⟨arr2,k1,k2,k3,k4,k5,k6,k7,k8,k9⟩:=e8 b zL ((l.length-1)*7) _ arr1 ty _ g1;have new:∀q,q<(l.length-1)*7->arr2.getD q undef=arr.getD (bif decide (q<i*7)then q else q+7) undef:=λq hq=>by
   rw[aH,k3 q (.inl hq)]
   by_cases hqi:q<i*7
   .rw[g3 q (.inl hqi),φ hqi,δ,aH]
   .rw[τ hqi,ε];have:=g4 (q-i*7) (by rw[hnl];omega) (by omega);rw[show i*7+(q-i*7)=q by omega]at this;rw[this,hng2 _ (by omega),show(i+1)*7+(q-i*7)=q+7 by omega];rfl
  refine⟨G,[.slice (some ⟨b,0,none⟩) l.length c,.slice (some ⟨b,0,none⟩) (l.length-1) c],_,.ret (.os 1),Jf (x1:=.rows 7 (l.take i++l.drop (i+1))) hR (by simp) (by rw[k6,g6];exact aL _) (λk hk hk2=>?_) (k7.trans g7) (k8.trans g8) (k9.trans g9) (.inr ⟨b,c,arr2,ty,?_,k1,?_,h3,by omega,λq row hq=>?_⟩) (λb' hb=>?_),⟨_,rfl,.k (.os 1 _ _ _ rfl)⟩,rfl,rfl⟩
  .have hne:k≠b:=λe=>hk2 (by rw[e];exact hbo);exact(k5 k hne).trans (g5 k hne)
  .rw[hlen]
  .rw[hlen];omega
  .have hql:=(aC.1 hq).1;rw[hlen]at hql;have hq':l[bif decide (q<i)then q else q+1]?=some row:=by
    by_cases hqi:q<i
    .rw[φ hqi,δ];rwa[aR (by rw[a_];omega),bO,ζ hqi]at hq
    .rw[τ hqi,ε];rw[ae (by rw[a_];omega),a_,bY]at hq;rwa[show i+1+(q-min i l.length)=q+1 by omega]at hq
   refine⟨(h5 _ row hq').1,λk x hx=>?_⟩;have hk7:k<7:=by
    have:=(aC.1 hx).1;rw[(h5 _ row hq').1]at this;exact this
   rw[new (q*7+k) (by omega)];have hd:=hrep _ k row x hq' hx;have e:(bif decide (q*7+k<i*7)then q*7+k else q*7+k+7)=(bif decide (q<i)then q else q+1)*7+k:=by
    by_cases hqi:q<i
    .rw[φ hqi,φ (by omega),δ,δ]
    .rw[τ hqi,τ (by omega),ε,ε];omega
   rw[e];exact xB hd (hsc row (aG hq') x (aG hx))
  .have hb:=(fT).1 hb;cases hb;exact .inl hbo
end Go.Proofs.YtmigecldjbgneaaGreatDoor
namespace Go.Proofs.YtmigecldjbgneaaGreatDoor
open Go.Vx
set_option maxRecDepth 100000
theorem F1{K:KT}(l:List (List D))(i:Nat)(hi:i<l.length)(hll:l.length<1000000000)(hsc:∀r∈l,∀x∈r,HA x=true)(hk:K (.ret (.os 1)) [.no,.rows 7 (l.take i++l.drop (i+1))]) :
 Z1 239 [.os 0,.d (.int .i64 i),.d (.int .i64 (i+1:Nat))] [.rows 7 l] K:=(NP l i hi hll hsc).mono λ_ _ ⟨a,b⟩=>by rw[a,b];exact hk
theorem Ae(l:List (List D))(i:Nat)(hi:i<l.length)(hll:l.length<100000000)(hsc:∀r∈l,∀x∈r,HA x=true):Z0 166 [.d (.sl 7 l),.d (.int .i64 i)] (.d (.sl 7 (l.take i++l.drop (i+1)))):=by
 have h1:=λ{K:KT}=>AK (K:=K) l hll;have h2:=λ{K:KT}=>F1 (K:=K) l i hi (by omega) hsc;refine sh0 Tryz.f166 ?_
 repeat' ((conv=>whnf);first|exact zf|refine zm ?_|refine(h1 ?_)|refine(h2 ?_)|refine zB ?_ ?_|intro _)
theorem uk(l:List (List D))(hl:l.length<100000000):Z0 85 [.d (.sl 7 l)] (.d (.sl 7 l)):=by
 refine sh0 Tryz.f85 ?_;cases l with
 |nil=>
  repeat' ((conv=>whnf);first|exact zf|refine zm ?_|refine zB ?_ ?_|refine And.intro ?_ ?_|intro _)
 |cons r l=>
  repeat' ((conv=>whnf);first|exact zf|refine zm ?_|refine zB ?_ ?_|intro _)
def Fm(x:Vr):V:=.ag [.d (.bool x.full),.d (.int .i64 x.v.k),.d (.int .i64 x.v.n),.d (.str x.v.nm),.d (.str x.v.ls),.d (.str x.v.li),.d (.sl 7 (x.q.map ek))]
def LM(x:Wt):Ws:=⟨x.id,x.put,x.v.k,x.v.n,x.v.nm,x.v.ls,x.v.li⟩
theorem LL(q:List Wt):(q.map LM).map Ws.row=q.map ek:=by simp[LM,Ws.row,ek]
theorem QE(q:List Wt):∀r∈q.map ek,∀x∈r,HA x=true:=by
 intro r hr x hx;obtain⟨w,_,rfl⟩:=bQ.1 hr;simp only[ek,ah,eN,or_false]at hx;rcases hx with rfl|rfl|rfl|rfl|rfl|rfl|rfl<;>rfl
def tB(p:Bool)(q:List Wt):Nat:=kG p (q.map LM)
theorem Jo(p:Bool)(q:List Wt):Z0 164 [.d (.sl 7 (q.map ek)),.d (.fn (bif p then 311 else 312))] (.d (.int .i64 (if tB p q<q.length then tB p q else -1))):=by
 have h:=Jp p (q.map LM);rw[LL]at h;unfold kq at h;rw[aI]at h;exact h
def lp(q:List Wt)(i:Nat):List Wt:=q.take i++q.drop (i+1)
theorem tH(q:List Wt)(i:Nat)(hi:i<q.length)(hl:q.length<100000000):Z0 166 [.d (.sl 7 (q.map ek)),.d (.int .i64 i)] (.d (.sl 7 ((lp q i).map ek))):=by
 have h:=Ae (q.map ek) i (by rw[aI];exact hi) (by rw[aI];exact hl) (QE q);unfold lp;rw[bt,jY,qA];exact h
theorem Nv(q:List Wt)(w:Wt)(hl:q.length<100000000):Z0 310 [.d (.sl 7 (q.map ek)),.ag [.d (.str w.id),.d (.bool w.put),.d (.int .i64 w.v.k),.d (.int .i64 w.v.n),.d (.str w.v.nm),.d (.str w.v.ls),.d (.str w.v.li)]] (.d (.sl 7 ((q++[w]).map ek))):=by
 have h:=LP (q.map ek) w.id w.put w.v.k w.v.n w.v.nm w.v.ls w.v.li (by rw[aI];exact hl);rw[bt];exact h
def e_(x:Vr)(id:List UInt8):Vr×Va×Bool×List UInt8:=
 bif x.full then(match x.q[tB true x.q]? with
  |some w=>(⟨true,w.v,lp x.q (tB true x.q)⟩,x.v,true,w.id)
  |none=>(⟨false,ck,x.q⟩,x.v,true,[]))else(⟨x.full,x.v,x.q++[⟨id,false,ck⟩]⟩,ck,false,[])
theorem Lf(x:Vr)(id:List UInt8)(hl:x.q.length<100000000):Z0 272 [Fm x,.d (.str id)] (.tu [Fm (e_ x id).1,jh (e_ x id).2.1,.d (.bool (e_ x id).2.2.1),.d (.str (e_ x id).2.2.2)]):=by
 obtain⟨full,v,q⟩:=x;have hl:q.length<100000000:=hl;unfold e_;cases full with
 |false=>
  have h1:=Nv q ⟨id,false,ck⟩ hl;refine sh0 Tryz.f272 ?_
  repeat' ((conv=>whnf);first|exact zf|refine zm ?_|refine zc h1 ?_|refine zB ?_ ?_|refine zt ?_|refine zu ?_|intro _)
 |true=>
  have h1:=Jo true q;have h2:=uk (q.map ek) (by rw[aI];exact hl);cases hq:q[tB true q]? with
  |none=>
   have hn:¬tB true q<q.length:=λh=>by rw[aA h]at hq;cases hq
   rw[η hn]at h1;dsimp only[cond_true];refine sh0 Tryz.f272 ?_
   repeat' ((conv=>whnf);first|exact zf|refine zm ?_|refine zc h1 ?_|refine zc h2 ?_|refine zB ?_ ?_|refine zt ?_|refine zu ?_|intro _)
  |some w=>
   have hn:tB true q<q.length:=(aC.1 hq).1;rw[ζ hn]at h1;have h3:=tH q (tB true q) hn hl;have hrow:(q.map ek)[((tB true q:Nat):Int).toNat]?=some (ek w):=by
    rw[show((tB true q:Nat):Int).toNat=tB true q from rfl,aB,hq];rfl
   dsimp only[cond_true];refine sh0 Tryz.f272 ?_
   repeat' ((conv=>whnf);first|exact zf|refine zm ?_|refine zc h1 ?_|refine zc h3 ?_|refine⟨ek w,⟨by omega,hrow,rfl⟩,?_⟩|refine zB ?_ ?_|refine zt ?_|refine zu ?_|intro _)
def jx(x:Vr)(id:List UInt8)(v:Va):Vr×Bool×List UInt8:=
 bif x.full then(⟨x.full,x.v,x.q++[⟨id,true,v⟩]⟩,false,[])else(match x.q[tB false x.q]? with
  |some w=>(⟨x.full,x.v,lp x.q (tB false x.q)⟩,true,w.id)
  |none=>(⟨true,v,x.q⟩,true,[]))
theorem Qv(x:Vr)(id:List UInt8)(v:Va)(hl:x.q.length<100000000):Z0 274 [Fm x,.d (.str id),jh v] (.tu [Fm (jx x id v).1,.d (.bool (jx x id v).2.1),.d (.str (jx x id v).2.2)]):=by
 obtain⟨full,u,q⟩:=x;have hl:q.length<100000000:=hl;unfold jx;cases full with
 |true=>
  have h1:=Nv q ⟨id,true,v⟩ hl;refine sh0 Tryz.f274 ?_
  repeat' ((conv=>whnf);first|exact zf|refine zm ?_|refine zc h1 ?_|refine zB ?_ ?_|refine zt ?_|refine zu ?_|intro _)
 |false=>
  have h1:=Jo false q;have h2:=uk (q.map ek) (by rw[aI];exact hl);cases hq:q[tB false q]? with
  |none=>
   have hn:¬tB false q<q.length:=λh=>by rw[aA h]at hq;cases hq
   rw[η hn]at h1;dsimp only[cond_false];refine sh0 Tryz.f274 ?_
   repeat' ((conv=>whnf);first|exact zf|refine zm ?_|refine zc h1 ?_|refine zc h2 ?_|refine zB ?_ ?_|refine zt ?_|refine zu ?_|intro _)
  |some w=>
   have hn:tB false q<q.length:=(aC.1 hq).1;rw[ζ hn]at h1;have h3:=tH q (tB false q) hn hl;have hrow:(q.map ek)[((tB false q:Nat):Int).toNat]?=some (ek w):=by
    rw[show((tB false q:Nat):Int).toNat=tB false q from rfl,aB,hq];rfl
   dsimp only[cond_false];refine sh0 Tryz.f274 ?_
   repeat' ((conv=>whnf);first|exact zf|refine zm ?_|refine zc h1 ?_|refine zc h3 ?_|refine⟨ek w,⟨by omega,hrow,rfl⟩,?_⟩|refine zB ?_ ?_|refine zt ?_|refine zu ?_|intro _)
theorem XJ(id i:List UInt8)(b:Bool)(k n:Int)(x y z:List UInt8):Z0 165 [.ag [.d (.str i),.d (.bool b),.d (.int .i64 k),.d (.int .i64 n),.d (.str x),.d (.str y),.d (.str z)],.e [.str id] 0] (.d (.bool (i==id&&true))):=by
 refine sh0 Tryz.f165 ?_
 repeat' ((conv=>whnf);first|exact zf|refine zm ?_|refine zB ?_ ?_|intro _)
def gJ(id:List UInt8):List Wt->Nat
 |[]=>0
 |w::r=>bif w.id==id then 0 else gJ id r+1
theorem oJ{id:List UInt8}:∀{l:List Wt}{i:Nat},(∀s∈l.take i,(s.id==id)=false)->i<=l.length->gJ id l=i+gJ id (l.drop i)
 |l,0,_,_=>by simp
 |[],i+1,_,h=>by simp at h
 |s::l,i+1,h,hi=>by
  rw[gJ,h s (by simp),ε,jJ,oJ (i:=i) (λx hx=>h x (by rw[dX];exact bU _ hx)) (by simpa using hi)];omega
theorem Ry(id:List UInt8)(l:List Wt):Z0 164 [.d (.sl 7 (l.map ek)),.fc 165 [.e [.str id] 0]] (.d (.int .i64 (if gJ id l<l.length then gJ id l else -1))):=by
 have hl:(l.map ek).length=l.length:=aI _;refine sh0 Tryz.f164 ?_
 repeat' ((conv=>whnf);first|exact zf|refine zm ?_|refine zB ?_ ?_|intro _)
 conv=>whnf
 refine bA [(1,.fc 165 [.e [.str id] 0]),(7,.d (.sl 7 (l.map ek))),(8,.d (.int .i64 (l.map ek).length))] (λi:Nat=>i<=l.length/\∀s∈l.take i,(s.id==id)=false) (λi=>[(9,.d (.int .i64 i))]) (λ_=>[]) (λi=>l.length-i) 0 ⟨aY _,λ_ h=>nomatch h⟩ ?_ ?_ ?_ (λi hi=>?_)
 .exact zzz
 .exact zzz
 .exact rfl
 repeat' ((conv=>whnf);first|exact zf|refine zm ?_|refine zB ?_ ?_|intro _)
 refine aU (λhlt=>?_) (λhge=>?_)
 .have hlt:i<l.length:=by rw[<-hl];simpa using hlt
  obtain⟨w,hm⟩:∃m,l[i]?=some m:=⟨_,aA hlt⟩
  have hs:=XJ id w.id w.put w.v.k w.v.n w.v.nm w.v.ls w.v.li;have htk:l.take (i+1)=l.take i++[w]:=by rw[bV,hm];rfl
  have hdr:l.drop i=w::l.drop (i+1):=by
   rw[bC hlt];rw[aA hlt]at hm;rw[af hm]
  have hk:=oJ hi.2 hi.1;rw[hdr,gJ]at hk;have hrow:(l.map ek)[i]?=some (ek w):=by rw[aB,hm];rfl
  cases hb:w.id==id with
  |true=>
   rw[hb]at hs hk
   repeat' ((conv=>whnf);first|exact zf|refine zm ?_|refine⟨_,⟨by omega,hrow,rfl⟩,?_⟩|refine zc hs ?_|refine zB ?_ ?_|intro _)
   refine cD (κ (λx=>V.d (D.int .i64 x)) ?_);rw[hk,ζ (by simp;omega)];simp
  |false=>
   rw[hb]at hs
   repeat' ((conv=>whnf);first|exact zf|refine zm ?_|refine⟨_,⟨by omega,hrow,rfl⟩,?_⟩|refine zc hs ?_|refine zB ?_ ?_|intro _)
   refine⟨i+1,⟨hlt,?_⟩,aN hlt (aQ i),zzz,zzz,rfl⟩;rw[htk];intro x hx;exact(aT.1 hx).elim (hi.2 x) λh=>by rw[aF.1 h];exact hb
 .have hge:i=l.length:=by
   have:¬i<l.length:=by rw[<-hl];simpa using hge
   omega
  have hk:=oJ hi.2 hi.1;rw[hge,du]at hk;rw[η (by rw[hk];simp[gJ])]
  repeat' ((conv=>whnf);first|exact zf|refine zm ?_|refine zB ?_ ?_|intro _)
def j4(x:Vr)(id:List UInt8):Vr×Bool:=bif decide (gJ id x.q<x.q.length)then({x with q:=lp x.q (gJ id x.q)},true)else(x,false)
theorem Rh(x:Vr)(id:List UInt8)(hl:x.q.length<100000000):Z0 134 [Fm x,.d (.str id)] (.tu [Fm (j4 x id).1,.d (.bool (j4 x id).2)]):=by
 obtain⟨full,v,q⟩:=x;have hl:q.length<100000000:=hl;have h1:=Ry id q;unfold j4
 by_cases hn:gJ id q<q.length
 .rw[ζ hn]at h1;have hd:decide (gJ id q<q.length)=true:=by simp[hn]
  have h3:=tH q (gJ id q) hn hl;dsimp only;rw[hd];refine sh0 Tryz.f134 ?_
  repeat' ((conv=>whnf);first|exact zf|refine zm ?_|refine(.inl ⟨_,h1,rfl,?_⟩)|refine zc h3 ?_|refine zB ?_ ?_|refine zt ?_|refine zu ?_|intro _)
 .rw[η hn]at h1;have hd:decide (gJ id q<q.length)=false:=by simp[hn]
  have h2:=uk (q.map ek) (by rw[aI];exact hl);dsimp only;rw[hd];refine sh0 Tryz.f134 ?_
  repeat' ((conv=>whnf);first|exact zf|refine zm ?_|refine(.inl ⟨_,h1,rfl,?_⟩)|refine zc h2 ?_|refine zB ?_ ?_|refine zt ?_|refine zu ?_|intro _)
def lr(s:br)(kp:List Nat)(o:Ob)(b:Option Nat):br:=bif pN o.l&&(bw (b8 kp) s.th).isNone then Ko s kp o b else s
structure Xz(s:br)(kp:List Nat)(o:Ob):Prop where
  n:dr kp
  gs:mj s
  l:cC o.l
  k3:3<=o.k
  k7:o.k<=7
  q:o.va.q.length<100000000
theorem mX{K:KT}(s:br)(kp:List Nat)(o:Ob)(h:Xz s kp o)(hk:∀b n,K (.ret (.d (.int .i64 n))) (mZ (lr s kp o b))):Z1 25 [.p 0 0,.d (.str (b8 kp)),jG o] (mZ s) K:=by
 unfold lr at hk;cases hl:pN o.l with
 |true=>
  rw[hl]at hk;cases hf:bw (b8 kp) s.th with
  |none=>
   rw[hf]at hk;exact S9 s kp o h.n h.gs h.l h.k3 h.k7 hl h.q hf λb=>hk b 0
  |some p=>
   rw[hf]at hk;exact Fo s kp o p.2 p.1 h.n h.l h.k3 h.k7 hl hf (hk none 12)
 |false=>
  rw[hl]at hk;exact Np s kp o h.n h.l (.inr hl) (hk none 1)
theorem gW{key:List UInt8}:∀{l:List (List UInt8×Ob)}{i:Nat}{o:Ob},bw key l=some (i,o)->∃p∈l,p.2=o
 |[],_,_,h=>nomatch h
 |p::r,i,o,h=>by
  unfold bw at h
  by_cases hb:key=p.1
  .rw[ζ hb]at h;cases h;exact⟨p,aw ..,rfl⟩
  .rw[η hb]at h;cases hr:bw key r with
   |none=>rw[hr]at h;cases h
   |some q=>
    rw[hr]at h;obtain⟨p',hp,he⟩:=gW (i:=q.1) (o:=q.2) (by rw[hr]);cases h;exact⟨p',bU _ hp,he⟩
def vG(f:Nat)(m:Mh)(st st':List Va)(ts:List Tr)(tk:List Va)(bW:List Fr):Prop:=
 ∀K:Out->H->Prop,K (.ret (.tu [])) [.cells (iX m (.d (.sl 5 (bW.map bP))) st' ts (gw tk) bu false 0),.no] ->
  Z1 f [.p 0 0] [.cells (iX m (.os 1) st ts (gw tk) bu false 0),.rows 5 (bW.map bP)] K
def jX(f:Nat)(m:Mh)(st:List Va)(ts ts':List Tr)(tk:List Va)(bW frs':List Fr)(wr:Bool)(cd:Int):Prop:=
 ∀K:Out->H->Prop,K (.ret (.tu [])) [.cells (iX m (.os 1) st ts' (gw tk) bu wr cd),.rows 5 (frs'.map bP)] ->
  Z1 f [.p 0 0] [.cells (iX m (.os 1) st ts (gw tk) bu false 0),.rows 5 (bW.map bP)] K
theorem Qw(m:Mh)(st:List Va)(ts:List Tr)(tk:List Va)(bW:List Fr)(v:Va)(hs:st.length<1000000000)(h0:0<=m.o.a)(hv:m.im.cs[m.o.a.toNat]?=some v):vG 173 m st (st++[v]) ts tk bW:=by
 intro K hk;refine sh0 Tryz.f173 ?_;have hrow:(m.im.cs.map b9)[m.o.a.toNat]?=some (b9 v):=by simp[hv]
 repeat' ((conv=>whnf);first|exact zf|refine zm ?_|refine zB ?_ ?_|intro _)
 refine⟨b9 v,⟨h0,hrow,rfl⟩,?_⟩
 repeat' ((conv=>whnf);first|exact zf|refine zm ?_|refine zr0 ?_|refine mJ m st ts tk bu false 0 bW v hs ?_|refine zB ?_ ?_|intro _)
 exact hk
theorem Rc(m:Mh)(st:List Va)(ts:List Tr)(tk:List Va)(bW:List Fr)(f:Fr)(v:Va)(hs:st.length<1000000000)(hl:0<bW.length)(hlf:bW.length<1000000000)(hf:bW[bW.length-1]?=some f)(h0:0<=m.o.a)(hv:f.vars[m.o.a.toNat]?=some v):vG 174 m st (st++[v]) ts tk bW:=by
 intro K hk;refine sh0 Tryz.f174 ?_;have hrow:(bW.map bP)[(((bW.map bP).length:Int)-1).toNat]?=some (bP f):=by
  rw[aB,aI];have e:((bW.length:Int)-1).toNat=bW.length-1:=by omega
  rw[e,hf];rfl
 have hrow2:(f.vars.map b9)[m.o.a.toNat]?=some (b9 v):=by simp[hv]
 repeat' ((conv=>whnf);first|exact zf|refine da _ _ [195] ?_ rfl|refine a8 (a8 ?_)|refine zm ?_|refine Sat.eqs (vf m st ts tk bu false 0 _ (by simp;omega) (by simp;omega) (And.intro rfl rfl)) ?_|refine zr0 ?_|refine zB ?_ ?_|intro _)
 all_goals
  refine⟨bP f,hrow,?_⟩
  repeat' ((conv=>whnf);first|exact zf|refine zm ?_|refine zB ?_ ?_|intro _)
  all_goals
   refine⟨b9 v,⟨h0,hrow2,rfl⟩,?_⟩
   repeat' ((conv=>whnf);first|exact zf|refine zm ?_|refine zr0 ?_|refine mJ m st ts tk bu false 0 bW v hs ?_|refine zB ?_ ?_|intro _)
   all_goals
    exact hk
theorem T9(m:Mh)(st:List Va)(ts:List Tr)(tk:List Va)(bW:List Fr):jX 176 m st ts ts tk bW bW false 0:=by
 intro K hk;refine sh0 Tryz.f176 ?_
 repeat' ((conv=>whnf);first|exact zf|refine zm ?_|refine zB ?_ ?_|intro _)
 exact hk
theorem VN(m:Mh)(st:List Va)(ts:List Tr)(a:Va)(bW:List Fr)(hs:st.length<900000000):vG 177 m st ((st++[a])++[a]) ts [a] bW:=by
 intro K hk;refine sh0 Tryz.f177 ?_
 repeat' ((conv=>whnf);first|exact zf|refine zm ?_|refine zr0 ?_|refine mJ m st ts [a] bu false 0 bW a (by omega) ?_|refine Ba m (st++[a]) ts [a] bu false 0 bW a (by simp;omega) ?_|refine zB ?_ ?_|refine⟨_,⟨by decide,rfl,rfl⟩,?_⟩|refine⟨_,rfl,?_⟩|intro _)
 exact hk
theorem QQ(m:Mh)(st:List Va)(ts:List Tr)(a b:Va)(bW:List Fr)(hs:st.length<900000000):vG 178 m st ((st++[b])++[a]) ts [a,b] bW:=by
 intro K hk;refine sh0 Tryz.f178 ?_
 repeat' ((conv=>whnf);first|exact zf|refine zm ?_|refine zr0 ?_|refine mJ m st ts [a,b] bu false 0 bW b (by omega) ?_|refine Ba m (st++[b]) ts [a,b] bu false 0 bW a (by simp;omega) ?_|refine zB ?_ ?_|refine⟨_,⟨by decide,rfl,rfl⟩,?_⟩|refine⟨_,rfl,?_⟩|intro _)
 exact hk
theorem XQ(m:Mh)(st:List Va)(ts:List Tr)(a b:Va)(bW:List Fr)(hs:st.length<900000000):vG 180 m st (st++[iv (SB a b)]) ts [a,b] bW:=by
 intro K hk;refine s180.go (keep:=false) rfl ?_
 repeat' ((conv=>whnf);first|exact zf|refine zm ?_|refine zc (C7 (SB a b)) ?_|refine zr0 ?_|refine mJ m st ts [a,b] bu false 0 bW (iv (SB a b)) (by omega) ?_|refine zB ?_ ?_|refine⟨_,⟨by decide,rfl,rfl⟩,?_⟩|refine⟨_,rfl,?_⟩|intro _)
 exact hk
theorem RS(m:Mh)(st:List Va)(ts:List Tr)(a b:Va)(bW:List Fr)(n:Int)(hs:st.length<1000000000)(hc:7<=m.o.c/\m.o.c<=13)(hn:qO m.o.c a.n b.n=mG n):Fs 242 [jh a,jh b] m st (st++[num n]) ts [a,b] bW:=by
 intro K hk;have h:=VR m.o.c a.n b.n hc;rw[hn]at h;refine sh0 Tryz.f242 ?_
 repeat' ((conv=>whnf);first|exact zf|refine zm ?_|refine zc h ?_|refine zc (oW n) ?_|refine zr0 ?_|refine mJ m st ts [a,b] bu false 0 bW (num n) hs ?_|refine zB ?_ ?_|intro _)
 exact hk
theorem RR(m:Mh)(st:List Va)(ts:List Tr)(a b:Va)(bW:List Fr)(hc:7<=m.o.c/\m.o.c<=13)(hn:qO m.o.c a.n b.n=rJ):wZ 242 [jh a,jh b] m st ts [a,b] bW bW true (-2):=by
 intro K hk;have h:=VR m.o.c a.n b.n hc;rw[hn]at h;refine sh0 Tryz.f242 ?_
 repeat' ((conv=>whnf);first|exact zf|refine zm ?_|refine zc h ?_|refine zr0 ?_|refine oL m st ts [a,b] bu false 0 (bW.map bP) (-2) ?_|refine zB ?_ ?_|intro _)
 exact hk
theorem Em(m:Mh)(st:List Va)(ts:List Tr)(a b:Va)(bW:List Fr)(n:Int)(hs:st.length<1000000000)(hc:7<=m.o.c/\m.o.c<=13)(ha:a.k=1)(hb:b.k=1)(hn:qO m.o.c a.n b.n=mG n):vG 179 m st (st++[num n]) ts [a,b] bW:=by
 intro K hk;refine sh0 Tryz.f179 ?_
 repeat' ((conv=>whnf);first|exact zf|refine zm ?_|refine zr0 ?_|refine Aj 242 rfl m st (st++[num n]) ts a b 1 bW ha hb (RS m st ts a b bW n hs hc hn) ?_|refine zB ?_ ?_|intro _)
 exact hk
theorem El(m:Mh)(st:List Va)(ts:List Tr)(a b:Va)(bW:List Fr)(hc:7<=m.o.c/\m.o.c<=13)(ha:a.k=1)(hb:b.k=1)(hn:qO m.o.c a.n b.n=rJ):jX 179 m st ts ts [a,b] bW bW true (-2):=by
 intro K hk;refine sh0 Tryz.f179 ?_
 repeat' ((conv=>whnf);first|exact zf|refine zm ?_|refine zr0 ?_|refine QL 242 rfl m st ts a b 1 bW bW true (-2) ha hb (RR m st ts a b bW hc hn) ?_|refine zB ?_ ?_|intro _)
 exact hk
theorem Ek(m:Mh)(st:List Va)(ts:List Tr)(a b:Va)(bW:List Fr)(hab:¬(a.k=1/\b.k=1)):jX 179 m st ts ts [a,b] bW bW true (-1):=by
 intro K hk;refine sh0 Tryz.f179 ?_
 repeat' ((conv=>whnf);first|exact zf|refine zm ?_|refine zr0 ?_|refine Ai 242 m st ts a b 1 bW hab ?_|refine zB ?_ ?_|intro _)
 exact hk
theorem G6(m:Mh)(st:List Va)(ts:List Tr)(a:Va)(bW:List Fr):wZ 250 [jh a] m st ts [a] bW bW true a.n:=by
 intro K hk;refine sh0 Tryz.f250 ?_
 repeat' ((conv=>whnf);first|exact zf|refine zm ?_|refine zr0 ?_|refine oL m st ts [a] bu false 0 (bW.map bP) a.n ?_|refine zB ?_ ?_|intro _)
 exact hk
theorem G5(m:Mh)(st:List Va)(ts:List Tr)(a:Va)(bW:List Fr)(ha:a.k=1):jX 186 m st ts ts [a] bW bW true a.n:=by
 intro K hk;refine sh0 Tryz.f186 ?_
 repeat' ((conv=>whnf);first|exact zf|refine zm ?_|refine zr0 ?_|refine BQ 250 rfl m st ts a 1 bW bW true a.n ha (G6 m st ts a bW) ?_|refine zB ?_ ?_|intro _)
 exact hk
theorem G4(m:Mh)(st:List Va)(ts:List Tr)(a:Va)(bW:List Fr)(ha:¬a.k=1):jX 186 m st ts ts [a] bW bW true (-1):=by
 intro K hk;refine sh0 Tryz.f186 ?_
 repeat' ((conv=>whnf);first|exact zf|refine zm ?_|refine zr0 ?_|refine BP 250 m st ts a 1 bW ha ?_|refine zB ?_ ?_|intro _)
 exact hk
theorem nN{K:KT}(m:Mh)(st:List Va)(ts:List Tr)(tk:List Va)(u:Ou)(wr:Bool)(cd:Int)(bW:List Fr)(f:Fr)(hl:0<bW.length)(hlf:bW.length<1000000000)(hf:bW[bW.length-1]?=some f)
  (hk:K (.ret (.e (bP f) 0)) [.cells (iX m (.d (.sl 5 (bW.map bP))) st ts (gw tk) u wr cd)]) :
  Z1 195 [.p 0 0] [.cells (iX m (.d (.sl 5 (bW.map bP))) st ts (gw tk) u wr cd)] K:=by
 have hrow:(bW.map bP)[(((bW.map bP).length:Int)-1).toNat]?=some (bP f):=by
  rw[aB,aI];have e:((bW.length:Int)-1).toNat=bW.length-1:=by omega
  rw[e,hf];rfl
 refine sh0 Tryz.f195 ?_
 repeat' ((conv=>whnf);first|exact zf|refine zm ?_|refine zB ?_ ?_|intro _)
 refine⟨bP f,⟨by simp;omega,hrow,rfl⟩,?_⟩
 repeat' ((conv=>whnf);first|exact zf|refine zm ?_|refine zB ?_ ?_|intro _)
 exact hk
theorem FY{K:KT}(m:Mh)(st:List Va)(ts:List Tr)(tk:List Va)(u:Ou)(wr:Bool)(cd:Int)(rows:List (List D))(n:Int)
  (hk:K (.ret (.tu [])) [.cells (iX m (.d (.sl 5 rows)) st ts (gw tk) u true n)]) :
  Z1 244 [.p 0 0,.d (.int .i64 n)] [.cells (iX m (.d (.sl 5 rows)) st ts (gw tk) u wr cd)] K:=by
 refine sh0 Tryz.f244 ?_
 repeat' ((conv=>whnf);first|exact zf|refine zm ?_|refine zB ?_ ?_|intro _)
 exact hk
def ea(bW:List Fr)(f:Fr):List Fr:=bW.set (bW.length-1) f
theorem oC{bW:List Fr}(hl:0<bW.length)(f:Fr):(bW.map bP).set (((bW.map bP).length:Int)-1).toNat (bP f)=(ea bW f).map bP:=by
 rw[ea,eR,aI];congr 1;omega
theorem oB{bW:List Fr}{f:Fr}(hl:0<bW.length)(hf:bW[bW.length-1]?=some f):(bW.map bP)[(((bW.map bP).length:Int)-1).toNat]?=some (bP f):=by
 rw[aB,aI];have e:((bW.length:Int)-1).toNat=bW.length-1:=by omega
 rw[e,hf];rfl
theorem JS(m:Mh)(st:List Va)(ts:List Tr)(tk:List Va)(bW:List Fr)(f:Fr)(hl:0<bW.length)(hlf:bW.length<1000000000)(hf:bW[bW.length-1]?=some f) :
  jX 182 m st ts ts tk bW (ea bW {f with pc:=m.o.a}) false 0:=by
 intro K hk;have hrow:=oB hl hf;rw[<-oC hl]at hk;refine sh0 Tryz.f182 ?_
 repeat' ((conv=>whnf);first|exact zf|refine da _ _ [195] ?_ rfl|refine a8 (a8 ?_)|refine zm ?_|refine Sat.eqs (vf m st ts tk bu false 0 _ (by simp;omega) (by simp;omega) (And.intro rfl rfl)) ?_|refine zr0 ?_|refine zB ?_ ?_|intro _)
 all_goals
  refine⟨bP f,hrow,⟨rfl,rfl,rfl⟩,?_⟩
  repeat' ((conv=>whnf);first|exact zf|refine zm ?_|refine zB ?_ ?_|intro _)
  all_goals
   exact hk
def zY(a:Int)(ma:Int):Int:=jF .and .u8 ma (IntKind.u8.wrap (jF .and .i64 a 255))
theorem Rg(m:Mh)(st:List Va)(ts:List Tr)(tk:List Va)(bW:List Fr)(f:Fr)(hl:0<bW.length)(hlf:bW.length<1000000000)(hf:bW[bW.length-1]?=some f) :
  jX 193 m st ts ts tk bW (ea bW {f with ma:=zY m.o.a f.ma}) false 0:=by
 intro K hk;have hrow:=oB hl hf;rw[<-oC hl]at hk;refine sh0 Tryz.f193 ?_
 repeat' ((conv=>whnf);first|exact zf|refine da _ _ [195] ?_ rfl|refine a8 (a8 ?_)|refine zm ?_|refine Sat.eqs (vf m st ts tk bu false 0 _ (by simp;omega) (by simp;omega) (And.intro rfl rfl)) ?_|refine zr0 ?_|refine⟨bP f,hrow,?_⟩|refine⟨bP f,hrow,⟨rfl,rfl,rfl⟩,?_⟩|refine(.inr ?_:(_/\_)\/_)|refine zB ?_ ?_|intro _)
 all_goals exact hk
theorem Tf(m:Mh)(st:List Va)(ts:List Tr)(tk:List Va)(bW:List Fr)(f:Fr)(hs:st.length<1000000000)(hl:0<bW.length)(hlf:bW.length<1000000000)(hf:bW[bW.length-1]?=some f)(hma:0<=f.ma/\f.ma<=255) :
  vG 194 m st (st++[num f.ma]) ts tk bW:=by
 intro K hk;have hrow:=oB hl hf;refine sh0 Tryz.f194 ?_
 repeat' ((conv=>whnf);first|exact zf|refine zm ?_|refine zr0 ?_|refine vf m st ts tk bu false 0 _ (by simp;omega) (by simp;omega) ?_|refine zB ?_ ?_|intro _)
 refine⟨bP f,hrow,?_⟩
 repeat' ((conv=>whnf);first|exact zf|refine zm ?_|refine zc (oW f.ma) ?_|refine zr0 ?_|refine mJ m st ts tk bu false 0 bW (num f.ma) hs ?_|refine zB ?_ ?_|intro _)
 exact hk
theorem Bj(m:Mh)(st:List Va)(ts:List Tr)(a:Va)(bW:List Fr)(f:Fr)(hl:0<bW.length)(hlf:bW.length<1000000000)(hf:bW[bW.length-1]?=some f)(hn:a.n≠0) :
  wZ 248 [jh a] m st ts [a] bW (ea bW {f with pc:=m.o.a}) false 0:=by
 intro K hk;refine sh0 Tryz.f248 ?_
 repeat' ((conv=>whnf);first|exact zf|refine zm ?_|refine zB ?_ ?_|intro _)
 refine aU (λ_=>?_) (λh=>absurd (by simpa using h) hn)
 repeat' ((conv=>whnf);first|exact zf|refine zm ?_|refine zr0 ?_|refine JS m st ts [a] bW f hl hlf hf _ ?_|refine zB ?_ ?_|intro _)
 exact hk
theorem Bi(m:Mh)(st:List Va)(ts:List Tr)(a:Va)(bW:List Fr)(hn:a.n=0) :
  wZ 248 [jh a] m st ts [a] bW bW false 0:=by
 intro K hk;refine sh0 Tryz.f248 ?_
 repeat' ((conv=>whnf);first|exact zf|refine zm ?_|refine zB ?_ ?_|intro _)
 refine aU (λh=>absurd hn (by simpa using h)) (λ_=>?_)
 repeat' ((conv=>whnf);first|exact zf|refine zm ?_|refine zB ?_ ?_|intro _)
 exact hk
theorem FH(m:Mh)(st:List Va)(ts:List Tr)(a:Va)(bW:List Fr)(f:Fr)(hl:0<bW.length)(hlf:bW.length<1000000000)(hf:bW[bW.length-1]?=some f)(ha:a.k=1)(hn:a.n≠0) :
  jX 183 m st ts ts [a] bW (ea bW {f with pc:=m.o.a}) false 0:=by
 intro K hk;refine sh0 Tryz.f183 ?_
 repeat' ((conv=>whnf);first|exact zf|refine zm ?_|refine zr0 ?_|refine BQ 248 rfl m st ts a 1 bW _ false 0 ha (Bj m st ts a bW f hl hlf hf hn) ?_|refine zB ?_ ?_|intro _)
 exact hk
theorem FG(m:Mh)(st:List Va)(ts:List Tr)(a:Va)(bW:List Fr)(ha:a.k=1)(hn:a.n=0) :
  jX 183 m st ts ts [a] bW bW false 0:=by
 intro K hk;refine sh0 Tryz.f183 ?_
 repeat' ((conv=>whnf);first|exact zf|refine zm ?_|refine zr0 ?_|refine BQ 248 rfl m st ts a 1 bW bW false 0 ha (Bi m st ts a bW hn) ?_|refine zB ?_ ?_|intro _)
 exact hk
theorem FF(m:Mh)(st:List Va)(ts:List Tr)(a:Va)(bW:List Fr)(ha:¬a.k=1):jX 183 m st ts ts [a] bW bW true (-1):=by
 intro K hk;refine sh0 Tryz.f183 ?_
 repeat' ((conv=>whnf);first|exact zf|refine zm ?_|refine zr0 ?_|refine BP 248 m st ts a 1 bW ha ?_|refine zB ?_ ?_|intro _)
 exact hk
theorem RY(m:Mh)(st:List Va)(ts:List Tr)(a:Va)(bW:List Fr)(hs:st.length<1000000000):Fs 247 [jh a] m st (st++[iv (a.n==0)]) ts [a] bW:=by
 intro K hk;refine sh0 Tryz.f247 ?_
 repeat' ((conv=>whnf);first|exact zf|refine zm ?_|refine zc (C7 (a.n==0)) ?_|refine zr0 ?_|refine mJ m st ts [a] bu false 0 bW (iv (a.n==0)) hs ?_|refine zB ?_ ?_|intro _)
 exact hk
theorem RX(m:Mh)(st:List Va)(ts:List Tr)(a:Va)(bW:List Fr)(hs:st.length<1000000000)(ha:a.k=1):vG 181 m st (st++[iv (a.n==0)]) ts [a] bW:=by
 intro K hk;refine sh0 Tryz.f181 ?_
 repeat' ((conv=>whnf);first|exact zf|refine zm ?_|refine zr0 ?_|refine RG 247 rfl m st _ ts a 1 bW ha (RY m st ts a bW hs) ?_|refine zB ?_ ?_|intro _)
 exact hk
theorem RW(m:Mh)(st:List Va)(ts:List Tr)(a:Va)(bW:List Fr)(ha:¬a.k=1):jX 181 m st ts ts [a] bW bW true (-1):=by
 intro K hk;refine sh0 Tryz.f181 ?_
 repeat' ((conv=>whnf);first|exact zf|refine zm ?_|refine zr0 ?_|refine BP 247 m st ts a 1 bW ha ?_|refine zB ?_ ?_|intro _)
 exact hk
theorem Dr(l:List (List D)):Z0 251 [.d (.sl 3 l)] (.cl 3 l):=by
 refine sh0 Tryz.f251 ?_
 repeat' ((conv=>whnf);first|exact zf|refine zm ?_|refine zB ?_ ?_|intro _)
 exact cD (κ (V.cl 3) (by simp))
theorem TJ(m:Mh)(st:List Va)(ts:List Tr)(tk:List Va)(bW:List Fr)(ht:ts.length<1000000000) :
  jX 187 m st ts (ts++[⟨bW.length,st.length,m.o.a⟩]) tk bW bW false 0:=by
 intro K hk;refine sh0 Tryz.f187 ?_;have ht':(ts.map eJ).length<1000000000:=by simpa using ht
 repeat' ((conv=>whnf);first|exact zf|refine zm ?_|refine zc (Dr (ts.map eJ)) ?_|refine zB ?_ ?_|intro _)
 all_goals
  have e:(ts++[(⟨bW.length,st.length,m.o.a⟩:Tr)]).map eJ=ts.map eJ++[[.int .i64 ((bW.map bP).length:Int),.int .i64 ((st.map b9).length:Int),.int .i64 m.o.a]]:=by simp[eJ]
  unfold iX at hk;rw[e]at hk;exact hk
def Ui(m:Mh)(c0:V)(st:List Va)(c2:V)(tk:V)(u:Ou)(wr:Bool)(cd:Int):List V:=
  [.d (.sl 5 (m.im.cs.map b9)), .d (.sl 3 (m.im.fs.map bc)), .d (.sl 5 (m.gC.fr.map bP)), .d (.sl 5 (m.gC.st.map b9)), .d (.sl 3 (m.gC.tr.map eJ)),
   c0,.d (.sl 5 (st.map b9)),c2,.d (.int .i64 m.o.c),.d (.int .i64 m.o.a),tk,.d (.int .i64 m.fr),.d (.int .i64 m.tr),
   .d (.int .i64 u.k),.d (.int .i64 u.v.k),.d (.int .i64 u.v.n),.d (.str u.v.nm),.d (.str u.v.ls),.d (.str u.v.li),.d (.int .i64 u.o.c),.d (.int .i64 u.o.a),.d (.bool wr),.d (.int .i64 cd)]
theorem SE{K:KT}(m:Mh)(st:List Va)(ts:List Tr)(tk:List Va)(bW:List Fr)(hn:m.tr<ts.length)(h0:0<=m.tr)
  (hk:K (.ret (.tu [])) [.cells (Ui m (.os 1) st (.cl 3 ((ts.take (ts.length-1)).map eJ)) (gw tk) bu false 0),.rows 5 (bW.map bP)]) :
  Z1 188 [.p 0 0] [.cells (iX m (.os 1) st ts (gw tk) bu false 0),.rows 5 (bW.map bP)] K:=by
 refine sh0 Tryz.f188 ?_
 repeat' ((conv=>whnf);first|exact zf|refine zm ?_|refine zB ?_ ?_|intro _)
 refine aU (λ_=>?_) (λh=>absurd h (by simp;omega));have e:((ts.map eJ).take (((ts.map eJ).length:Int)-1).toNat).drop (0:Int).toNat=(ts.take (ts.length-1)).map eJ:=by
  rw[aI,<-jY];show List.map eJ _=_;congr 2;omega
 rw[<-e]at hk
 repeat' ((conv=>whnf);first|exact zf|refine zm ?_|refine zc (Dr _) ?_|refine zB ?_ ?_|intro _)
 exact hk
theorem SC{K:KT}(m:Mh)(st:List Va)(ts:List Tr)(tk:List Va)(bW:List Fr)(hn:¬m.tr<ts.length)
  (hk:K (.ret (.tu [])) [.cells (iX m (.os 1) st ts (gw tk) bu false 0),.rows 5 (bW.map bP)]) :
  Z1 188 [.p 0 0] [.cells (iX m (.os 1) st ts (gw tk) bu false 0),.rows 5 (bW.map bP)] K:=by
 refine sh0 Tryz.f188 ?_
 repeat' ((conv=>whnf);first|exact zf|refine zm ?_|refine zB ?_ ?_|intro _)
 refine aU (λh=>absurd h (by simp;omega)) (λ_=>?_)
 repeat' ((conv=>whnf);first|exact zf|refine zm ?_|refine zB ?_ ?_|intro _)
 exact hk
theorem Nb{K:KT}(m:Mh)(st:List Va)(ts:List Tr)(tk:List Va)(bW:List Fr)(f:Fr)(g:Fn)(hl:0<bW.length)(hlf:bW.length<1000000000)(htk:tk.length<1000000000)(hf:bW[bW.length-1]?=some f)(h0:0<=m.o.a)(hg:m.im.fs[m.o.a.toNat]?=some g)(hy:dW ⟨bW,st,ts⟩=true)
  (hk:K (.ret (.tu [])) [.cells (iX m (.d (.sl 5 ((gK ⟨bW,st,ts⟩ m.o.a g.vars tk f.ma).fr.map bP))) st ts (gw tk) bu false 0),.no]) :
  Z1 184 [.p 0 0] [.cells (iX m (.os 1) st ts (gw tk) bu false 0),.rows 5 (bW.map bP)] K:=by
 have he:=mS ⟨bW,st,ts⟩ m.o.a g.vars tk f.ma hlf htk;simp only[lI,hy,δ]at he;have hrow:(m.im.fs.map bc)[m.o.a.toNat]?=some (bc g):=by simp[hg]
 refine sh0 Tryz.f184 ?_
 repeat' ((conv=>whnf);first|exact zf|refine jM [1] ?_|refine zm ?_|refine zc he ?_|refine⟨rfl,_,nN m st ts tk bu false 0 bW f hl hlf hf (And.intro rfl rfl),?_⟩|refine⟨_,nN m st ts tk bu false 0 bW f hl hlf hf (And.intro rfl rfl),?_⟩|refine zB ?_ ?_|intro _)
 conv=>whnf
 refine⟨bc g,⟨h0,hrow,rfl⟩,?_⟩
 repeat' ((conv=>whnf);first|exact zf|refine zm ?_|refine zc he ?_|refine⟨rfl,_,nN m st ts tk bu false 0 bW f hl hlf hf (And.intro rfl rfl),?_⟩|refine⟨_,nN m st ts tk bu false 0 bW f hl hlf hf (And.intro rfl rfl),?_⟩|refine zB ?_ ?_|intro _)
 exact hk
theorem Na{K:KT}(m:Mh)(st:List Va)(ts:List Tr)(tk:List Va)(bW:List Fr)(f:Fr)(g:Fn)(hl:0<bW.length)(hlf:bW.length<1000000000)(htk:tk.length<1000000000)(hf:bW[bW.length-1]?=some f)(h0:0<=m.o.a)(hg:m.im.fs[m.o.a.toNat]?=some g)(hy:dW ⟨bW,st,ts⟩=false)
  (hk:K (.ret (.tu [])) [.cells (iX m (.d (.sl 5 (bW.map bP))) st ts (gw tk) bu true (-6)),.no]) :
  Z1 184 [.p 0 0] [.cells (iX m (.os 1) st ts (gw tk) bu false 0),.rows 5 (bW.map bP)] K:=by
 have he:=mS ⟨bW,st,ts⟩ m.o.a g.vars tk f.ma hlf htk;simp only[lI,hy,ε]at he;have hrow:(m.im.fs.map bc)[m.o.a.toNat]?=some (bc g):=by simp[hg]
 refine sh0 Tryz.f184 ?_
 repeat' ((conv=>whnf);first|exact zf|refine jM [1] ?_|refine zm ?_|refine zc he ?_|refine⟨rfl,_,nN m st ts tk bu false 0 bW f hl hlf hf (And.intro rfl rfl),?_⟩|refine⟨_,nN m st ts tk bu false 0 bW f hl hlf hf (And.intro rfl rfl),?_⟩|refine zB ?_ ?_|intro _)
 all_goals
  conv=>whnf
  refine⟨bc g,⟨h0,hrow,rfl⟩,?_⟩
  repeat' ((conv=>whnf);first|exact zf|refine zm ?_|refine zc he ?_|refine⟨rfl,_,nN m st ts tk bu false 0 bW f hl hlf hf (And.intro rfl rfl),?_⟩|refine⟨_,nN m st ts tk bu false 0 bW f hl hlf hf (And.intro rfl rfl),?_⟩|refine zr0 ?_|refine FY m st ts tk bu false 0 (bW.map bP) (-6) ?_|refine zB ?_ ?_|intro _)
  all_goals
   exact hk
theorem Qg{K:KT}(m:Mh)(st:List Va)(ts:List Tr)(tk:List Va)(bW:List Fr)(hf:m.gC.fr.length<1000000000)(hs:m.gC.st.length<1000000000)(ht:m.gC.tr.length<1000000000)(hy:pM m.gC=true)(hn:((ft m.gC).fr.length:Int)<=m.fr)
  (hk:K (.ret (.tu [])) [.cells (iX m (.d (.sl 5 ((ft m.gC).fr.map bP))) (ft m.gC).st (ft m.gC).tr (gw tk) ⟨1,sL m.gC,o0⟩ false 0),.rows 5 (bW.map bP)]) :
  Z1 185 [.p 0 0] [.cells (iX m (.os 1) st ts (gw tk) bu false 0),.rows 5 (bW.map bP)] K:=by
 have he:=HN m.gC hf hs ht;simp only[E4,hy,δ]at he;refine sh0 Tryz.f185 ?_
 repeat' ((conv=>whnf);first|exact zf|refine zm ?_|refine zc he ?_|refine zB ?_ ?_|intro _)
 refine aU (λ_=>?_) (λh=>absurd h (by simp;omega))
 repeat' ((conv=>whnf);first|exact zf|refine zm ?_|refine zB ?_ ?_|intro _)
 exact hk
theorem Qf{K:KT}(m:Mh)(st:List Va)(ts:List Tr)(tk:List Va)(bW:List Fr)(hf:m.gC.fr.length<1000000000)(hs:m.gC.st.length<1000000000)(ht:m.gC.tr.length<1000000000)(hs2:(ft m.gC).st.length<1000000000)(hy:pM m.gC=true)(hn:¬((ft m.gC).fr.length:Int)<=m.fr)
  (hk:K (.ret (.tu [])) [.cells (iX m (.d (.sl 5 ((ft m.gC).fr.map bP))) ((ft m.gC).st++[sL m.gC]) (ft m.gC).tr (gw tk) bu false 0),.rows 5 (bW.map bP)]) :
  Z1 185 [.p 0 0] [.cells (iX m (.os 1) st ts (gw tk) bu false 0),.rows 5 (bW.map bP)] K:=by
 have he:=HN m.gC hf hs ht;simp only[E4,hy,δ]at he;refine sh0 Tryz.f185 ?_
 repeat' ((conv=>whnf);first|exact zf|refine zm ?_|refine zc he ?_|refine zB ?_ ?_|intro _)
 refine aU (λh=>absurd h (by simp;omega)) (λ_=>?_)
 repeat' ((conv=>whnf);first|exact zf|refine zm ?_|refine zr0 ?_|refine Ba m (ft m.gC).st (ft m.gC).tr tk bu false 0 (ft m.gC).fr (sL m.gC) hs2 ?_|refine zB ?_ ?_|intro _)
 exact hk
def VX:List (Int×Nat):=[(1,1000173),(2,1000174),(3,1000175),(4,1000176),(5,1000177),(6,1000178),(7,1000179),(8,1000179),(9,1000179),(10,1000179),(11,1000179),(12,1000180),(13,1000179),(14,1000181),(15,1000182),(16,1000183),(17,1000184),(18,1000185),(19,1000186),(20,1000187),(21,1000188),(22,1000189),(23,1000190),(24,1000191),(31,1000192),(44,1000193),(47,1000194)]
def EO(id:Nat):List (V×V):=VX.map λp=>(.d (.int .i64 p.1),.fc p.2 [.p id 0])
theorem mB{K:KT}(m:Mh)(hk:K (.ret (.mp 1)) [.cells (R9 m),.mp (EO 0)]):Z1 143 [.p 0 0] [.cells (R9 m)] K:=by
  refine si0 Tryz.f143 ?_
  repeat' ((conv=>whnf);first|exact zf|refine zm ?_|refine⟨_,rfl,?_⟩|refine zB ?_ ?_|intro _)
  exact hk
end Go.Proofs.YtmigecldjbgneaaGreatDoor