/- Lemmas. Conditions: none. -/
import Derived.Test.YtjpgfgajkjhonaaGreatDoorQRAW
set_option maxHeartbeats 4000000
namespace Go.Proofs.YtjpgfgajkjhonaaGreatDoor
open Go.Vx
set_option maxRecDepth 100000
open Go.RowKit Go.Shelf Go.Proofs
def cW(l:List (List UInt8)):List (List D):=l.map λs=>[.str s]
theorem Dn{l:List (List UInt8)}{i:Nat}{row:List D}(h:(cW l)[i]?=some row):∃s,l[i]?=some s/\row=[.str s]:=by
 rw[cW,aB,aG]at h;obtain⟨s,h1,rfl⟩:=h;exact⟨s,h1,rfl⟩
theorem gr(l:List (List UInt8)):(cW l).length=l.length:=aH _
theorem e8(b:Nat):∀(vs:List Value)(o:Nat)(w:World)(arr:Array Value)(ty:TypeId)(m:Nat×Nat),w.heap[b]?=some (.cells arr ty m) ->
  ∃arr',(w.setCells b o vs).heap[b]?=some (.cells arr' ty m)/\arr'.size=arr.size/\(∀j,(j<o\/o+vs.length<=j)->arr'[j]?=arr[j]?)/\(∀j,j<vs.length->o+j<arr.size->arr'[o+j]?=vs[j]?) /\
   (∀k,k≠b->(w.setCells b o vs).heap[k]?=w.heap[k]?)/\(w.setCells b o vs).heap.size=w.heap.size/\(w.setCells b o vs).os=w.os/\(w.setCells b o vs).tape=w.tape/\(w.setCells b o vs).output=w.output
 |[],o,w,arr,ty,m,h=>⟨arr,h,rfl,λ_ _=>rfl,λj hj=>by simp at hj,λ_ _=>rfl,rfl,rfl,rfl,rfl⟩
 |v::vs,o,w,arr,ty,m,h=>by
  have hlt:b<w.heap.size:=(aQ.1 h).1;have hv:w.heap[b]=.cells arr ty m:=(aQ.1 h).2;have h1:(w.setCell ⟨b,o,none⟩ v).heap[b]?=some (.cells (arr.setIfInBounds o v) ty m):=by
   unfold World.setCell;rw[aN (by simpa using hlt),Array.getElem_modify];simp[hv]
  obtain⟨arr',g1,g2,g3,g4,g5,g6,g7,g8,g9⟩:=e8 b vs (o+1) (w.setCell ⟨b,o,none⟩ v) _ ty m h1;refine⟨arr',g1,by simpa using g2,λj hj=>?_,λj hj hl=>?_,λk hk=>(g5 k hk).trans ?_,by rw[World.setCells,g6];simp[World.setCell],g7,g8,g9⟩
  .rw[g3 j (by simp at hj;omega),Array.getElem?_setIfInBounds,η (by simp at hj;omega)]
  .cases j with
   |zero=>
    rw[eQ,g3 o (.inl (by omega)),Array.getElem?_setIfInBounds,ζ rfl,ζ (by omega)];rfl
   |succ j=>
    have:=g4 j (by simpa using hj) (by simp;omega);rw[show o+(j+1)=o+1+j by omega,this];rfl
  .simp[World.setCell,Array.getElem?_modify,k_ hk]
theorem Hy{G:Nat->Prop}{w w':World}{v0 v1 v2:Value}{x0 x1 x2:B}(hR:HR G w [v0,v1] [x0,x1])(hx:x0≠.no)(hs:w.heap.size<=w'.heap.size)(same:∀b,b<w.heap.size->b∉eU v0 x0->w'.heap[b]?=w.heap[b]?)(ho:w'.os=w.os)(ht:w'.tape=w.tape)(hou:w'.output=w.output)
  (new:cY G w' [v0,v1,v2] v2 x2) (hb1:∀b∈eU v2 x2,b∈eU v0 x0\/w.heap.size<=b):Ok ⟨w,G,[v0,v1],[x0,x1],[],[]⟩ G w' [v0,v1,v2] [.no,.no,x2]:=by
 have h0:∀b,b∈eU v0 x0->own [v0,v1] [x0,x1] b:=λb hb=>⟨0,v0,x0,rfl,rfl,hx,hb⟩
 have hG:∀b,G b->w'.heap[b]?=w.heap[b]?:=λb hb=>same b (hR.gl b hb) λh=>hR.gd b hb (h0 b h);have get:∀(i:Nat)(v:Value)(y:B),[v0,v1,v2][i]?=some v->[B.no,B.no,x2][i]?=some y->y≠.no->i=2/\v=v2/\y=x2:=by
  intro i v y h1 h2 h3
  match i,h1,h2 with
  |0,h1,h2=>cases h2;exact absurd rfl h3
  |1,h1,h2=>cases h2;exact absurd rfl h3
  |2,h1,h2=>cases h1;cases h2;exact⟨rfl,rfl,rfl⟩
 have hown:∀b,own [v0,v1,v2] [.no,.no,x2] b->own [v0,v1] [x0,x1] b\/w.heap.size<=b:=by
  rintro b ⟨i,v,y,h1,h2,h3,h4⟩
  obtain⟨rfl,rfl,rfl⟩:=get i v y h1 h2 h3;exact(hb1 b h4).imp (h0 b) λh=>h
 refine⟨⟨rfl,λi v y h1 h2=>?_,λi j v u x y b h1 h2 h3 h4 h5 h6 _ _=>?_,λb hb=>b9 (hR.gl b hb) hs,λb hb ho=>?_,hR.sF.mono (λ_ h=>h) hG⟩,λ_ h=>h,λ_ h=>.inl h,λb hb=>(hown b hb).symm.imp (λh=>h) λh=>h,
  λb hb hn=>same b hb λh=>hn (h0 b h),hs,ho,ht,hou,λi v hv _=>?_,by simp,λ_ h=>nomatch h⟩
 .by_cases hy:y=.no
  .subst hy;trivial
  .obtain⟨rfl,rfl,rfl⟩:=get i v y h1 h2 hy;exact new
 .obtain⟨rfl,_⟩:=get i v x h1 h2 h3;obtain⟨rfl,_⟩:=get j u y h4 h5 h6;rfl
 .rcases hown b ho with h|h
  .exact hR.gd b hb h
  .have:=hR.gl b hb;omega
 .match i,hv with
  |0,hv=>exact hv
  |1,hv=>exact hv
theorem Cf (l:List (List UInt8)) (key:List UInt8) (i:Nat) (hi:i≤l.length) (hll:l.length<1000000000) :
    Z1 48 [.os 0,.d (.int .i64 i),.os 1] [.rows 1 (cW l),.rows 1 [[.str key]]] λout h=>out=.ret (.os 2)/\h=[.no,.no,.rows 1 (cW (l.take i++key::l.drop i))]:=by
  refine .inl ⟨by kernel_rfl,λG w ρ vs hR hl hv=>?_⟩
  match ρ,hR.len with
  |[v0,v1],_=>
  match vs,hl with
  |[a0,a1,a2],_=>
  have e0:a0=v0:=by
    have:=hv 0 _ rfl
    cases this with|o h=>cases h with|c h=>cases h with|k h=>cases h with|os _ a n c h=>exact(aq h).symm
  have e1:a1=.int .i64 i:=(hv 1 _ rfl).int
  subst e0 e1
  have e2:a2=v1:=by
    have:=hv 2 _ rfl
    cases this with|o h=>cases h with|c h=>cases h with|k h=>cases h with|os _ a n c h=>exact(aq h).symm
  subst e2
  obtain⟨vb,vc,vty,s,varr,e2,hvb,hcv,hs⟩:∃vb vc vty s varr,a2=.slice (some ⟨vb,0,none⟩) 1 vc/\w.heap[vb]?=some (.cells varr vty (0,0))/\varr[0]?=some (.string s)/\bp G w (.string s) (.str key):=by
    rcases hR.rep 1 a2 _ rfl rfl with⟨_,h⟩|⟨b,c,arr,ty,h0,h1,h2,h3,h4,h5⟩
    · cases h
    · have:=(h5 0 _ rfl).2 0 _ rfl
      have hlt:0<arr.size:=by rw[h4];simp at h2;omega
      rw[Nat.zero_mul,cF,aF,aN hlt]at this
      generalize hx:arr[0]=x at this
      have hx':arr[0]?=some x:=by rw[aN hlt,hx]
      replace this:bp G w x (.str key):=this
      cases this with
      |str s hs=>exact⟨b,c,ty,s,arr,h0,h1,hx',.str s hs⟩
  have e2':=e2
  subst e2'
  have hvs:∀(o:Nat)(j:Nat)(v:Value),[Value.string s][j]?=some v->o=0->w.cell? ⟨vb,o+j,none⟩=some v:=by
    intro o j v hj ho
    subst ho
    match j,hj with
    |0,hj=>cases hj;rw[dC hvb];exact hcv
  have hmax:(1000000000:Nat)<=maxLen:=by decide
  have hlen:(l.take i++key::l.drop i).length=l.length+1:=by
    rw[aK,aX,bC,eJ]
    omega
  have fin:∀(w':World)(b' c':Nat)(arr':Array Value)(ty:TypeId),w'.heap[b']?=some (.cells arr' ty (0,0))->arr'.size=c'->l.length+1<=c'->c'<=maxLen->(∀(j:Nat)(u:List UInt8),(l.take i++key::l.drop i)[j]?=some u->bp G w (arr'.getD j undef) (.str u)) ->
      (b'∈eU a0 (.rows 1 (cW l))\/w.heap.size<=b')->w.heap.size<=w'.heap.size->(∀b,b<w.heap.size->b∉eU a0 (.rows 1 (cW l))->w'.heap[b]?=w.heap[b]?)->w'.os=w.os->w'.tape=w.tape->w'.output=w.output ->
      ∃(G':Nat->Prop)(ρ':List Value)(h':H)(out:Out),Ok ⟨w,G,[a0,.slice (some ⟨vb,0,none⟩) 1 vc],[.rows 1 (cW l),.rows 1 [[.str key]]],[],[]⟩ G' w' ρ' h'/\NG G' w' ρ' (.returned (.slice (some ⟨b',0,none⟩) (l.length+1) c')) out/\(out=.ret (.os 2)/\h'=[.no,.no,.rows 1 (cW (l.take i++key::l.drop i))]):=by
    intro w' b' c' arr' ty g1 g2 g3 g4 g5 g6 g7 g8 g9 g10 g11
    refine⟨G,[a0,.slice (some ⟨vb,0,none⟩) 1 vc,.slice (some ⟨b',0,none⟩) (l.length+1) c'],_,.ret (.os 2),Hy (x2:=.rows 1 (cW (l.take i++key::l.drop i))) hR (by simp) g7 g8 g9 g10 g11 (.inr ⟨b',c',arr',ty,?_,g1,?_,g4,by omega,λj row hj=>?_⟩) (λb hb=>?_),⟨_,rfl,.k (.os 2 _ _ _ rfl)⟩,rfl,rfl⟩
    · rw[gr,hlen]
    · rw[gr,hlen];exact g3
    · obtain⟨u,h1,rfl⟩:=Dn hj
      refine⟨rfl,λk x hx=>?_⟩
      match k,hx with
      |0,hx=>
        cases hx
        have:=g5 j u h1
        rw[show j*1+0=j by omega]
        exact wO this rfl
    · have hb:=(fi).1 hb
      cases hb
      exact g6
  have fst:∀{j:Nat},j<i->(l.take i++key::l.drop i)[j]?=l[j]?:=λhj=>by
    rw[aT (by rw[bC];omega),ao,ζ hj]
  have mid:(l.take i++key::l.drop i)[i]?=some key:=by
    rw[aY (by rw[bC];omega),bC,mG hi,qm];rfl
  have lst:∀{j:Nat},i<j->(l.take i++key::l.drop i)[j]?=l[j-1]?:=λ{j} hj=>by
    rw[aY (by rw[bC];omega),bC,mG hi]
    obtain⟨k,rfl⟩:∃k,j=i+1+k:=⟨j-(i+1),by omega⟩
    rw[show i+1+k-i=k+1 by omega,eY,bF]
    congr 1
    omega
  have hgt:∀(arr:Array Value)(j:Nat)(v:Value),arr[j]?=some v->arr.getD j undef=v:=λarr j v h=>by rw[aF,h];rfl
  have grw:∀(o:Obj),gK w (w.drew.alloc o):=λo=>(gK.drew w).trans (gK.alloc _ _)
  have zc:∀k,(Builtin.zeroCells (Value.string ⟨#[]⟩).cells k).size=k:=λk=>by rw[size_zeroCells];simp[Value.cells]
  rcases hR.rep 0 a0 _ rfl rfl with⟨rfl,hnil⟩|⟨b,c,arr,ty,rfl,h1,h2,h3,h4,h5⟩
  · skip
    have hl0:l=[]:=by
      cases l with
      |nil=>rfl
      |cons=>cases hnil
    subst hl0
    have BF:i=0:=by simpa using hi
    subst BF
    have:=Any2.slices_Insert_string_end_grow insert none 0 0 vb 0 1 vc [] [.string s] w (by omega) (by omega) (by omega) (by omega) rfl rfl (λ_=>rfl) (λa h=>by cases h) (λj v hj=>hvs 0 j v hj rfl) (by simp[Value.oneCell'])
    refine Calls.mono this ?_
    rintro e w' ⟨rfl,rfl⟩
    have hge:=grownCap_ge w (0+1) 0 (iK.t 9)
    refine fin _ _ _ _ _ (heap_alloc_new w.drew _) ?_ hge (grownCap_le_maxLen w _ _ _ (by omega)) (λj u hj=>?_) (.inr (aM _)) (grw _).size (λb hb _=>(grw _).iE b hb) rfl rfl rfl
    · simp only[Array.size_append,zc,eX,aK,ah,aX]
      omega
    · match j,hj with
      |0,hj=>
        cases hj
        rw[hgt _ 0 (.string s) (by rw[cp (by simp)];rfl)]
        exact hs
  · rw [gr] at h2 hR fin ⊢
    have hsz:arr.size=c:=by omega
    have iE:∀(j:Nat)(u:List UInt8),l[j]?=some u->bp G w (arr.getD j undef) (.str u):=λj u hj=>by
      have:=(h5 j [.str u] (by rw[cW,aB,hj];rfl)).2 0 _ rfl
      rwa[show j*1+0=j by omega]at this
    have hbo:b∈eU (.slice (some ⟨b,0,none⟩) l.length c) (.rows 1 (cW l)):=(fi).2 rfl
    have hblt:b<w.heap.size:=(aQ.1 h1).1
    have hne:vb≠b:=λe=>by
      have:=hR.oB 0 1 _ _ _ _ b rfl rfl (by simp) rfl rfl (by simp) hbo ((fi).2 (by rw[<-e];rfl))
      cases this
    have hcell:∀j,j<c->w.cell? ⟨b,0+j,none⟩=some (arr.getD j undef):=λj hj=>by
      rw[cF,dC h1,aF,aN (by omega)];rfl
    have hcs:∀(j:Nat)(v:Value),((List.range l.length).map λj=>arr.getD j undef)[j]?=some v->v=arr.getD j undef/\j<l.length:=λj v hj=>by
      rw[aB,aG]at hj
      obtain⟨k,hk,rfl⟩:=hj
      obtain⟨hk1,hk2⟩:=aC.1 hk
      simp at hk1 hk2
      exact⟨by rw[hk2],hk1⟩
    have hone:∀v∈(List.range l.length).map (λj=>arr.getD j undef),v.oneCell'=true:=λv hv=>by
      obtain⟨j,hj⟩:=aj.1 hv
      obtain⟨rfl,hj2⟩:=hcs j v hj
      have:=iE j _ (aA hj2)
      generalize l[j]=y at this
      generalize arr.getD j undef=u at this⊢
      cases this
      rfl
    have hc63:c<=9223372036854775807:=h3
    have hfz:∀j,w.frozen? ⟨b,j,none⟩=false:=λj=>by simp[World.frozen?,h1]
    by_cases hin:i=l.length
    · subst hin
      by_cases hroom:l.length+1<=c
      · have:=Any2.slices_Insert_string_end_room insert b 0 l.length c vb 0 1 vc [.string s] w (by omega) hroom hc63 rfl (λj hj=>by rw[show 0+l.length+j=0+(l.length+j)by omega,hcell _ (by omega)];rfl) (λj _=>hfz _) (λj v hj=>hvs 0 j v hj rfl) (by simp[Value.oneCell'])
        refine Calls.mono this ?_
        rintro e w' ⟨rfl,rfl⟩
        obtain⟨arr',g1,g2,g3,g4,g5,g6,g7,g8,g9⟩:=e8 b [.string s] (0+l.length) w arr ty _ h1
        refine fin _ b c arr' ty g1 (by omega) hroom h3 (λj u hj=>?_) (.inl hbo) (by omega) (λk hk hk2=>g5 k λe=>hk2 (by rw[e];exact hbo)) g7 g8 g9
        by_cases hj1:j<l.length
        · rw[fst hj1]at hj
          have:=iE j u hj
          rwa[aF,g3 j (.inl (by omega)),<-aF]
        · have hjl:=(aC.1 hj).1
          rw[hlen]at hjl
          have:j=l.length:=by omega
          subst this
          rw[mid]at hj
          cases hj
          have:=g4 0 (by simp) (by omega)
          rw[show 0+l.length+0=l.length by omega]at this
          rw[hgt _ _ _ this]
          exact hs
      · have:=Any2.slices_Insert_string_end_grow insert (some ⟨b,0,none⟩) l.length c vb 0 1 vc ((List.range l.length).map λj=>arr.getD j undef) [.string s] w (by omega) h2 (by omega) (by omega) (by simp) rfl (λh=>by cases h) (λa h j v hj=>by
          cases h
          obtain⟨rfl,hj2⟩:=hcs j v hj
          have:=hcell j (by omega)
          rw[Addr.add_lit]
          exact this) (λj v hj=>hvs 0 j v hj rfl) (by simp[Value.oneCell'])
        refine Calls.mono this ?_
        rintro e w' ⟨rfl,rfl⟩
        have hge:=grownCap_ge w (l.length+1) c (iK.t 9)
        refine fin _ _ _ _ _ (heap_alloc_new w.drew _) ?_ hge (grownCap_le_maxLen w _ _ _ (by omega)) (λj u hj=>?_) (.inr (aM _)) (grw _).size (λb hb _=>(grw _).iE b hb) rfl rfl rfl
        · simp only[Array.size_append,zc,eX,aK,ah,aX,aH,kD]
          omega
        · by_cases hj1:j<l.length
          · rw[fst hj1]at hj
            have:=iE j u hj
            rw[hgt _ j (arr.getD j undef) (by rw[cp (by simp;omega)];simp[aT,hj1])]
            exact this
          · have hjl:=(aC.1 hj).1
            rw[hlen]at hjl
            have:j=l.length:=by omega
            subst this
            rw[mid]at hj
            cases hj
            rw[hgt _ l.length (.string s) (by rw[cp (by simp)];simp)]
            exact hs
    · have hil:i<l.length:=by omega
      have hcsl:((List.range l.length).map λj=>arr.getD j undef).length=l.length:=by simp
      have hcs2:∀(j:Nat)(v:Value),((List.range l.length).map λj=>arr.getD j undef)[j]?=some v->w.cell? ⟨b,0+j,none⟩=some v:=λj v hj=>by
        obtain⟨rfl,hj2⟩:=hcs j v hj
        exact hcell j (by omega)
      have hdr:∀{j:Nat},j<l.length-i->(((List.range l.length).map λj=>arr.getD j undef).drop i)[j]?=some (arr.getD (i+j) undef):=λ{j} hj=>by
        rw[bF,aB,ck (by omega)]
        rfl
      have hdl:(((List.range l.length).map λj=>arr.getD j undef).drop i).length=l.length-i:=by simp
      have new:∀(arr':Array Value),(∀j,j<i->arr'[j]?=some (arr.getD j undef))->arr'[i]?=some (.string s)->(∀j,j<l.length-i->arr'[i+1+j]?=some (arr.getD (i+j) undef))->∀(j:Nat)(u:List UInt8),(l.take i++key::l.drop i)[j]?=some u->bp G w (arr'.getD j undef) (.str u):=by
        intro arr' n1 n2 n3 j u hj
        have hjl:=(aC.1 hj).1
        rw[hlen]at hjl
        rcases eB j i with h|rfl|h
        · rw[fst h]at hj
          rw[hgt _ _ _ (n1 j h)]
          exact iE j u hj
        · rw[mid]at hj
          cases hj
          rw[hgt _ _ _ n2]
          exact hs
        · rw[lst h]at hj
          have:=n3 (j-(i+1)) (by omega)
          rw[show i+1+(j-(i+1))=j by omega,show i+(j-(i+1))=j-1 by omega]at this
          rw[hgt _ _ _ this]
          exact iE _ u hj
      by_cases hroom:l.length+1<=c
      · have:=Any2.slices_Insert_string_shift insert b 0 l.length c i vb 0 1 vc ((List.range l.length).map λj=>arr.getD j undef) [.string s] w hil (by omega) hroom hc63 hne hcsl rfl hcs2 (λj hj=>by rw[hcell j (by omega)];rfl) (λj _=>by rw[cF];exact hfz _) (λj v hj=>hvs 0 j v hj rfl) hone (by simp[Value.oneCell'])
          vty ty varr.size arr.size (by simp[World.shape?,hvb]) (by simp[World.shape?,h1]) (by omega) (by simp[World.frozen?,hvb]) (by simp[World.frozen?,hvb])
        refine Calls.mono this ?_
        rintro e w' ⟨rfl,rfl⟩
        obtain⟨arr1,g1,g2,g3,g4,g5,g6,g7,g8,g9⟩:=e8 b (((List.range l.length).map λj=>arr.getD j undef).drop i) (0+(i+1)) w.drew arr ty _ h1
        obtain⟨arr2,k1,k2,k3,k4,k5,k6,k7,k8,k9⟩:=e8 b [.string s] (0+i) _ arr1 ty _ g1
        refine fin _ b c arr2 ty k1 (by omega) hroom h3 (new arr2 (λj hj=>?_) ?_ (λj hj=>?_)) (.inl hbo) (by rw[k6,g6];exact aM _) (λk hk hk2=>?_) (k7.trans g7) (k8.trans g8) (k9.trans g9)
        · rw[k3 j (.inl (by omega)),g3 j (.inl (by omega)),aF,aN (by omega)]
          rfl
        · have:=k4 0 (by simp) (by omega)
          rw[show 0+i+0=i by omega]at this
          exact this
        · rw[k3 _ (.inr (by simp<;>omega))]
          have:=g4 j (by omega) (by omega)
          rw[show 0+(i+1)+j=i+1+j by omega,hdr hj]at this
          exact this
        · have hne2:k≠b:=λe=>hk2 (by rw[e];exact hbo)
          exact(k5 k hne2).trans (g5 k hne2)
      · have:=Any2.slices_Insert_string_grow insert b 0 l.length c i vb 0 1 vc ((List.range l.length).map λj=>arr.getD j undef) [.string s] w hil (by omega) h2 (by omega) (by omega) hcsl rfl hcs2 (λj v hj=>hvs 0 j v hj rfl) hone (by simp[Value.oneCell'])
        refine Calls.mono this ?_
        rintro e w' ⟨rfl,rfl⟩
        have hge:=grownCap_ge w (l.length+1) c (iK.t 9)
        have hgm:=grownCap_le_maxLen w (l.length+1) c (iK.t 9) (by omega)
        generalize grownCap w (l.length+1) c (iK.t 9)=gc at *
        have h0:=heap_alloc_new w (.cells ((((List.range l.length).map λj=>arr.getD j undef).take i).toArray++Builtin.zeroCells (Value.string ⟨#[]⟩).cells (l.length+1-i)++Builtin.zeroCells (Value.string ⟨#[]⟩).cells (gc-(l.length+1))) (iK.t 9))
        have hg0:=gK.alloc w (.cells ((((List.range l.length).map λj=>arr.getD j undef).take i).toArray++Builtin.zeroCells (Value.string ⟨#[]⟩).cells (l.length+1-i)++Builtin.zeroCells (Value.string ⟨#[]⟩).cells (gc-(l.length+1))) (iK.t 9))
        have hz:((((List.range l.length).map λj=>arr.getD j undef).take i).toArray++Builtin.zeroCells (Value.string ⟨#[]⟩).cells (l.length+1-i)++Builtin.zeroCells (Value.string ⟨#[]⟩).cells (gc-(l.length+1))).size=gc:=by
          simp only[Array.size_append,zc,eX,bC,aH,kD]
          omega
        have hf:∀j,j<i->((((List.range l.length).map λj=>arr.getD j undef).take i).toArray++Builtin.zeroCells (Value.string ⟨#[]⟩).cells (l.length+1-i)++Builtin.zeroCells (Value.string ⟨#[]⟩).cells (gc-(l.length+1)))[j]?=some (arr.getD j undef):=λj hj=>by
          rw[Array.append_assoc,cp (by simp;omega),fJ,ao,ζ hj,aB,ck (by omega)]
          rfl
        generalize((((List.range l.length).map λj=>arr.getD j undef).take i).toArray++Builtin.zeroCells (Value.string ⟨#[]⟩).cells (l.length+1-i)++Builtin.zeroCells (Value.string ⟨#[]⟩).cells (gc-(l.length+1)))=ar0 at *
        obtain⟨arr1,g1,g2,g3,g4,g5,g6,g7,g8,g9⟩:=e8 w.heap.size [.string s] i (w.alloc (.cells ar0 (iK.t 9))).drew ar0 _ _ h0
        obtain⟨arr2,k1,k2,k3,k4,k5,k6,k7,k8,k9⟩:=e8 w.heap.size (((List.range l.length).map λj=>arr.getD j undef).drop i) (i+1) ((w.alloc (.cells ar0 (iK.t 9))).drew.setCells w.heap.size i [.string s]).drew arr1 _ _ g1
        refine fin _ w.heap.size gc arr2 _ k1 (by omega) hge hgm (new arr2 (λj hj=>?_) ?_ (λj hj=>?_)) (.inr (aM _)) ?_ (λk hk hk2=>?_) (k7.trans g7) (k8.trans g8) (k9.trans g9)
        · rw[k3 j (.inl (by omega)),g3 j (.inl (by omega)),hf j hj]
        · rw[k3 i (.inl (by omega))]
          have:=g4 0 (by simp) (by omega)
          exact this
        · have:=k4 j (by omega) (by omega)
          rw[hdr hj]at this
          exact this
        · rw[k6]
          show w.heap.size<=((w.alloc (.cells ar0 (iK.t 9))).drew.setCells w.heap.size i [.string s]).heap.size
          rw[g6]
          exact hg0.size
        · exact(k5 k (by omega)).trans ((g5 k (by omega)).trans (hg0.iE k hk))
theorem u64:Tryz.prog.underlying 64=some (.slice 197):=zx0
def zL:List Value:=[.string ⟨#[]⟩,.bool false,.int .i64 0,.int .i64 0,.string ⟨#[]⟩,.string ⟨#[]⟩,.string ⟨#[]⟩]
def zW:Value:=.agg zL.toArray
theorem i197:∃i,Tryz.prog.info? 197=some i/\i.size=7/\i.zero=some zW:=by
  cases h:Tryz.prog.info? 197 with
  | none => exact absurd h (by have : (Tryz.prog.info? 197).isSome = true := by kernel_rfl
                               intro e;rw[e]at this;cases this)
  |some i=>
    have h1:(Tryz.prog.info? 197).map (·.size)=some 7:=zx0
    have h2:(Tryz.prog.info? 197).map (·.zero)=some (some zW):=zx0
    rw[h]at h1 h2
    exact⟨i,rfl,aq h1,aq h2⟩
theorem AW(w:World)(ty:TypeId)(b o c:Nat)(hc:∀j,j<7->(w.cell? ⟨b,o+j,none⟩).isSome=true)(hf:∀j,j<7->w.frozen? ⟨b,o+j,none⟩=false) :
  (Builtin.clear_ #[64] ty #[.slice (some ⟨b,o,none⟩) 1 c]).run Tryz.prog w=.ok (.tuple #[]) (w.setCells b o zL):=by
 have hv:∀w,(zeroValue 197).run Tryz.prog w=.ok zW w:=by
  obtain⟨i,h1,_,h2⟩:=i197;intro w;simp[zeroValue,typeInfo,h1,h2]
 have hst:=run_storeCells_cells (P:=Tryz.prog) b o zL 0 w (λj hj=>by rw[eQ];exact hc j hj) (λj hj=>by rw[eQ];exact hf j hj) (by decide);simp only[eQ]at hst;have hzc:(Builtin.zeroCells zW.cells 1).toList=zL:=zx0
 simp[Builtin.clear_,run_underlying u64,hv,hzc,hst]
theorem Q8:Tryz.prog.follows .mixedOrders=true:=mixed
set_option maxRecDepth 1000000 in
theorem M4(b n c i j:Nat)(hij:j=i+1)(hi:i<n)(hn:n<=c)(_:c<=9223372036854775807)(w:World)(news:List Value)(hlen:news.length=(n-j)*7)(hnw:∀t u,news[t]?=some u->w.cell? ⟨b,j*7+t,none⟩=some u)(h1:∀u∈news,u.oneCell'=true)
    (arr:Array Value) (ty0:TypeId) (harr:w.heap[b]?=some (.cells arr ty0 (0,0))) (hsz:n*7<=arr.size) :
    Calls Tryz.prog 323 #[.slice (some ⟨b,0,none⟩) n c,.int .i64 i,.int .i64 j] w λe w'=>e=.returned (.slice (some ⟨b,0,none⟩) (n-1) c)/\w'=(w.drew.setCells b (i*7) news).setCells b ((n-1)*7) zL:=by
  have hall:∀j,j<n*7->(w.cell? ⟨b,j,none⟩).isSome=true:=λj hj=>by rw[dC harr,aN (by omega)];rfl
  have hfz:∀j,w.frozen? ⟨b,j,none⟩=false:=λj=>by simp[World.frozen?,harr]
  obtain⟨i0,BF,hz7,_⟩:=i197
  have mixed:=Q8
  have t64:=u64
  obtain ⟨A, hA, hsrc⟩ : ∃ A : Addr, (if c = j then some (⟨b, 0, none⟩ : Addr) else some ⟨b, j * 7, none⟩) = some A ∧ Hid (∀ t u, news[t]? = some u → w.drew.cell? (A.add t) = some u) := by
    by_cases h:c=j
    · refine⟨⟨b,0,none⟩,by simp[h],λt u hu=>?_⟩
      have h0 : news.length = 0 := by rw [hlen]; have : n - j = 0 := by omega
                                      rw[this]
      rw[List.length_eq_zero_iff.1 h0]at hu
      simp at hu
    · refine⟨⟨b,j*7,none⟩,by simp[h],λt u hu=>?_⟩
      rw[Addr.add_lit]
      exact hnw t u hu
  have s1:Hid (news.length=(n-j)*7):=hlen
  have s2:Hid (∀u∈news,u.oneCell'=true):=h1
  have s3:Hid (∀t,t<news.length->(w.drew.cell? ⟨b,0+i*7+t,none⟩).isSome=true/\w.drew.frozen? ⟨b,0+i*7+t,none⟩=false):=by
    intro t ht
    rw[hlen]at ht
    exact⟨hall _ (by omega),hfz _⟩
  obtain⟨W1,hW1⟩:∃W1,W1=w.drew.setCells b (0+i*7) news:=⟨_,rfl⟩
  have jb:∀ty,(Builtin.clear_ #[64] ty #[.slice (some ⟨b,(i+(n-j))*7,none⟩) (n-(i+(n-j))) (c-(i+(n-j)))]).run Tryz.prog W1=.ok (.tuple #[]) (W1.setCells b ((n-1)*7) zL):=λty=>by
    rw[show i+(n-j)=n-1 by omega,show n-(n-1)=1 by omega]
    obtain⟨arr',g1,g2,_⟩:=e8 b news (0+i*7) w.drew arr ty0 _ harr
    rw[<-hW1]at g1
    exact AW W1 ty b ((n-1)*7) _ (λk hk=>by rw[dC g1,aN (by omega)];rfl) (λk _=>by simp[World.frozen?,g1])
  have hW:Hid (W1=w.drew.setCells b (0+i*7) news):=hW1
  have hic:i<=c:=by omega
  have hjc:j<=c:=by omega
  have hjn:j<=n:=by omega
  have hlt:i<j:=by omega
  have hle:i<=j:=by omega
  have HJ:Hid (j=i+1):=hij
  clear hW1 hlen hnw h1 hall hfz hij harr hsz
  go_enter Tryz.func323,Tryz.ntmps323
  go_wp2_with fail
  go_region_law_o (refine step_append_room rfl (.tmp 22) (.tmp 25) 64 rfl 197 i0 7 t64 BF hz7 b 0 i c (by simp[Act.eval,Act.put]) A (n-j) (c-j) news (by simp[Act.eval,Act.put]) s1.out hsrc.out s2.out (by omega) s3.out ?_;rw[<-hW.out])
  go_wp2_with fail
  have hij:=HJ.out
  go_ret
  refine⟨by rw[show n-1=i+(n-j)by omega];rfl,?_⟩
  rw[hW.out,cF]
theorem Hz{G:Nat->Prop}{w w':World}{v0 v1:Value}{x0 x1:B}(hR:HR G w [v0] [x0])(hx:x0≠.no)(hs:w.heap.size<=w'.heap.size)(same:∀b,b<w.heap.size->b∉eU v0 x0->w'.heap[b]?=w.heap[b]?)(ho:w'.os=w.os)(ht:w'.tape=w.tape)(hou:w'.output=w.output)
  (new:cY G w' [v0,v1] v1 x1) (hb1:∀b∈eU v1 x1,b∈eU v0 x0\/w.heap.size<=b):Ok ⟨w,G,[v0],[x0],[],[]⟩ G w' [v0,v1] [.no,x1]:=by
 have h0:∀b,b∈eU v0 x0->own [v0] [x0] b:=λb hb=>⟨0,v0,x0,rfl,rfl,hx,hb⟩
 have hG:∀b,G b->w'.heap[b]?=w.heap[b]?:=λb hb=>same b (hR.gl b hb) λh=>hR.gd b hb (h0 b h);have get:∀(i:Nat)(v:Value)(y:B),[v0,v1][i]?=some v->[B.no,x1][i]?=some y->y≠.no->i=1/\v=v1/\y=x1:=by
  intro i v y h1 h2 h3
  match i,h1,h2 with
  |0,h1,h2=>cases h2;exact absurd rfl h3
  |1,h1,h2=>cases h1;cases h2;exact⟨rfl,rfl,rfl⟩
 have hown:∀b,own [v0,v1] [.no,x1] b->own [v0] [x0] b\/w.heap.size<=b:=by
  rintro b ⟨i,v,y,h1,h2,h3,h4⟩
  obtain⟨rfl,rfl,rfl⟩:=get i v y h1 h2 h3;exact(hb1 b h4).imp (h0 b) λh=>h
 refine⟨⟨rfl,λi v y h1 h2=>?_,λi j v u x y b h1 h2 h3 h4 h5 h6 _ _=>?_,λb hb=>b9 (hR.gl b hb) hs,λb hb ho=>?_,hR.sF.mono (λ_ h=>h) hG⟩,λ_ h=>h,λ_ h=>.inl h,λb hb=>(hown b hb).symm.imp (λh=>h) λh=>h,
  λb hb hn=>same b hb λh=>hn (h0 b h),hs,ho,ht,hou,λi v hv _=>?_,by simp,λ_ h=>nomatch h⟩
 .by_cases hy:y=.no
  .subst hy;trivial
  .obtain⟨rfl,rfl,rfl⟩:=get i v y h1 h2 hy;exact new
 .obtain⟨rfl,_⟩:=get i v x h1 h2 h3;obtain⟨rfl,_⟩:=get j u y h4 h5 h6;rfl
 .rcases hown b ho with h|h
  .exact hR.gd b hb h
  .have:=hR.gl b hb;omega
 .match i,hv with
  |0,hv=>exact hv
theorem M3(l:List (List D))(i:Nat)(hi:i<l.length)(hll:l.length<1000000000)(hsc:∀r∈l,∀x∈r,KI x=true) :
  Z1 323 [.os 0,.d (.int .i64 i),.d (.int .i64 (i+1:Nat))] [.rows 7 l] λout h=>out=.ret (.os 1)/\h=[.no,.rows 7 (l.take i++l.drop (i+1))]:=by
 refine .inl ⟨by kernel_rfl,λG w ρ vs hR hl hv=>?_⟩
 match ρ,hR.len with
 |[v0],_=>
 match vs,hl with
 |[a0,a1,a2],_=>
 have e0:a0=v0:=by
  have:=hv 0 _ rfl;cases this with|o h=>cases h with|c h=>cases h with|k h=>cases h with|os _ a n c h=>exact(aq h).symm
 have e1:a1=.int .i64 i:=(hv 1 _ rfl).int;have e2:a2=.int .i64 (i+1:Nat):=(hv 2 _ rfl).int;subst e0 e1 e2;have hmax:(1000000000:Nat)<=maxLen:=by decide
 have hlen:(l.take i++l.drop (i+1)).length=l.length-1:=by
  rw[aK,bC,eJ];omega
 rcases hR.rep 0 a0 _ rfl rfl with⟨rfl,hnil⟩|⟨b,c,arr,ty,rfl,h1,h2,h3,h4,h5⟩
 .cases l with
  |nil=>simp at hi
  |cons=>cases hnil
 .have hbo:b∈eU (.slice (some ⟨b,0,none⟩) l.length c) (.rows 7 l):=(fi).2 rfl;have hblt:b<w.heap.size:=(aQ.1 h1).1;have hmx:maxLen<=9223372036854775807:=by decide
  have hcell:∀q,q<arr.size->w.cell? ⟨b,q,none⟩=some (arr.getD q undef):=λq hq=>by
   rw[dC h1,aF,aN hq];rfl
  have hrep:∀(q k:Nat)(row:List D)(x:D),l[q]?=some row->row[k]?=some x->bp G w (arr.getD (q*7+k) undef) x:=λq k row x hq hk=>(h5 q row hq).2 k x hk;have hone:∀q,q<l.length*7->(arr.getD q undef).oneCell'=true:=λq hq=>by
   obtain⟨row,hr⟩:∃row,l[q / 7]?=some row:=⟨_,aA (by omega)⟩
   obtain⟨x,hx⟩:∃x,row[q % 7]?=some x:=⟨_,aA (by rw[(h5 _ row hr).1];omega)⟩
   have:=(hrep _ _ row x hr hx).one;rwa[show q / 7*7+q % 7=q by omega]at this
  obtain⟨news,hnl,hng,hng2⟩:∃news:List Value,news.length=(l.length-(i+1))*7/\(∀(t:Nat)(u:Value),news[t]?=some u->u=arr.getD ((i+1)*7+t) undef/\t<(l.length-(i+1))*7)/\∀t,t<(l.length-(i+1))*7->news[t]?=some (arr.getD ((i+1)*7+t) undef):=by
   refine⟨(List.range ((l.length-(i+1))*7)).map λt=>arr.getD ((i+1)*7+t) undef,by simp,λt u hu=>?_,λt ht=>?_⟩
   .rw[aB,aG]at hu;obtain⟨k,hk,rfl⟩:=hu;obtain⟨hk1,hk2⟩:=aC.1 hk;simp at hk1 hk2;exact⟨by rw[hk2],hk1⟩
   .rw[aB,ck ht];rfl
  have:=M4 b l.length c i (i+1) rfl hi h2 (by omega) w news hnl (λt u hu=>by
   obtain⟨rfl,ht⟩:=hng t u hu;exact hcell _ (by omega)) (λu hu=>by
   obtain⟨t,ht⟩:=aj.1 hu;obtain⟨rfl,ht2⟩:=hng t u ht;exact hone _ (by omega)) arr ty h1 (by omega)
  refine Calls.mono this ?_
  rintro e w' ⟨rfl,rfl⟩
  obtain⟨arr1,g1,g2,g3,g4,g5,g6,g7,g8,g9⟩:=e8 b news (i*7) w.drew arr ty _ h1;obtain⟨arr2,k1,k2,k3,k4,k5,k6,k7,k8,k9⟩:=e8 b zL ((l.length-1)*7) _ arr1 ty _ g1;have new:∀q,q<(l.length-1)*7->arr2.getD q undef=arr.getD (bif decide (q<i*7)then q else q+7) undef:=λq hq=>by
   rw[aF,k3 q (.inl hq)]
   by_cases hqi:q<i*7
   .rw[g3 q (.inl hqi),φ hqi,δ,aF]
   .rw[τ hqi,ε];have:=g4 (q-i*7) (by rw[hnl];omega) (by omega);rw[show i*7+(q-i*7)=q by omega]at this;rw[this,hng2 _ (by omega),show(i+1)*7+(q-i*7)=q+7 by omega];rfl
  refine⟨G,[.slice (some ⟨b,0,none⟩) l.length c,.slice (some ⟨b,0,none⟩) (l.length-1) c],_,.ret (.os 1),Hz (x1:=.rows 7 (l.take i++l.drop (i+1))) hR (by simp) (by rw[k6,g6];exact aM _) (λk hk hk2=>?_) (k7.trans g7) (k8.trans g8) (k9.trans g9) (.inr ⟨b,c,arr2,ty,?_,k1,?_,h3,by omega,λq row hq=>?_⟩) (λb' hb=>?_),⟨_,rfl,.k (.os 1 _ _ _ rfl)⟩,rfl,rfl⟩
  .have hne:k≠b:=λe=>hk2 (by rw[e];exact hbo);exact(k5 k hne).trans (g5 k hne)
  .rw[hlen]
  .rw[hlen];omega
  .have hql:=(aC.1 hq).1;rw[hlen]at hql;have hq':l[bif decide (q<i)then q else q+1]?=some row:=by
    by_cases hqi:q<i
    .rw[φ hqi,δ];rwa[aT (by rw[bC];omega),ao,ζ hqi]at hq
    .rw[τ hqi,ε];rw[aY (by rw[bC];omega),bC,bF]at hq;rwa[show i+1+(q-min i l.length)=q+1 by omega]at hq
   refine⟨(h5 _ row hq').1,λk x hx=>?_⟩;have hk7:k<7:=by
    have:=(aC.1 hx).1;rw[(h5 _ row hq').1]at this;exact this
   rw[new (q*7+k) (by omega)];have hd:=hrep _ k row x hq' hx;have e:(bif decide (q*7+k<i*7)then q*7+k else q*7+k+7)=(bif decide (q<i)then q else q+1)*7+k:=by
    by_cases hqi:q<i
    .rw[φ hqi,φ (by omega),δ,δ]
    .rw[τ hqi,τ (by omega),ε,ε];omega
   rw[e];exact wO hd (hsc row (aJ hq') x (aJ hx))
  .have hb:=(fi).1 hb;cases hb;exact .inl hbo
end Go.Proofs.YtjpgfgajkjhonaaGreatDoor
namespace Go.Proofs.YtjpgfgajkjhonaaGreatDoor
open Go.Vx
set_option maxRecDepth 100000
theorem Em{K:KT}(l:List (List D))(i:Nat)(hi:i<l.length)(hll:l.length<1000000000)(hsc:∀r∈l,∀x∈r,KI x=true)(hk:K (.ret (.os 1)) [.no,.rows 7 (l.take i++l.drop (i+1))]) :
 Z1 323 [.os 0,.d (.int .i64 i),.d (.int .i64 (i+1:Nat))] [.rows 7 l] K:=(M3 l i hi hll hsc).mono λ_ _ ⟨a,b⟩=>by rw[a,b];exact hk
theorem zy(l:List (List D))(i:Nat)(hi:i<l.length)(hll:l.length<100000000)(hsc:∀r∈l,∀x∈r,KI x=true):Z0 290 [.d (.sl 7 l),.d (.int .i64 i)] (.d (.sl 7 (l.take i++l.drop (i+1)))):=by
 have h1:=λ{K:KT}=>zF (K:=K) l hll;have h2:=λ{K:KT}=>Em (K:=K) l i hi (by omega) hsc;refine sh0 Tryz.f290 ?_
 repeat' ((conv=>whnf);first|exact zf|refine zm ?_|refine(h1 ?_)|refine(h2 ?_)|intro _)
theorem zG(l:List (List D))(hl:l.length<100000000):Z0 85 [.d (.sl 7 l)] (.d (.sl 7 l)):=by
 refine sh0 Tryz.f85 ?_;cases l with
 |nil=>
  repeat' ((conv=>whnf);first|exact zf|refine zm ?_|refine And.intro ?_ ?_|intro _)
 |cons r l=>
  exact zj0
def Bb(x:Vr):V:=.ag [.d (.bool x.full),.d (.int .i64 x.v.k),.d (.int .i64 x.v.n),.d (.str x.v.nm),.d (.str x.v.ls),.d (.str x.v.li),.d (.sl 7 (x.q.map eL))]
def KX(x:Wt):Ws:=⟨x.id,x.put,x.v.k,x.v.n,x.v.nm,x.v.ls,x.v.li⟩
theorem KW(q:List Wt):(q.map KX).map Ws.row=q.map eL:=by simp[KX,Ws.row,eL]
theorem PM(q:List Wt):∀r∈q.map eL,∀x∈r,KI x=true:=by
 intro r hr x hx;obtain⟨w,_,rfl⟩:=bJ.1 hr;simp only[eL,af,cU,or_false]at hx;rcases hx with rfl|rfl|rfl|rfl|rfl|rfl|rfl<;>rfl
def sM(p:Bool)(q:List Wt):Nat:=jw p (q.map KX)
theorem JF(p:Bool)(q:List Wt):Z0 288 [.d (.sl 7 (q.map eL)),.d (.fn (bif p then 289 else 291))] (.d (.int .i64 (if sM p q<q.length then sM p q else -1))):=by
 have h:=JG p (q.map KX);rw[KW]at h;unfold kU at h;rw[aH]at h;exact h
def rJ(q:List Wt)(i:Nat):List Wt:=q.take i++q.drop (i+1)
theorem xl(q:List Wt)(i:Nat)(hi:i<q.length)(hl:q.length<100000000):Z0 290 [.d (.sl 7 (q.map eL)),.d (.int .i64 i)] (.d (.sl 7 ((rJ q i).map eL))):=by
 have h:=zy (q.map eL) i (by rw[aH];exact hi) (by rw[aH];exact hl) (PM q);unfold rJ;rw[bZ,e_,pH];exact h
theorem NL(q:List Wt)(w:Wt)(hl:q.length<100000000):Z0 287 [.d (.sl 7 (q.map eL)),.ag [.d (.str w.id),.d (.bool w.put),.d (.int .i64 w.v.k),.d (.int .i64 w.v.n),.d (.str w.v.nm),.d (.str w.v.ls),.d (.str w.v.li)]] (.d (.sl 7 ((q++[w]).map eL))):=by
 have h:=K1 (q.map eL) w.id w.put w.v.k w.v.n w.v.nm w.v.ls w.v.li (by rw[aH];exact hl);rw[bZ];exact h
def eu(x:Vr)(id:List UInt8):Vr×Va×Bool×List UInt8:=
 bif x.full then(match x.q[sM true x.q]? with
  |some w=>(⟨true,w.v,rJ x.q (sM true x.q)⟩,x.v,true,w.id)
  |none=>(⟨false,dT,x.q⟩,x.v,true,[]))else(⟨x.full,x.v,x.q++[⟨id,false,dT⟩]⟩,dT,false,[])
theorem Km(x:Vr)(id:List UInt8)(hl:x.q.length<100000000):Z0 246 [Bb x,.d (.str id)] (.tu [Bb (eu x id).1,j7 (eu x id).2.1,.d (.bool (eu x id).2.2.1),.d (.str (eu x id).2.2.2)]):=by
 obtain⟨full,v,q⟩:=x;have hl:q.length<100000000:=hl;unfold eu;cases full with
 |false=>
  have h1:=NL q ⟨id,false,dT⟩ hl;refine sh0 Tryz.f246 ?_
  exact zk1 h1
 |true=>
  have h1:=JF true q;have h2:=zG (q.map eL) (by rw[aH];exact hl);cases hq:q[sM true q]? with
  |none=>
   have hn:¬sM true q<q.length:=λh=>by rw[aA h]at hq;cases hq
   rw[η hn]at h1;dsimp only[cond_true];refine sh0 Tryz.f246 ?_
   exact zk2 h1 h2
  |some w=>
   have hn:sM true q<q.length:=(aC.1 hq).1;rw[ζ hn]at h1;have h3:=xl q (sM true q) hn hl;have hrow:(q.map eL)[((sM true q:Nat):Int).toNat]?=some (eL w):=by
    rw[show((sM true q:Nat):Int).toNat=sM true q from rfl,aB,hq];rfl
   dsimp only[cond_true];refine sh0 Tryz.f246 ?_
   repeat' ((conv=>whnf);first|exact zf|refine zm ?_|refine zc h1 ?_|refine zc h3 ?_|refine⟨eL w,⟨by omega,hrow,rfl⟩,?_⟩|refine zt ?_|refine zu ?_|intro _)
def jl(x:Vr)(id:List UInt8)(v:Va):Vr×Bool×List UInt8:=
 bif x.full then(⟨x.full,x.v,x.q++[⟨id,true,v⟩]⟩,false,[])else(match x.q[sM false x.q]? with
  |some w=>(⟨x.full,x.v,rJ x.q (sM false x.q)⟩,true,w.id)
  |none=>(⟨true,v,x.q⟩,true,[]))
theorem QB(x:Vr)(id:List UInt8)(v:Va)(hl:x.q.length<100000000):Z0 248 [Bb x,.d (.str id),j7 v] (.tu [Bb (jl x id v).1,.d (.bool (jl x id v).2.1),.d (.str (jl x id v).2.2)]):=by
 obtain⟨full,u,q⟩:=x;have hl:q.length<100000000:=hl;unfold jl;cases full with
 |true=>
  have h1:=NL q ⟨id,true,v⟩ hl;refine sh0 Tryz.f248 ?_
  exact zk1 h1
 |false=>
  have h1:=JF false q;have h2:=zG (q.map eL) (by rw[aH];exact hl);cases hq:q[sM false q]? with
  |none=>
   have hn:¬sM false q<q.length:=λh=>by rw[aA h]at hq;cases hq
   rw[η hn]at h1;dsimp only[cond_false];refine sh0 Tryz.f248 ?_
   exact zk2 h1 h2
  |some w=>
   have hn:sM false q<q.length:=(aC.1 hq).1;rw[ζ hn]at h1;have h3:=xl q (sM false q) hn hl;have hrow:(q.map eL)[((sM false q:Nat):Int).toNat]?=some (eL w):=by
    rw[show((sM false q:Nat):Int).toNat=sM false q from rfl,aB,hq];rfl
   dsimp only[cond_false];refine sh0 Tryz.f248 ?_
   repeat' ((conv=>whnf);first|exact zf|refine zm ?_|refine zc h1 ?_|refine zc h3 ?_|refine⟨eL w,⟨by omega,hrow,rfl⟩,?_⟩|refine zt ?_|refine zu ?_|intro _)
def Ro(x:Vr):List V:=[.d (.bool x.full),.d (.int .i64 x.v.k),.d (.int .i64 x.v.n),.d (.str x.v.nm),.d (.str x.v.ls),.d (.str x.v.li)]
def gq(x:Vr)(i:Nat):H:=
 match i with
 |0=>[.cells (Ro x++[.d (.sl 7 (x.q.map eL))]),.cells (Ro Ag++[.nl 7]),.cells (Ro x++[.nl 7])]
 |i+1=>[.cells (Ro x++[.d (.sl 7 (x.q.map eL))]),.cells (Ro Ag++[.nl 7]),.cells (Ro x++[.os 3]),.rows 7 ((x.q.take (i+1)).map eL)]
theorem Du(x:Vr)(hq:x.q.length<100000000):Z0 124 [Bb x] (Bb x):=by
 have hlen:(x.q.map eL).length=x.q.length:=aH _;have h1:=w7 x.v;refine sh0 Tryz.f124 ?_
 repeat' ((conv=>whnf);first|exact zf|refine zm ?_|refine zc h1 ?_|intro _)
 conv=>whnf
 refine bM [(1,.p 0 0),(2,.p 1 0),(3,.p 2 0)] (λi:Nat=>i<=x.q.length) (λi=>[(4,.d (.int .i64 i))]) (gq x) (λi=>x.q.length-i) 0 (ae _) ?_ ?_ ?_ (λi hi=>?_)
 .exact zzz
 .exact⟨aU rfl,aU rfl,aU rfl,trivial⟩
 .exact zx0
 by_cases hlt:i<x.q.length
 .have tx:decide ((i:Int)<((x.q.map eL).length:Int))=true:=by simp;omega
  have hg:(x.q.map eL)[(i:Int).toNat]?=some (eL x.q[i]):=by rw[show(i:Int).toNat=i by omega,aB,aA hlt];rfl
  have h2:=w7 x.q[i].v;have htk:x.q.take (i+1)=x.q.take i++[x.q[i]]:=by rw[bc,aA hlt];rfl
  cases i with
  |zero=>
   unfold gq
   repeat' ((conv=>whnf);first|exact zf|refine zm ?_|refine(gM tx ?_)|refine⟨_,⟨by omega,hg,rfl⟩,?_⟩|refine zc h2 ?_|refine zi0 ?_|refine aW (λhb=>?_) (λhb=>?_)|intro _)
   exact⟨1,hlt,by omega,zzz,⟨aU rfl,aU rfl,aU rfl,aU (by rw[htk];rfl),trivial⟩,rfl⟩
  |succ i=>
   unfold gq
   repeat' ((conv=>whnf);first|exact zf|refine zm ?_|refine(gM tx ?_)|refine⟨_,⟨by omega,hg,rfl⟩,?_⟩|refine zc h2 ?_|refine zi0 ?_|refine aW (λhb=>?_) (λhb=>?_)|intro _)
   exact⟨i+2,hlt,by omega,zzz,⟨aU rfl,aU rfl,aU rfl,aU (by rw[htk,bZ];rfl),trivial⟩,rfl⟩
 .have tx:decide ((i:Int)<((x.q.map eL).length:Int))=false:=by simp;omega
  have hie:i=x.q.length:=by omega
  cases i with
  |zero=>
   have hq0:x.q=[]:=bP hie.symm;unfold gq
   repeat' ((conv=>whnf);first|exact zf|refine zm ?_|refine(gG tx ?_)|intro _)
   unfold Bb;rw[hq0];rfl
  |succ i=>
   unfold gq
   repeat' ((conv=>whnf);first|exact zf|refine zm ?_|refine(gG tx ?_)|intro _)
   rw[hie,cO];rfl
theorem Pw(o:Ob)(hq:o.va.q.length<100000000):Z0 79 [gJ o] (gJ o):=by
 have h1:=CH o.l;have h2:=w7 o.v;have h3:=Du o.va hq;refine sh0 Tryz.f79 ?_
 exact zj3 h1 h2 h3
end Go.Proofs.YtjpgfgajkjhonaaGreatDoor