/- Lemmas. Conditions: none. -/
import Derived.Test.YtjpgfgajkjhonaaGreatDoorQHAL
namespace Go.Vx
section plain
def r_ (acc:List (List Nat)) (d:List Nat):List (List Nat):=acc ++ [dd (d++d.flatMap λi=>(acc[i]?).getD [])]
theorem BK {k:Nat}:∀{l:List Nat},k∈dd l↔k∈l
 |[]=>Iff.rfl
 |i :: l=>by
  have ih:=BK (k:=k) (l:=l);simp only [dd];cases h:has l i with
  |true=>
   rw [δ,ih,a8];exact ⟨.inr,λh'=>h'.elim (λe=>e ▸ cO.1 h) id⟩
  |false=>rw [ε,a8,a8,ih]
theorem Mw:∀(ds acc:List (List Nat)),(∀i,i<acc.length→(ds.foldl r_ acc)[i]? = acc[i]?)∧(ds.foldl r_ acc).length=acc.length+ds.length ∧
    ∀(j:Nat) (d:List Nat),ds[j]? = some d→∃b:List Nat,(ds.foldl r_ acc)[acc.length+j]? = some b∧(∀k∈d,k∈b)∧∀k∈b,k∈d∨∃k'∈d,∃b':List Nat,(ds.foldl r_ acc)[k']? = some b'∧k∈b':=by
  intro ds
  induction ds with
  |nil=>intro acc;simp
  |cons d ds ih=>
    intro acc
    obtain ⟨h1,h2,h3⟩:=ih (r_ acc d)
    have hl:(r_ acc d).length=acc.length+1:=by simp [r_]
    have h1':∀i,i<acc.length→(ds.foldl r_ (r_ acc d))[i]? = acc[i]?:=λi hi=>by
      rw [h1 i (by omega)]
      simp only [r_]
      exact aO hi
    simp only [cN]
    refine ⟨h1',by rw [h2,hl,aV];omega,λj e hj=>?_⟩
    cases j with
    |zero=>
      simp at hj
      subst hj
      refine ⟨dd (d++d.flatMap λi=>(acc[i]?).getD []),?_,λk hk=>BK.2 (by simp [hk]),λk hk=>?_⟩
      · rw [h1 _ (by omega)]
        simp [r_]
      · rw [BK, aS] at hk
        rcases hk with hk | hk
        · exact .inl hk
        · rw [aQ] at hk
          obtain ⟨i,hi,hk⟩:=hk
          cases hai:acc[i]? with
          |none=>rw [hai] at hk;cases hk
          |some b=>
            rw [hai] at hk
            exact .inr ⟨i,hi,b,by rw [h1' i (aA.1 hai).1,hai],hk⟩
    |succ j=>
      obtain ⟨b,g1,g2,g3⟩:=h3 j e (by simpa using hj)
      rw [hl] at g1
      exact ⟨b,by rw [←g1];congr 1;omega,g2,g3⟩
theorem D9 (ds:List (List Nat)):(Bw ds).length=ds.length∧∀(j:Nat) (d:List Nat),ds[j]? = some d→∃b:List Nat,(Bw ds)[j]? = some b∧(∀k∈d,k∈b)∧∀k∈b,k∈d∨∃k'∈d,∃b':List Nat,(Bw ds)[k']? = some b'∧k∈b':=by
 obtain ⟨_,h2,h3⟩:=Mw ds [];have e:Bw ds=ds.foldl r_ []:=rfl;rw [e];refine ⟨by simpa using h2,λj d hj=>?_⟩;have:=h3 j d hj;simpa using this
theorem DH:∀(bs:List (List Nat)) (k:Nat),l4 k bs=true→∀(j:Nat) (b:List Nat),bs[j]? = some b→∀i,i<k+j→i∈b:=by
 intro bs
 induction bs with
 |nil=>intro k _ j b hj;simp at hj
 |cons c bs ih=>
  intro k hk j b hj i hi;simp only [l4,aP,aT,cV] at hk;cases j with
  |zero=>simp at hj;subst hj;exact cO.1 (hk.1 i (by omega))
  |succ j=>exact ih (k+1) hk.2 j b (by simpa using hj) i (by omega)
theorem HL:∀(bs:List (List Nat)) (k:Nat),okB k bs=true→∀(j:Nat) (b:List Nat),bs[j]? = some b→∀i∈b,i<k+j:=by
 intro bs
 induction bs with
 |nil=>intro k _ j b hj;simp at hj
 |cons c bs ih=>
  intro k hk j b hj i hi;simp only [okB,aP,aT] at hk;cases j with
  |zero=>simp at hj;subst hj;have:=(dQ ..).mp (hk.1 i hi);omega
  |succ j=>have:=ih (k+1) hk.2 j b (by simpa using hj) i hi;omega
theorem QN {q:List (I×List Nat)} (h:pU q=true) {i j:Nat} {x y:I×List Nat} (hi:q[i]? = some x) (hj:q[j]? = some y) (hne:i≠j) :
  (∀s,x.1.d=some s→y.1.d≠some s)∧∀s,y.1.d=some s→s∈bZ x.1.o++vp x.1.g→j∈x.2∨i∈y.2:=by
 simp only [pU,aT] at h;have hx:(x,i)∈q.zipIdx:=by rw [List.mem_zipIdx_iff_getElem?];exact hi
 have hy:(y,j)∈q.zipIdx:=by rw [List.mem_zipIdx_iff_getElem?];exact hj
 have h1:=h _ hx _ hy;simp only [fy hne,Bool.false_or,aP] at h1;refine ⟨λs h2 h3=>?_,λs h2 h3=>?_⟩
 ·have:=h1.1;rw [h2,h3] at this;simp at this
 ·have:=h1.2;rw [h2] at this;simp only [b_,dL] at this;rcases this with (h4 | h4) | h4
  ·rw [o7] at h4;exact absurd (cO.2 h3) h4
  ·exact .inl (cO.1 h4)
  ·exact .inr (cO.1 h4)
end plain
section
variable {P:Program} {E:gR} {n:Nat} {h:H} (ow:Nat→Bool)
def wv (P:Program) (i:I) (t:T) (h:H) (v:V):Prop:=
 match i.g with
 |none=>Qt ow P i.o t h v
 |some (j,x)=>(∃b,gs t j = .d (.bool b)∧(b=x→Qt ow P i.o t h v)∧(b≠x→v = .ud))∨(gs t j = .ud∧v = .ud)
theorem Qt.congr {x:X} {t t':T} {v:V} (hq:Qt ow P x t h v) (ht:∀s∈bZ x,gs t' s=gs t s):Qt ow P x t' h v:=
 λt'' h1 h2=>hq t'' h1 λs hs=>(h2 s hs).trans (ht s hs)
theorem Qt.more {x:X} {t:T} {h1:H} {v:V} (hq:Qt ow P x t h v) (hM:NC h1 h):Qt ow P x t h1 v:=
 λt' h2 ht hM2=>hq t' h2 ht λi b hb hn=>hM2 i b (hM i b hb hn) hn
theorem wv.congr {i:I} {t t':T} {v:V} (hq:wv ow P i t h v) (ht:∀s∈bZ i.o++vp i.g,gs t' s=gs t s):wv ow P i t' h v:=by
 unfold wv at hq ⊢;have h1:∀s∈bZ i.o,gs t' s=gs t s:=λs hs=>ht s (by simp [hs]);split at hq
 ·exact Qt.congr ow hq h1
 ·rename_i j x hg;have h2:gs t' j=gs t j:=ht j (by simp [vp,hg]);rw [h2];rcases hq with ⟨b,g1,g2,g3⟩ | hq
  ·exact .inl ⟨b,g1,λhb=>Qt.congr ow (g2 hb) h1,g3⟩
  ·exact .inr hq
theorem wv.more {i:I} {t:T} {h1:H} {v:V} (hq:wv ow P i t h v) (hM:NC h1 h):wv ow P i t h1 v:=by
 unfold wv at hq ⊢;split at hq
 ·exact Qt.more ow hq hM
 ·rcases hq with ⟨b,g1,g2,g3⟩ | hq
  ·exact .inl ⟨b,g1,λhb=>Qt.more ow (g2 hb) hM,g3⟩
  ·exact .inr hq
structure R where
  v:V
  ws:List (Nat×B)
  rd:List Nat
  kl:List Nat
def Uv (i:I) (t:T) (a:H) (r:R):Prop:=
 ∃x v n id off cs,i=⟨none,.st x v n,none⟩∧gv t x = .p id off∧get? a id=some (.cells cs)∧(Nat.beq (gv t v).cs.length n=true∧Nat.ble (off+n) cs.length=true∧(gv t v).cs.all ev=true)∧r=⟨.ud,[(id,.cells (lay cs off (gv t v).cs))],[],[]⟩
def WG (lo:Nat) (i:I) (a:H) (r:R):Prop:=
 ∃d id b v o,i=⟨some d,o,none⟩∧get? a id=some .nw∧lo≤id∧((∃cs,o = .al cs∧b = .cells cs∧v = .p id 0)∨(∃pl,o = .mm pl∧b=K1 pl∧v = .mp id))∧r=⟨v,[(id,b)],[],[]⟩
def Vd (P:Program) (lo:Nat) (i:I) (t:T) (a:H) (r:R):Prop:=
 ∃f args ids r0 ns nf,i.g=none∧i.o = .cf f args∧ow f=false∧reach a 100 ((args.map λx=>cM (gv t x)).flatMap eR) []=ids∧Fg a ids ((args.map λx=>cM (gv t x)).flatMap eR)=true∧(args.map λx=>cM (gv t x)).flatMap U8 = [] ∧
  Sat P f ((args.map λx=>cM (gv t x)).map (gb (pos ids))) (ids.map λi=>eb (pos ids) ((get? a i).getD .no)) (λout h'=>out = .ret r0∧h'=(ids.map λi=>eb (pos ids) ((get? a i).getD .no))++ns) ∧
  nf.length=ns.length∧(ids.isEmpty&&ns.isEmpty)=false∧(∀i∈nf,lo≤i∧get? a i=some .nw)∧nf.Nodup∧r=⟨gb (gm ids nf) r0,nf.zip (ns.map (eb (gm ids nf))),ids,rowsOf a ids⟩
def V1 (P:Program) (lo:Nat) (i:I) (t:T) (a:H) (r:R):Prop:=
 ∃f args r0 ns nf,i.g=none∧i.o = .cf f args∧(ow f=false∧(args.map λx=>cM (gv t x)).flatMap eR≠[])∧(Sat P f ((args.map λx=>cM (gv t x)).map (rv a)) [] λout h'=>out = .ret r0∧h'=ns) ∧
  nf.length=ns.length∧ns.all yW=true∧ED r0=true∧(∀i∈nf,lo≤i∧get? a i=some .nw)∧nf.Nodup∧r=⟨gb (λk=>(get? nf k).getD 0) r0,nf.zip ns,(args.map λx=>cM (gv t x)).flatMap eR,[]⟩
def Ut (P:Program) (lo:Nat) (i:I) (t:T) (a:H) (r:R):Prop:=
 ∃f args r0 ns nf ids,i.g=none∧i.o = .cf f args∧(args.map λx=>cM (gv t x)).flatMap eR=ids∧(ids.Nodup∧∀i∈ids,∃z rs,get? a i=some (.rows z rs)) ∧
  (Sat P f ((args.map λx=>cM (gv t x)).map (gb (pos ids))) (ids.map λi=>eb (pos ids) ((get? a i).getD .no)) λout h'=>out = .ret r0∧h'=List.replicate ids.length .no++ns) ∧
  nf.length=ns.length∧(∀k∈ns.flatMap et++eR r0,ids.length≤k)∧(∀i∈nf,lo≤i∧get? a i=some .nw)∧nf.Nodup∧r=⟨gb (gt ids.length nf) r0,(ids.map λi=>(i,B.no))++nf.zip (ns.map (eb (gt ids.length nf))),ids,[]⟩
def WC (lo:Nat) (i:I) (t:T) (a:H) (r:R):Prop:=
 ∃d id z zero n parts ds,i=⟨some d,.bs z zero n parts,none⟩∧get? a id=some .nw∧lo≤id∧(parts.all λp=>Nat.beq (gv t p.2).cs.length z&&Nat.ble (p.1*z+z) (n*z)&&(gv t p.2).cs.all ev)=true ∧
  (∀(t':T) (h':H) (K':List D→T→H→Prop),K' ds t' h'→Bf (parts.foldl (λcs p=>lay cs (p.1*z) (gv t p.2).cs) (List.replicate n zero).flatten) t' h' K')∧r=⟨.os id,[(id,.rows z (chunk z n ds))],[],[]⟩
def AL (P:Program) (lo:Nat) (i:I) (t:T) (a:H) (r:R):Prop:=
 (r.ws = []∧r.kl = []∧wv ow P i t (zG r.rd a) r.v)∨Uv i t a r∨WG lo i a r∨Vd ow P lo i t a r∨V1 ow P lo i t a r∨Ut P lo i t a r∨WC lo i t a r
def kX (r:R):List Nat:=r.ws.map (·.1)
def Na (r:R):List Nat:=eR r.v++r.ws.flatMap λw=>et w.2
def wr (a:H) (r:R):H:=r.ws.foldl (λa w=>a.set w.1 w.2) a
theorem A0 {ids nf:List Nat} {ns:List B} {f:Nat→Nat} (hl:nf.length=ns.length):((ids.map λi=>(i,B.no))++nf.zip (ns.map (eb f))).map (·.1)=ids++nf:=by
 rw [bY,dK];congr 1
 ·exact (aj λ_ _=>rfl).trans (List.map_id' ids)
 ·exact eD (by simp [hl])
theorem AL.ws {P:Program} {lo:Nat} {i:I} {t:T} {a:H} {r:R} (h:AL ow P lo i t a r):(r.ws.map (·.1)).Nodup∧∀w∈r.ws,w.1<a.length:=by
 rcases h with ⟨h,_⟩ | ⟨x,v,n,id,off,cs,_,_,h1,_,rfl⟩ | ⟨d,id,b,v,o,_,h1,_,_,rfl⟩ | ⟨f,args,ids,r0,ns,nf,_,_,_,_,_,_,_,hl,_,h1,h2,rfl⟩ | ⟨f,args,r0,ns,nf,_,_,_,_,hl,_,_,h1,h2,rfl⟩ | ⟨f,args,r0,ns,nf,ids,_,_,_,⟨h3,h4⟩,_,hl,_,h1,h2,rfl⟩ | ⟨d,id,z,zero,n,parts,ds,_,h1,_,_,_,rfl⟩
 ·rw [h];simp
 ·rw [get?_eq] at h1;simpa using (aA.1 h1).1
 ·rw [get?_eq] at h1;simpa using (aA.1 h1).1
 ·have e:(nf.zip (ns.map (eb (gm ids nf)))).map (·.1)=nf:=eD (by simp [hl]);refine ⟨by rw [e];exact h2,λw hw=>?_⟩;have:w.1∈nf:=by rw [←e];exact bF.2 ⟨w,hw,rfl⟩
  have:=(h1 _ this).2;rw [get?_eq] at this;exact (aA.1 this).1
 ·have e:(nf.zip ns).map (·.1)=nf:=eD (by omega);refine ⟨by rw [e];exact h2,λw hw=>?_⟩;have:w.1∈nf:=by rw [←e];exact bF.2 ⟨w,hw,rfl⟩
  have:=(h1 _ this).2;rw [get?_eq] at this;exact (aA.1 this).1
 ·have e:((ids.map λi=>(i,B.no))++nf.zip (ns.map (eb (gt ids.length nf)))).map (·.1)=ids++nf:=A0 hl;refine ⟨?_,λw hw=>?_⟩
  ·rw [e];refine List.nodup_append.2 ⟨h3,h2,λi hi j hj hij=>?_⟩;subst hij;obtain ⟨z,rs,h5⟩:=h4 i hi;rw [(h1 i hj).2] at h5;cases h5
  ·have:w.1∈ids++nf:=by rw [←e];exact bF.2 ⟨w,hw,rfl⟩
   rcases aS.1 this with h5 | h5
   ·obtain ⟨z,rs,h5⟩:=h4 _ h5;rw [get?_eq] at h5;exact (aA.1 h5).1
   ·have:=(h1 _ h5).2;rw [get?_eq] at this;exact (aA.1 this).1
 ·rw [get?_eq] at h1;simpa using (aA.1 h1).1
def uw:List I→List V→T→T
 |i :: r,v :: vs,t=>uw r vs (fw i.d v t)
 |_,_,t=>t
theorem oF {d:Option Nat} {v:V} {t:T} {s:Nat}:gs (fw d v t) s=if d=some s then v else gs t s:=by
 cases d with
 |none=>simp [fw]
 |some i=>
  simp only [fw,gP,aE]
  by_cases e:i=s
  ·subst e;simp
  ·rw [fy e,η e];rfl
theorem tG:∀(q:List I) (vs:List V) (t t':T),(∀s,gs t' s=gs t s)→∀s,gs (uw q vs t') s=gs (uw q vs t) s:=by
 intro q
 induction q with
 |nil=>intro vs t t' ht s;exact ht s
 |cons i q ih=>
  intro vs t t' ht s;cases vs with
  |nil=>exact ht s
  |cons v vs=>exact ih vs _ _ (λs=>by rw [oF,oF,ht s]) s
theorem Ar:∀(q:List I) (vs:List V) (t:T),vs.length=q.length→∀s,(∃(k:Nat) (i:I),q[k]? = some i∧i.d=some s∧vs[k]? = some (gs (uw q vs t) s))∨((∀(k:Nat) (i:I),q[k]? = some i→i.d≠some s)∧gs (uw q vs t) s=gs t s):=by
 intro q
 induction q with
 |nil=>intro vs t _ s;exact .inr ⟨by simp,rfl⟩
 |cons i q ih=>
  intro vs t hl s;cases vs with
  |nil=>simp at hl
  |cons v vs=>
   simp only [uw];rcases ih vs (fw i.d v t) (by simpa using hl) s with ⟨k,j,h1,h2,h3⟩ | ⟨h1,h2⟩
   ·exact .inl ⟨k+1,j,by simpa using h1,h2,by simpa using h3⟩
   ·rw [h2,oF]
    by_cases hd:i.d=some s
    ·exact .inl ⟨0,i,rfl,hd,by simp [hd]⟩
    ·refine .inr ⟨λk j hj=>?_,by rw [η hd]⟩;cases k with
     |zero=>simp at hj;subst hj;exact hd
     |succ k=>exact h1 k j (by simpa using hj)
theorem AL.congr {lo:Nat} {i:I} {t t':T} {a:H} {r:R} (hq:AL ow P lo i t a r) (ht:∀s∈bZ i.o++vp i.g,gs t' s=gs t s):AL ow P lo i t' a r:=by
 rcases hq with ⟨h1,h2,h3⟩ | ⟨x,v,n,id,off,cs,rfl,h1,h2,h3,h4⟩ | hq | ⟨f,args,ids,r0,ns,nf,h1,h2,h⟩ | ⟨f,args,r0,ns,nf,h1,h2,h⟩ | ⟨f,args,r0,ns,nf,ids,h1,h2,h⟩ | ⟨d,id,z,zero,n,parts,ds,rfl,h1,h2,h3,h4,h5⟩
 ·exact .inl ⟨h1,h2,wv.congr ow h3 ht⟩
 ·have e1:gv t' x=gv t x:=eN λs hs=>ht s (by simp [bZ,hs]);have e2:gv t' v=gv t v:=eN λs hs=>ht s (by simp [bZ,hs]);exact .inr (.inl ⟨x,v,n,id,off,cs,rfl,by rw [e1];exact h1,h2,by rw [e2];exact h3,by rw [e2];exact h4⟩)
 ·exact .inr (.inr (.inl hq))
 ·have e:(args.map λx=>cM (gv t' x))=args.map λx=>cM (gv t x):=aj λx hx=>by
   rw [eN (t:=t) (t':=t') λs hs=>ht s (by rw [h2];simp only [bZ,aS,aQ];exact .inl ⟨x,hx,hs⟩)]
  refine .inr (.inr (.inr (.inl ⟨f,args,ids,r0,ns,nf,h1,h2,?_⟩)));rw [e];exact h
 ·have e:(args.map λx=>cM (gv t' x))=args.map λx=>cM (gv t x):=aj λx hx=>by
   rw [eN (t:=t) (t':=t') λs hs=>ht s (by rw [h2];simp only [bZ,aS,aQ];exact .inl ⟨x,hx,hs⟩)]
  refine .inr (.inr (.inr (.inr (.inl ⟨f,args,r0,ns,nf,h1,h2,?_⟩))));rw [e];exact h
 ·have e:(args.map λx=>cM (gv t' x))=args.map λx=>cM (gv t x):=aj λx hx=>by
   rw [eN (t:=t) (t':=t') λs hs=>ht s (by rw [h2];simp only [bZ,aS,aQ];exact .inl ⟨x,hx,hs⟩)]
  refine .inr (.inr (.inr (.inr (.inr (.inl ⟨f,args,r0,ns,nf,ids,h1,h2,?_⟩)))));rw [e];exact h
 ·have e:∀p∈parts,gv t' p.2=gv t p.2:=λp hp=>eN λs hs=>ht s (by simp only [bZ,aS,aQ];exact .inl ⟨p,hp,hs⟩);refine .inr (.inr (.inr (.inr (.inr (.inr ⟨d,id,z,zero,n,parts,ds,rfl,h1,h2,?_,?_,h5⟩)))))
  ·rw [←h3];exact Dc parts λp hp=>by rw [e p hp]
  ·rw [xS (g:=λcs p=>lay cs (p.1*z) (gv t p.2).cs) parts _ λp hp b=>by rw [e p hp]];exact h4
theorem pe {l:List (Nat×Nat)} {bef ids:List Nat}:kf l bef ids=true↔∀e∈l,e.2∈bef∨e.1∉ids:=by
 simp only [kf,aT,b_,dL,cO,o7];exact ⟨λh e he=>(h e he).imp id λh' hi=>h' (cO.2 hi),λh e he=>(h e he).imp id λh' hi=>h' (cO.1 hi)⟩
theorem ke {l r:List (Nat×Nat)} {bef ids:List Nat}:kf (l++r) bef ids=true↔kf l bef ids=true∧kf r bef ids=true:=by
 simp only [kf,List.all_append,aP]
def Mk (r r':R):Prop:=(∃i∈kX r,i∈r'.rd∨i∈kX r')∨(∃i∈r.rd,i∈kX r')∨∃i∈r.kl,i∈Na r'
def Nt (g:Lg) (bef:List Nat) (r:R):Prop:=kf g.lw bef r.rd=true∧kf g.lw bef (kX r)=true∧kf g.lr bef (kX r)=true∧kf g.lk bef (Na r)=true
theorem Nt.put {g:Lg} {bef rd kl fr:List Nat} {ws:List (Nat×B)} {r:R} (h:Nt (g.put rd ws kl fr) bef r):Nt g bef r:=
 ⟨(ke.1 h.1).2,(ke.1 h.2.1).2,(ke.1 h.2.2.1).2,(ke.1 h.2.2.2).2⟩
theorem Nt.Mk {g:Lg} {bef fr:List Nat} {r r':R} (h:Nt (g.put r.rd r.ws r.kl fr) bef r') (hc:Mk r r'):g.p∈bef:=by
 obtain ⟨h1,h2,h3,h4⟩:=h
 replace h1:=pe.1 (ke.1 h1).1
 replace h2:=pe.1 (ke.1 h2).1
 replace h3:=pe.1 (ke.1 h3).1
 replace h4:=pe.1 (ke.1 h4).1
 have hw:∀i∈kX r,(i,g.p)∈r.ws.map λw=>(w.1,g.p):=λi hi=>by
  obtain ⟨w,hw,rfl⟩:=bF.1 hi;exact bF.2 ⟨w,hw,rfl⟩
 rcases hc with ⟨i,hi,hc | hc⟩ | ⟨i,hi,hc⟩ | ⟨i,hi,hc⟩
 ·exact (h1 _ (hw i hi)).resolve_right λhn=>hn hc
 ·exact (h2 _ (hw i hi)).resolve_right λhn=>hn hc
 ·exact (h3 (i,g.p) (bF.2 ⟨i,hi,rfl⟩)).resolve_right λhn=>hn hc
 ·exact (h4 (i,g.p) (bF.2 ⟨i,hi,rfl⟩)).resolve_right λhn=>hn hc
structure Ref (P:Program) (lo:Nat) (h0:H) (q:List (I×List Nat)) (t:T) (a:H) (g:Lg) (rs:List R) (t':T) (a':H):Prop where
  r1:rs.length=q.length
  r2:∀s,gs t' s=gs (uw (q.map (·.1)) (rs.map (·.v)) t) s
  r3:∀(j:Nat) (x:I×List Nat),q[j]? = some x→∃r,rs[j]? = some r∧AL ow P lo x.1 (uw ((q.take j).map (·.1)) ((rs.take j).map (·.v)) t) ((rs.take j).foldl wr a) r
  r4:a'=rs.foldl wr a
  r5:∀(j:Nat) (r:R) (x:I×List Nat),rs[j]? = some r→q[j]? = some x→Nt g x.2 r
  r6:∀(j k:Nat) (r r':R) (y:I×List Nat),rs[j]? = some r→rs[k]? = some r'→q[k]? = some y→j<k→Mk r r'→g.p+j∈y.2
  r7:∀(j:Nat) (r:R),rs[j]? = some r→∀id∈r.kl,(∀p∈t,id∉eR p.2)∧(∀(i:Nat) (b:B),h0[i]? = some b→i∉r.rd→id∉et b)∧(∀w∈g.ct,w.1∉r.rd→id∉et w.2) ∧
    ∀(k:Nat) (r':R) (x:I×List Nat),k<j→rs[k]? = some r'→q[k]? = some x→(∀d,x.1.d=some d→id∉eR r'.v)∧∀w∈r'.ws,w.1∉r.rd→id∉et w.2
theorem Ref.cons {lo:Nat} {h0:H} {x:I×List Nat} {q:List (I×List Nat)} {t t1 t':T} {a a1 a':H} {g:Lg} {rs:List R} (r:R) (fr:List Nat) (hr:Ref ow P lo h0 q t1 a1 (g.put r.rd r.ws r.kl fr) rs t' a') (ht1:∀s,gs t1 s=gs (fw x.1.d r.v t) s)
  (hsub:∀p∈t,p∈t1) (hin:∀d,x.1.d=some d→(d,r.v)∈t1) (hv:AL ow P lo x.1 t a r) (ha:a1=wr a r) (hc:Nt g x.2 r)
  (hk:∀id∈r.kl,(∀p∈t,id∉eR p.2)∧(∀(i:Nat) (b:B),h0[i]? = some b→i∉r.rd→id∉et b)∧∀w∈g.ct,w.1∉r.rd→id∉et w.2):Ref ow P lo h0 (x :: q) t a g (r :: rs) t' a':=by
 refine ⟨by simp [hr.r1],λs=>?_,λj y hj=>?_,by rw [hr.r4,ha];rfl,λj r' y hj hy=>?_,λj k r1 r2 y hj hk hy hlt hcf=>?_,λj r1 hj id hid=>?_⟩
 ·rw [hr.r2 s];exact tG _ _ _ _ ht1 s
 ·cases j with
  |zero=>simp at hj;subst hj;exact ⟨r,rfl,hv⟩
  |succ j=>
   obtain ⟨u,g1,g2⟩:=hr.r3 j y (by simpa using hj);refine ⟨u,by simpa using g1,?_⟩;simp only [dk,cH,uw,cN];rw [←ha];exact AL.congr ow g2 λs _=>(tG _ _ _ _ ht1 s).symm
 ·cases j with
  |zero=>simp at hj hy;subst hj hy;exact hc
  |succ j=>exact (hr.r5 j r' y (by simpa using hj) (by simpa using hy)).put
 ·cases k with
  |zero=>omega
  |succ k=>
   cases j with
   |zero=>
    simp at hj;subst hj;exact (hr.r5 k r2 y (by simpa using hk) (by simpa using hy)).Mk hcf
   |succ j=>
    have:=hr.r6 j k r1 r2 y (by simpa using hj) (by simpa using hk) (by simpa using hy) (by omega) hcf;have e:(g.put r.rd r.ws r.kl fr).p=g.p+1:=rfl;rw [e] at this;have e2:g.p+(j+1)=g.p+1+j:=by omega
    rw [e2];exact this
 ·cases j with
  |zero=>
   simp at hj;subst hj;obtain ⟨k1,k2,k3⟩:=hk id hid;exact ⟨k1,k2,k3,λk r' x hk=>by omega⟩
  |succ j=>
   obtain ⟨k1,k2,k3,k4⟩:=hr.r7 j r1 (by simpa using hj) id hid;refine ⟨λp hp=>k1 p (hsub p hp),k2,λw hw=>k3 w (dq _ hw),λk r' y hlt hk hy=>?_⟩;cases k with
   |zero=>
    simp at hk hy;subst hk hy;exact ⟨λd hd=>k1 _ (hin d hd),λw hw=>k3 w (eC _ hw)⟩
   |succ k=>exact k4 k r' y (by omega) (by simpa using hk) (by simpa using hy)
theorem uL {kl l:List Nat}:free kl l=true↔∀id∈kl,id∉l:=by
 simp only [free,aT,dL,o7];exact ⟨λh id h1 h2=>h id h2 (cO.2 h1),λh id h1 h2=>h id (cO.1 h2) h1⟩
theorem Pf {lo:Nat} {h0:H} {K:T→H→Prop}:∀(q:List (I×List Nat)) (t:T) (a:H) (g:Lg),rq (Sat P) ow lo h0 q t a g K→∃(rs:List R) (t':T) (a':H),K t' a'∧Ref ow P lo h0 q t a g rs t' a':=by
  intro q
  induction q with
  |nil=>intro t a g hk;exact ⟨[],t,a,hk,rfl,λ_=>rfl,by simp,rfl,by simp,by simp,by simp⟩
  |cons x q ih=>
    intro t a g hk
    have fin:∀(r:R) (t1:T) (a1:H) (fr:List Nat),(∀s,gs t1 s=gs (fw x.1.d r.v t) s)→(∀p∈t,p∈t1)→(∀d,x.1.d=some d→(d,r.v)∈t1)→AL ow P lo x.1 t a r→a1=wr a r→Nt g x.2 r →
        (∀id∈r.kl,(∀p∈t,id∉eR p.2)∧(∀(i:Nat) (b:B),h0[i]? = some b→i∉r.rd→id∉et b)∧∀w∈g.ct,w.1∉r.rd→id∉et w.2)→rq (Sat P) ow lo h0 q t1 a1 (g.put r.rd r.ws r.kl fr) K →
        ∃(rs:List R) (t':T) (a':H),K t' a'∧Ref ow P lo h0 (x :: q) t a g rs t' a':=by
      intro r t1 a1 fr ht1 hsub hin hv ha hc hkl hk
      obtain ⟨rs,t',a',hK,hR⟩:=ih t1 a1 _ hk
      exact ⟨r :: rs,t',a',hK,Ref.cons ow r fr hR ht1 hsub hin hv ha hc hkl⟩
    have nokill:∀(r:R),r.kl = []→(∀id∈r.kl,(∀p∈t,id∉eR p.2)∧(∀(i:Nat) (b:B),h0[i]? = some b→i∉r.rd→id∉et b)∧∀w∈g.ct,w.1∉r.rd→id∉et w.2):=by
      intro r hr id hid
      rw [hr] at hid
      cases hid
    have okn:∀(l:List (Nat×Nat)) (bef:List Nat),kf l bef []=true:=λl bef=>pe.2 λe _=>.inr (by simp)
    have nwok:∀{nf:List Nat},(nf.all λi=>Nat.ble lo i&&MB ((get? a i).getD .no))=true→∀i∈nf,lo≤i∧get? a i=some .nw:=λd3 i hi=>by
      have:=aT.1 d3 i hi
      simp only [aP] at this
      refine ⟨a_ this.1,?_⟩
      have h2:=this.2
      cases hh:get? a i with
      |none=>rw [hh] at h2;cases h2
      |some b=>rw [hh] at h2;cases b<;>first | rfl | cases h2
    have putin:∀(v:V) (t0:T) (d:Nat),x.1.d=some d→(d,v)∈fw x.1.d v t0:=by
      intro v t0 d hd
      rw [hd];simp [fw]
    have putsub:∀(v:V) (t0:T),∀p∈t0,p∈fw x.1.d v t0:=by
      intro v t0 p hp
      cases x.1.d with
      |none=>exact hp
      |some d=>simp [fw,hp]
    have quiet:∀(rd:List Nat) (v:V) (t0:T),(∀s,gs (fw x.1.d v t0) s=gs (fw x.1.d v t) s)→(∀p∈t,p∈t0)→wv ow P x.1 t (zG rd a) v→kf g.lw x.2 rd=true→kf g.lk x.2 (eR v)=true→rq (Sat P) ow lo h0 q (fw x.1.d v t0) a (g.put rd [] [] g.fr) K→∃(rs:List R) (t':T) (a':H),K t' a'∧Ref ow P lo h0 (x :: q) t a g rs t' a':=
      λrd v t0 ht0 hsub hv h1 h2 hk=>fin ⟨v,[],rd,[]⟩ _ a g.fr ht0 (λp hp=>putsub v t0 p (hsub p hp)) (λd hd=>putin v t0 d hd) (.inl ⟨rfl,rfl,hv⟩) rfl ⟨h1,okn _ _,okn _ _,by simpa [Na] using h2⟩ (nokill _ rfl) hk
    have two:SO (Sat P) ow x.1.o x (rq (Sat P) ow lo h0 q) t a g K→∃(rs:List R) (t':T) (a':H),K t' a'∧Ref ow P lo h0 (x :: q) t a g rs t' a':=by
      intro hk
      unfold SO at hk
      cases hg:x.1.g with
      |none=>
        rw [hg] at hk
        simp only [Rc,bo] at hk
        obtain ⟨c1,hk⟩:=hk
        obtain ⟨v,⟨c2,h1⟩,h2⟩:=Gj ow hk
        rw [ff] at h1
        exact quiet _ v t (λ_=>rfl) (λ_ h=>h) (by unfold wv;rw [hg];exact h2) c1 c2 h1
      |some p=>
        obtain ⟨j,y⟩:=p
        rw [hg] at hk
        simp only at hk
        split at hk
        · rename_i b hb
          have kn:∀s,gs ((j,.d (.bool b)) :: t) s=gs t s:=xQ hb
          have kp:∀v s,gs (fw x.1.d v ((j,.d (.bool b)) :: t)) s=gs (fw x.1.d v t) s:=λv s=>by rw [oF,oF,kn]
          have yes:b=y→Rc (Sat P) ow x.1.o x (rq (Sat P) ow lo h0 q) ((j,.d (.bool b)) :: t) a g K→∃(rs:List R) (t':T) (a':H),K t' a'∧Ref ow P lo h0 (x :: q) t a g rs t' a':=by
            intro hby hk
            simp only [Rc,bo] at hk
            obtain ⟨c1,hk⟩:=hk
            obtain ⟨v,⟨c2,h1⟩,h2⟩:=Gj ow hk
            rw [ff] at h1
            refine quiet _ v _ (kp v) (λp hp=>by simp [hp]) ?_ c1 c2 h1
            unfold wv
            rw [hg]
            exact .inl ⟨b,hb,λ_=>Qt.congr ow h2 λs _=>(kn s).symm,λhn=>absurd hby hn⟩
          have no:b≠y→(uq x.1.d .ud ((j,.d (.bool b)) :: t) λt=>rq (Sat P) ow lo h0 q t a (g.put [] [] [] g.fr) K)→∃(rs:List R) (t':T) (a':H),K t' a'∧Ref ow P lo h0 (x :: q) t a g rs t' a':=by
            intro hby hk
            rw [ff] at hk
            refine quiet [] .ud _ (kp .ud) (λp hp=>by simp [hp]) ?_ (okn _ _) (okn _ _) hk
            unfold wv
            rw [hg]
            exact .inl ⟨b,hb,λhn=>absurd hn hby,λ_=>rfl⟩
          cases b<;>cases y<;>simp only [sp,δ,ε] at hk
          · exact yes rfl hk
          · exact no (by simp) hk
          · exact no (by simp) hk
          · exact yes rfl hk
        · rename_i hb
          rw [ff] at hk
          exact quiet [] .ud _ (λ_=>rfl) (λ_ h=>h) (by unfold wv;rw [hg];exact .inr ⟨hb,rfl⟩) (okn _ _) (okn _ _) hk
        · exact hk.elim
    by_cases hal:∃cs,x.1.o = .al cs
    · obtain ⟨cs,ho⟩:=hal
      simp only [ny,NQ,ho] at hk
      split at hk
      · rename_i d id fr' hg hd hfr
        split at hk
        · rename_i hnw
          obtain ⟨hcc,hk⟩:=hk
          rw [bo] at hk
          simp only [okW,aP] at hcc
          obtain ⟨⟨c6,c4,c5⟩,c7⟩:=hcc
          have hx:x.1=⟨some d,.al cs,none⟩:=by
            cases hx1:x.1
            rw [hx1] at ho hg hd
            simp only at ho hg hd
            subst ho hg hd
            rfl
          exact fin ⟨.p id 0,[(id,.cells cs)],[],[]⟩ _ _ fr' (λs=>by rw [hd];rfl) (λp hp=>by simp [hp]) (λd' hd'=>by rw [hd] at hd';cases hd';simp) (.inr (.inr (.inl ⟨d,id,_,_,_,hx,hnw,a_ c6,.inl ⟨cs,rfl,rfl,rfl⟩,rfl⟩))) rfl
            ⟨okn _ _,c4,c5,by simpa [Na,eR,jC,kG,ir] using c7⟩ (nokill _ rfl) hk
        · exact hk.elim
      · exact hk.elim
    by_cases hmm:∃pl,x.1.o = .mm pl
    · obtain ⟨pl,ho⟩:=hmm
      simp only [ny,NQ,ho] at hk
      split at hk
      · rename_i d id fr' hg hd hfr
        split at hk
        · rename_i hnw
          obtain ⟨hcc,hk⟩:=hk
          rw [bo] at hk
          simp only [okW,aP] at hcc
          obtain ⟨⟨c6,c4,c5⟩,c7⟩:=hcc
          have hx:x.1=⟨some d,.mm pl,none⟩:=by
            cases hx1:x.1
            rw [hx1] at ho hg hd
            simp only at ho hg hd
            subst ho hg hd
            rfl
          exact fin ⟨.mp id,[(id,K1 pl)],[],[]⟩ _ _ fr' (λs=>by rw [hd];rfl) (λp hp=>by simp [hp]) (λd' hd'=>by rw [hd] at hd';cases hd';simp) (.inr (.inr (.inl ⟨d,id,_,_,_,hx,hnw,a_ c6,.inr ⟨pl,rfl,rfl,rfl⟩,rfl⟩))) rfl
            ⟨okn _ _,c4,c5,by simpa [Na,eR,jC,kG,ir,MC] using c7⟩ (nokill _ rfl) hk
        · exact hk.elim
      · exact hk.elim
    by_cases hst:∃y v n,x.1.o = .st y v n
    · obtain ⟨y,v,n,ho⟩:=hst
      simp only [ny,NQ,ho] at hk
      split at hk
      · rename_i id off hg hd hy
        split at hk
        · rename_i cs hcs
          rw [bo] at hk
          obtain ⟨⟨⟨c1,c2,c3⟩,c4⟩,hk⟩:=hk
          rw [bo] at hk
          simp only [okW,aP] at c4
          have hx:x.1=⟨none,.st y v n,none⟩:=by
            cases hx1:x.1
            rw [hx1] at ho hg hd
            simp only at ho hg hd
            subst ho hg hd
            rfl
          exact fin ⟨.ud,[(id,.cells (lay cs off (gv t v).cs))],[],[]⟩ t _ g.fr (λs=>by rw [hd];rfl) (λ_ h=>h) (λd' hd'=>by rw [hd] at hd';cases hd') (.inr (.inl ⟨y,v,n,id,off,cs,hx,hy,hcs,⟨c1,c2,c3⟩,rfl⟩)) rfl
            ⟨okn _ _,c4.1.1,c4.1.2,by simpa [Na,eR,jC,kG,ir] using c4.2⟩ (nokill _ rfl) hk
        · exact hk.elim
      · exact hk.elim
    by_cases hbs:∃z zero n parts,x.1.o = .bs z zero n parts
    · obtain ⟨z, zero, n, parts, ho⟩ := hbs
      simp only [ny,NQ,ho] at hk
      rcases RJ hk with hk | hk
      · split at hk
        · rename_i d id fr' hg hd hfr
          split at hk
          · rename_i hnw
            rw [bo] at hk
            obtain ⟨hc,hk⟩:=hk
            obtain ⟨ds,hk,hfz⟩:=Nn _ _ hk
            rw [bo] at hk
            obtain ⟨hcc,hk⟩:=hk
            rw [bo] at hk
            simp only [okW,aP] at hcc
            obtain ⟨⟨c6,c4,c5⟩,c7⟩:=hcc
            have hx:x.1=⟨some d,.bs z zero n parts,none⟩:=by
              cases hx1:x.1
              rw [hx1] at ho hg hd
              simp only at ho hg hd
              subst ho hg hd
              rfl
            exact fin ⟨.os id,[(id,.rows z (chunk z n ds))],[],[]⟩ _ _ fr' (λs=>by rw [hd];rfl) (λp hp=>by simp [hp]) (λd' hd'=>by rw [hd] at hd';cases hd';simp) (.inr (.inr (.inr (.inr (.inr (.inr ⟨d,id,z,zero,n,parts,ds,hx,hnw,a_ c6,hc,hfz,rfl⟩)))))) rfl
              ⟨okn _ _,c4,c5,by simpa [Na,eR,jC,kG,ir,et] using c7⟩ (nokill _ rfl) hk
          · exact hk.elim
        · exact hk.elim
      · exact two (by rw [ho];exact hk)
    by_cases hcf:∃f args,x.1.o = .cf f args
    · obtain ⟨f, args, ho⟩ := hcf
      simp only [ny,NQ,ho] at hk
      rcases J_ hk with hk | hk
      · exact two (by rw [ho];exact hk)
      rcases J_ hk with hk | hk | hk
      · unfold ky at hk
        split at hk
        · rename_i hg
          simp only [bo] at hk
          obtain ⟨hof,hch,r0,ns,hS,⟨c1,c2,c3⟩,hk⟩:=hk
          rw [ff] at hk
          simp only [aP,okW] at hch c1 c2 c3
          obtain ⟨⟨⟨d1,d2⟩,d3⟩,d4⟩:=c1
          obtain ⟨⟨e1,e2,e3⟩,e4⟩:=c2
          obtain ⟨⟨f1,f2⟩,f3⟩:=c3
          have hlen:=jf d1
          refine fin ⟨_,_,_,_⟩ _ _ (g.fr.drop ns.length) (λ_=>rfl) (putsub _ t) (putin _ t) (.inr (.inr (.inr (.inl ⟨f,args,_,r0,ns,_,hg,ho,hof,rfl,hch.1,gK.1 hch.2,hS,hlen,(dL _).mp d2,λi hi=>?_,iQ d4,rfl⟩)))) rfl ⟨e1,?_,?_,e4⟩ (λid hid=>⟨λp hp=>?_,λi b hb hi=>?_,λw hw hi=>?_⟩) hk
          · have:=aT.1 d3 i hi
            simp only [aP] at this
            refine ⟨a_ this.1,?_⟩
            have h2:=this.2
            cases hh:get? a i with
            |none=>rw [hh] at h2;cases h2
            |some b=>rw [hh] at h2;cases b<;>first | rfl | cases h2
          · have e:kX ⟨gb (gm (reach a 100 ((args.map λx=>cM (gv t x)).flatMap eR) []) (g.fr.take ns.length)) r0,(g.fr.take ns.length).zip (ns.map (eb (gm (reach a 100 ((args.map λx=>cM (gv t x)).flatMap eR) []) (g.fr.take ns.length)))),reach a 100 ((args.map λx=>cM (gv t x)).flatMap eR) [],rowsOf a (reach a 100 ((args.map λx=>cM (gv t x)).flatMap eR) [])⟩=g.fr.take ns.length:=eD (by rw [aI];omega)
            rw [e];exact e2
          · have e:kX ⟨gb (gm (reach a 100 ((args.map λx=>cM (gv t x)).flatMap eR) []) (g.fr.take ns.length)) r0,(g.fr.take ns.length).zip (ns.map (eb (gm (reach a 100 ((args.map λx=>cM (gv t x)).flatMap eR) []) (g.fr.take ns.length)))),reach a 100 ((args.map λx=>cM (gv t x)).flatMap eR) [],rowsOf a (reach a 100 ((args.map λx=>cM (gv t x)).flatMap eR) [])⟩=g.fr.take ns.length:=eD (by rw [aI];omega)
            rw [e];exact e3
          · simp only [WR,b_,gK,aT] at f1
            rcases f1 with f1 | f1
            · rw [f1] at hid;cases hid
            · exact uL.1 (f1 p hp) id hid
          · simp only [ib,b_,gK,aT] at f2
            rcases f2 with f2 | f2
            · rw [f2] at hid;cases hid
            · rcases f2 (b,i) (by rw [List.mem_zipIdx_iff_getElem?];exact hb) with f2 | f2
              · exact absurd (cO.1 f2) hi
              · exact uL.1 f2 id hid
          · simp only [Wb,b_,gK,aT] at f3
            rcases f3 with f3 | f3
            · rw [f3] at hid;cases hid
            · rcases f3 w hw with f3 | f3
              · exact absurd (cO.1 f3) hi
              · exact uL.1 f3 id hid
        · exact hk.elim
      · unfold VD at hk
        split at hk
        · rename_i hg
          simp only [bo] at hk
          obtain ⟨hof,r0,ns,hS,⟨c1,c2⟩,hk⟩:=hk
          rw [ff] at hk
          simp only [aP,okW] at c1 c2
          obtain ⟨⟨⟨⟨d1,d2⟩,d3⟩,d4⟩,d5⟩:=c1
          obtain ⟨⟨e1,e2,e3⟩,e4⟩:=c2
          have hlen:=jf d1
          have e:kX ⟨gb (λk=>(get? (g.fr.take ns.length) k).getD 0) r0,(g.fr.take ns.length).zip ns,(args.map λx=>cM (gv t x)).flatMap eR,[]⟩=g.fr.take ns.length:=eD (by omega)
          have e0:∀w∈(g.fr.take ns.length).zip ns,et w.2 = []:=λw hw=>by
            have h1:=aT.1 d4 w.2 (List.of_mem_zip hw).2
            generalize w.2=b at h1
            cases b<;>first | rfl | cases h1
          refine fin ⟨_,_,_,_⟩ _ _ (g.fr.drop ns.length) (λ_=>rfl) (putsub _ t) (putin _ t) (.inr (.inr (.inr (.inr (.inl ⟨f,args,r0,ns,_,hg,ho,hof,hS,hlen,d4,d5,nwok d2,iQ d3,rfl⟩))))) rfl ⟨e1,by rw [e];exact e2,by rw [e];exact e3,?_⟩ (nokill _ rfl) hk
          have e5:((g.fr.take ns.length).zip ns).flatMap (λw=>et w.2) = []:=cA.2 e0
          simp only [Na,e5,cU]
          exact e4
        · exact hk.elim
      · unfold U6 at hk
        split at hk
        · rename_i hg
          simp only [bo] at hk
          obtain ⟨r0,ns,hS,⟨c1,c2⟩,hk⟩:=hk
          rw [ff] at hk
          simp only [aP,okW] at c1 c2
          obtain ⟨⟨⟨⟨⟨d0,d00⟩,d1⟩,d2⟩,d3⟩,d4⟩:=c1
          obtain ⟨⟨e1,e2,e3⟩,e4⟩:=c2
          have hlen:=jf d1
          generalize hids:(args.map λx=>cM (gv t x)).flatMap eR=ids at *
          have e:kX ⟨gb (gt ids.length (g.fr.take ns.length)) r0,(ids.map λi=>(i,B.no))++(g.fr.take ns.length).zip (ns.map (eb (gt ids.length (g.fr.take ns.length)))),ids,[]⟩=ids++g.fr.take ns.length:=A0 hlen
          refine fin ⟨_,_,_,_⟩ _ _ (g.fr.drop ns.length) (λ_=>rfl) (putsub _ t) (putin _ t) (.inr (.inr (.inr (.inr (.inr (.inl ⟨f,args,r0,ns,_,ids,hg,ho,hids,⟨iQ d0,λi hi=>?_⟩,hS,hlen,λk hk=>?_,nwok d2,iQ d3,rfl⟩)))))) rfl ⟨e1,by rw [e];exact e2,by rw [e];exact e3,e4⟩ (nokill _ rfl) hk
          · have h2:=aT.1 d00 i hi
            cases hh:get? a i with
            |none=>rw [hh] at h2;cases h2
            |some b=>rw [hh] at h2;cases b<;>first | exact ⟨_,_,rfl⟩ | cases h2
          · exact a_ (aT.1 d4 k hk)
        · exact hk.elim
    · refine two ?_
      rw [ny] at hk
      unfold NQ at hk
      split at hk
      · exact absurd ⟨_,‹_›⟩ hal
      · exact absurd ⟨_,‹_›⟩ hmm
      · exact absurd ⟨_,_,_,‹_›⟩ hst
      · exact absurd ⟨_,_,_,_,‹_›⟩ hbs
      · exact absurd ⟨_,_,‹_›⟩ hcf
      · exact hk
end
end Go.Vx
