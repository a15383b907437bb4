/- Lemmas. Conditions: none. -/
import Derived.Test.YtjpgfgajkjhonaaGreatDoorQRAK
namespace Go.Vx
section
variable{P:Program}{E:gL}{n:Nat}{G:Nat->Prop}{ρ:List Value}{t:T}{h:H}{a:Act}{w:World}{o:Oper}{bV:Act->World->Prop}{Q:Exit->Act->World->Prop}
theorem Jb{P:Program}{ty:TypeId}{op:Op}{cs:List V}(h:fj P ty op=some (.al cs)):∃t,op=.alloc t/\rM P t=some cs:=by
  cases op
  case alloc t=>
    have al:(rM P t).map X.al=some (.al cs)->∃t',Op.alloc t=.alloc t'/\rM P t'=some cs:=λh=>by
      simp only[aG,X.al.injEq]at h
      obtain⟨x,hx,rfl⟩:=h
      exact⟨t,rfl,hx⟩
    simp only[fj]at h
    split at h
    · split at h
      · simp only[aI,aD]at h
        have⟨zs,hz,h⟩:=h
        repeat' split at h
        all_goals cases h
      · exact al h
    · exact al h
  all_goals
    exfalso
    simp only[fj]at h
    repeat' split at h
    all_goals
      first
        |contradiction
        |(simp[aD]at h;done)
        | (simp [aD] at h
           have⟨_,_,_,_,h⟩:=h
           (repeat' split at h)<;>simp at h)
        | (simp [aD] at h
           have⟨_,_,_,_,_,h⟩:=h
           (repeat' split at h)<;>simp at h)
        | (simp [aD] at h
           have⟨_,_,h⟩:=h
           (repeat' split at h)<;>simp at h)
theorem Ja{P:Program}{ty:TypeId}{op:Op}{f:Nat}{oa:List O}(h:fj P ty op=some (.cf f oa)):∃c,op=.call c/\c.callee=.value (.func f)/\f<5000000/\args P c.args.toList c.argTypes.toList=some oa:=by
  cases op
  case call c=>
    have⟨callee,as,ts⟩:=c
    cases callee with
    |value x=>
      cases x<;>simp only[fj]at h
      case func g=>
        split at h
        · rename_i hlt
          simp only[aG,X.cf.injEq]at h
          obtain⟨oa,ha,rfl,rfl⟩:=h
          exact⟨_,rfl,rfl,hlt,ha⟩
        · cases h
      all_goals
        simp[aD]at h
    |invoke r m=>cases h
    |builtin b=>
      exfalso
      cases b<;>simp only[fj]at h<;>(repeat' split at h)<;>first
        |contradiction
        |(simp[aD]at h;done)
        | (simp [aD] at h
           have⟨_,_,h⟩:=h
           (repeat' split at h)<;>simp at h)
        | (simp [aD] at h
           have⟨_,_,_,_,h⟩:=h
           (repeat' split at h)<;>simp at h)
  all_goals
    exfalso
    simp only[fj]at h
    repeat' split at h
    all_goals
      first
        |contradiction
        |(simp[aD]at h;done)
        | (simp [aD] at h
           have⟨_,_,_,_,h⟩:=h
           (repeat' split at h)<;>simp at h)
        | (simp [aD] at h
           have⟨_,_,_,_,_,h⟩:=h
           (repeat' split at h)<;>simp at h)
        | (simp [aD] at h
           have⟨_,_,h⟩:=h
           (repeat' split at h)<;>simp at h)
theorem J9{P:Program}{ty:TypeId}{op:Op}{pl:Nat}(h:fj P ty op=some (.mm pl)):∃t,op=.makeMap t none:=by
  cases op
  case makeMap t r=>
    cases r with
    |none=>exact⟨t,rfl⟩
    |some r=>simp only[fj]at h;cases h
  all_goals
    exfalso
    simp only[fj]at h
    repeat' split at h
    all_goals
      first
        |contradiction
        |(simp[aD]at h;done)
        | (simp [aD] at h
           have⟨_,_,_,_,h⟩:=h
           (repeat' split at h)<;>simp at h)
        | (simp [aD] at h
           have⟨_,_,_,_,_,h⟩:=h
           (repeat' split at h)<;>simp at h)
        | (simp [aD] at h
           have⟨_,_,h⟩:=h
           (repeat' split at h)<;>simp at h)
def x6(ρ:List Value)(i:Nat):Prop:=∃v,ρ[i]?=some v/\v≠undef
theorem dL.ref{v:Value}{x:V}(h:dL G w ρ v x):∀i∈ij x,x6 ρ i:=by
 cases h<;>simp only[ij,cU,false_imp_iff,implies_true,aL,forall_eq]<;>(try exact⟨_,‹_›,by simp[undef]⟩)
theorem dI.ref{v:Value}{x:V}(h:dI G w ρ v x):∀i∈kI x,x6 ρ i:=by
 cases h with
 |k h=>intro i y;exact h.ref i (by cases h<;>simpa[kI]using y)
 |fc f u cs caps d e b=>
  intro i y;simp only[kI,aO]at y;have⟨x,c,y⟩:=y;have⟨j,z⟩:=aj.1 c;exact(b j x z).ref i y
theorem dM.ref{v:Value}{x:V}(h:dM G w ρ v x):∀i∈jJ x,x6 ρ i:=by
 cases h with
 |c h=>
  intro i y;refine h.ref i ?_;cases h with
  |k h=>cases h<;>simpa[jJ]using y
  |fc=>simpa[jJ]using y
 |ag cs vs d u=>
  intro i y;simp only[jJ,aO]at y;have⟨x,b,y⟩:=y;have⟨j,z⟩:=aj.1 b;exact(u j x z).ref i y
theorem au.ref{v:Value}{x:V}(h:au G w ρ v x):∀i∈eT x,x6 ρ i:=by
 cases h with
 |o h=>
  intro i y;refine h.ref i ?_;cases h with
  |c h=>cases h with
   |k h=>cases h<;>simpa[eT]using y
   |fc=>simpa[eT]using y
  |ag cs vs b u=>simpa[eT]using y
 |tu cs vs b u=>
  intro i y;simp only[eT,aO]at y;have⟨x,d,y⟩:=y;have⟨j,z⟩:=aj.1 d;exact(u j x z).ref i y
theorem cY.ref{hd:Value}{x:B}(h:cY G w ρ hd x):∀i∈eZ x,x6 ρ i:=by
 cases x with
 |no=>simp[eZ]
 |nw=>simp[eZ]
 |cells cs=>
  obtain⟨b,arr,ty,rfl,p,c,f⟩:=h;intro i y;simp only[eZ,aO]at y;have⟨x,d,y⟩:=y;have⟨j,u⟩:=aj.1 d;exact(f j x u).ref i y
 |mp es=>
  obtain⟨r,arr,clk,rfl,p,c,f,g⟩:=h;intro i y;simp only[eZ,aO]at y;have⟨x,d,y⟩:=y;have⟨j,u⟩:=aj.1 d;have m:j<arr.size:=by rw[c];exact(aC.1 u).1
  rcases aR.1 y with y|y
  .exact(g j _ x (aN m) u).1.ref i y
  .exact(g j _ x (aN m) u).2.ref i y
 |dm es=>simp[eZ]
 |di es r l=>simp[eZ]
 |ms z es out it=>
  obtain⟨⟨r,arr,clk,rfl,p,c,f,g,s,e,q⟩,_⟩:=h;intro i y
  match out,y,e,q with
  |some (j,v),y,e,q=>
   have m:j<arr.size:=by rw[c];exact e j v rfl
   exact(q j v _ rfl (aN m)).ref i y
 |rows z rs=>simp[eZ]
 |rx z rs k r=>
  obtain⟨b,A,arr,ty,rfl,p,c,f,g,C,s,e⟩:=h;intro i y;simp only[eZ,aO]at y;have⟨x,d,y⟩:=y;have⟨j,u⟩:=aj.1 d;exact(e j x u).ref i y
theorem ak.place(q:ak E n G ρ t h a w){id:Nat}(D:h[id]?=some .nw)(hid:E.ρ.length<=id){hd:Value}{x:B}(f:cY G w ρ hd x)(C:∀b∈eU hd x,E.w.heap.size<=b/\¬G b/\¬own ρ h b) :
  ak E n G (ρ.set id hd) t (h.set id x) a w:=by
 have u:=q.ok;have s:id<ρ.length:=by rw[u.hr.len];exact(aC.1 D).1
 have A:id<h.length:=(aC.1 D).1;have S:ρ[id]?=some undef:=by
  have:=u.hr.rep id _ _ (aA s) D;rw[aA s];exact κ some this
 have F:∀j,x6 ρ j->j≠id:=by
  rintro j ⟨v,z,c⟩ rfl
  rw[S]at z;cases z;exact c rfl
 have I:∀j,x6 ρ j->(ρ.set id hd)[j]?=ρ[j]?:=λj d=>by rw[dE,η (λe=>F j d e.symm)]
 have get:∀(j:Nat)(v:Value)(y:B),(ρ.set id hd)[j]?=some v->(h.set id x)[j]?=some y->(j≠id/\ρ[j]?=some v/\h[j]?=some y)\/(j=id/\v=hd/\y=x):=by
  intro j v y z c;rw[dE]at z c;split at z
  .rename_i d;subst d;rw[ζ rfl,ζ A]at c;cases z;cases c;exact .inr ⟨rfl,rfl,rfl⟩
  .rename_i d;rw[η d]at c;exact .inl ⟨λe=>d e.symm,z,c⟩
 have g:∀b,own (ρ.set id hd) (h.set id x) b->own ρ h b\/b∈eU hd x:=by
  rintro b ⟨j,v,y,z,c,m,p⟩
  rcases get j v y z c with⟨_,g1,l⟩|⟨_,rfl,rfl⟩
  .exact .inl ⟨j,v,y,g1,l,m,p⟩
  .exact .inr p
 refine⟨⟨⟨by simp[u.hr.len],λj v y z c=>?_,λj J v v' y K b z c m p U O L M=>?_,u.hr.gl,λb f V=>?_,u.hr.sF⟩,u.gm,u.go,λb f=>?_,u.frame,u.size,u.os,u.tape,u.out,λj v R hs=>?_,by simpa using u.hl,λr hr=>?_⟩,
  q.df,q.sz,λi=>(q.tm i).mono (λ_ h=>h) (λ_ _=>rfl) (λj d=>I j ((q.tm i).ref j d))⟩
 .rcases get j v y z c with⟨_,g1,l⟩|⟨rfl,rfl,rfl⟩
  .have hr:=u.hr.rep j v y g1 l;exact hr.mono (λ_ h=>h) (λ_ _=>rfl) (λ_ _=>rfl) (λk N=>I k (hr.ref k N))
  .exact f.mono (λ_ h=>h) (λ_ _=>rfl) (λ_ _=>rfl) (λk N=>I k (f.ref k N))
 .rcases get j v y z c with⟨d,g1,l⟩|⟨rfl,rfl,rfl⟩<;>rcases get J v' K p U with⟨W,k1,k2⟩|⟨rfl,rfl,rfl⟩
  .exact u.hr.oB j J v v' y K b g1 l m k1 k2 O L M
  .exact absurd ⟨j,v,y,g1,l,m,L⟩ (C b M).2.2
  .exact absurd ⟨J,v',K,k1,k2,O,M⟩ (C b L).2.2
  .rfl
 .rcases g b V with z|z
  .exact u.hr.gd b f z
  .exact(C b z).2.1 f
 .rcases g b f with z|z
  .exact u.oo b z
  .exact .inl (C b z).1
 .have d:j≠id:=by
   have:=(aC.1 R).1;omega
  rw[dE,η (λe=>d e.symm)];exact u.hand j v R hs
 .have⟨g1,l,g3⟩:=u.sC r hr;refine⟨g1,l,λX=>?_⟩;have⟨j,v,y,z,c,m,p⟩:=X;rcases get j v y z c with⟨_,k1,k2⟩|⟨rfl,rfl,rfl⟩
  .exact g3 ⟨j,v,y,k1,k2,m,p⟩
  .exact f.Vh m p g1
theorem ak.room(x:ak E n G ρ t h a w):∀k:Nat,∃ρ',ak E n G ρ' t (h++List.replicate k .nw) a w
 |0=>⟨ρ,by simpa using x⟩
 |k+1=>by
  have⟨ρ',y⟩:=x.room k;refine⟨ρ'++[undef],?_⟩;have:=y.push (gK.refl w) undef .nw (by simp[fO,undef]) rfl;rw[List.replicate_succ',<-bN];exact this
end
theorem k0{x:V}(h:∀g c,x≠.fc g c):(∀f,sk f x=wW f x)/\kI x=ij x/\∀i,rT i x=uo i x:=by
 cases x<;>first|exact⟨λ_=>rfl,rfl,λ_=>rfl⟩|exact absurd rfl (h _ _)
theorem k1{x:V}(h:∀c,x≠.ag c):(∀f,pK f x=sk f x)/\jJ x=kI x/\∀i,qX i x=rT i x:=by
 cases x<;>first|exact⟨λ_=>rfl,rfl,λ_=>rfl⟩|exact absurd rfl (h _)
theorem k2{x:V}(h:∀c,x≠.tu c):(∀f,gS f x=pK f x)/\eT x=jJ x/\∀i,Aw i x=qX i x:=by
 cases x<;>first|exact⟨λ_=>rfl,rfl,λ_=>rfl⟩|exact absurd rfl (h _)
theorem CA{f:Nat->Nat}{x:V}(h:∀i∈ij x,f i=i):wW f x=x:=by
 cases x<;>first|rfl|(simp only[wW];rw[h _ (by simp[ij])])
theorem pT{f:Nat->Nat}{x:V}(h:∀i∈kI x,f i=i):sk f x=x:=by
 by_cases y:∃g c,x=V.fc g c
 .obtain⟨g,c,rfl⟩:=y;simp only[kI,aO]at h;simp only[sk,fC (λx y=>CA λi z=>h i ⟨x,y,z⟩)]
 .have⟨u,v,_⟩:=k0 (λg c e=>y ⟨g,c,e⟩);rw[u];exact CA (by rw[<-v];exact h)
theorem CC{f:Nat->Nat}{x:V}(h:∀i∈jJ x,f i=i):pK f x=x:=by
 by_cases y:∃c,x=V.ag c
 .obtain⟨c,rfl⟩:=y;simp only[jJ,aO]at h;simp only[pK,fC (λx y=>pT λi z=>h i ⟨x,y,z⟩)]
 .have⟨u,v,_⟩:=k1 (λc e=>y ⟨c,e⟩);rw[u];exact pT (by rw[<-v];exact h)
theorem CB{f:Nat->Nat}{x:B}(h:∀i∈eZ x,f i=i):eR f x=x:=by
 cases x with
 |ms z es out it=>
  cases out with
  |none=>rfl
  |some q=>simp only[eR,bE,pT h]
 |cells c=>
  simp only[eZ,aO]at h;simp only[eR,fC (λx u=>pT λi y=>h i ⟨x,u,y⟩)]
 |mp c=>
  simp only[eZ,aO,aR]at h;simp only[eR,fC (l:=c) (f:=λp=>(pK f p.1,pK f p.2)) (λx u=>by
   rw[CC λi y=>h i ⟨x,u,.inl y⟩,CC λi y=>h i ⟨x,u,.inr y⟩])]
 |rx z rs k c=>
  simp only[eZ,aO]at h;simp only[eR,fC (λx u=>pT λi y=>h i ⟨x,u,y⟩)]
 |_=>rfl
theorem GI{f g:Nat->Nat}{x:V}(h:∀i∈ij x,f i=g i):wW f x=wW g x:=by
 cases x<;>first|rfl|(simp only[wW];rw[h _ (by simp[ij])])
theorem sj{f g:Nat->Nat}{x:V}(h:∀i∈kI x,f i=g i):sk f x=sk g x:=by
 by_cases y:∃g c,x=V.fc g c
 .obtain⟨F,c,rfl⟩:=y;simp only[kI,aO]at h;simp only[sk,aZ (λx y=>GI λi u=>h i ⟨x,y,u⟩)]
 .have⟨z,v,_⟩:=k0 (λg c e=>y ⟨g,c,e⟩);rw[z,z];exact GI (by rw[<-v];exact h)
theorem wX{f g:Nat->Nat}{x:V}(h:∀i∈jJ x,f i=g i):pK f x=pK g x:=by
 by_cases y:∃c,x=V.ag c
 .obtain⟨c,rfl⟩:=y;simp only[jJ,aO]at h;simp only[pK,aZ (λx y=>sj λi u=>h i ⟨x,y,u⟩)]
 .have⟨z,v,_⟩:=k1 (λc e=>y ⟨c,e⟩);rw[z,z];exact sj (by rw[<-v];exact h)
theorem Pq{f g:Nat->Nat}{x:V}(h:∀i∈eT x,f i=g i):gS f x=gS g x:=by
 by_cases y:∃c,x=V.tu c
 .obtain⟨c,rfl⟩:=y;simp only[eT,aO]at h;simp only[gS,aZ (λx y=>wX λi u=>h i ⟨x,y,u⟩)]
 .have⟨z,v,_⟩:=k2 (λc e=>y ⟨c,e⟩);rw[z,z];exact wX (by rw[<-v];exact h)
theorem Pp{f g:Nat->Nat}{x:B}(h:∀i∈eZ x,f i=g i):eR f x=eR g x:=by
 cases x with
 |ms z es out it=>
  cases out with
  |none=>rfl
  |some q=>simp only[eR,bE,sj h]
 |cells c=>
  simp only[eZ,aO]at h;simp only[eR,aZ (λx u=>sj λi y=>h i ⟨x,u,y⟩)]
 |mp c=>
  simp only[eZ,aO,aR]at h;simp only[eR,aZ (l:=c) (f:=λp=>(pK f p.1,pK f p.2)) (g:=λp=>(pK g p.1,pK g p.2)) (λx u=>by
   rw[wX λi y=>h i ⟨x,u,.inl y⟩,wX λi y=>h i ⟨x,u,.inr y⟩])]
 |rx z rs k c=>
  simp only[eZ,aO]at h;simp only[eR,aZ (λx u=>sj λi y=>h i ⟨x,u,y⟩)]
 |_=>rfl
theorem GH{f g:Nat->Nat}(x:V):wW f (wW g x)=wW (λi=>f (g i)) x:=by cases x<;>rfl
theorem lG{f g:Nat->Nat}(x:V):sk f (sk g x)=sk (λi=>f (g i)) x:=by
 cases x with
 |fc F c=>simp only[sk,bn];congr 1;exact aZ λx _=>GH x
 |_=>rfl
theorem si{f g:Nat->Nat}(x:V):pK f (pK g x)=pK (λi=>f (g i)) x:=by
 cases x with
 |ag c=>simp only[pK,bn];congr 1;exact aZ λx _=>lG x
 |fc F c=>exact lG (.fc F c)
 |_=>rfl
theorem se{f g:Nat->Nat}(x:V):gS f (gS g x)=gS (λi=>f (g i)) x:=by
 cases x with
 |tu c=>simp only[gS,bn];congr 1;exact aZ λx _=>si x
 |ag c=>exact si (.ag c)
 |fc F c=>exact lG (.fc F c)
 |_=>rfl
theorem sd{f g:Nat->Nat}(x:B):eR f (eR g x)=eR (λi=>f (g i)) x:=by
 cases x with
 |ms z es out it=>
  cases out with
  |none=>rfl
  |some q=>simp only[eR,bE,lG]
 |cells c=>simp only[eR,bn];congr 1;exact aZ λx _=>lG x
 |mp c=>simp only[eR,bn];congr 1;exact aZ λx _=>by simp only[Function.comp,si]
 |rx z rs k c=>simp only[eR,bn];congr 1;exact aZ λx _=>lG x
 |_=>rfl
theorem yj{i:Nat}{x:V}(h:i∉ij x):uo i x=x:=by
 cases x<;>first|rfl|(simp only[ij,aL]at h;simp only[uo,fm (k_ h),ε])
theorem nE{i:Nat}{x:V}(h:i∉kI x):rT i x=x:=by
 by_cases y:∃g c,x=V.fc g c
 .obtain⟨g,c,rfl⟩:=y;simp only[kI,aO,not_exists,not_and]at h;simp only[rT,fC (λx y=>yj (h x y))]
 .have⟨_,z,u⟩:=k0 (λg c e=>y ⟨g,c,e⟩);rw[u];exact yj (by rw[<-z];exact h)
theorem pb{i:Nat}{x:V}(h:i∉jJ x):qX i x=x:=by
 by_cases y:∃c,x=V.ag c
 .obtain⟨c,rfl⟩:=y;simp only[jJ,aO,not_exists,not_and]at h;simp only[qX,fC (λx y=>nE (h x y))]
 .have⟨_,z,u⟩:=k1 (λc e=>y ⟨c,e⟩);rw[u];exact nE (by rw[<-z];exact h)
theorem H0{i:Nat}{x:V}(h:i∉eT x):Aw i x=x:=by
 by_cases y:∃c,x=V.tu c
 .obtain⟨c,rfl⟩:=y;simp only[eT,aO,not_exists,not_and]at h;simp only[Aw,fC (λx y=>pb (h x y))]
 .have⟨_,z,u⟩:=k2 (λc e=>y ⟨c,e⟩);rw[u];exact pb (by rw[<-z];exact h)
theorem HY{i:Nat}{x:B}(h:i∉eZ x):gV i x=x:=by
 cases x with
 |ms z es out it=>
  cases out with
  |none=>rfl
  |some q=>simp only[gV,bE,nE h]
 |cells c=>
  simp only[eZ,aO,not_exists,not_and]at h;simp only[gV,fC (λx y=>nE (h x y))]
 |mp c=>
  simp only[eZ,aO,not_exists,not_and,aR,not_or]at h;simp only[gV,fC (l:=c) (f:=λp=>(qX i p.1,qX i p.2)) (λx y=>by rw[pb (h x y).1,pb (h x y).2])]
 |rx z rs k c=>
  simp only[eZ,aO,not_exists,not_and]at h;simp only[gV,fC (λx y=>nE (h x y))]
 |_=>rfl
theorem Au:∀(os:List Nat)(t:T),(∀i∈os,∀s,i∉eT (gs t s))->∀s,gs (os.foldl (λt i=>ju i t) t) s=gs t s:=by
 intro os
 induction os with
 |nil=>intro t _ s;rfl
 |cons i os x=>
  intro t h s;have e:∀s,gs (ju i t) s=gs t s:=λs=>by rw[ju,q6 _ rfl,H0 (h i (by simp) s)]
  rw[cQ,x (ju i t) (λj y s=>by rw[e s];exact h j (by simp[y]) s) s,e s]
theorem Av:∀(os:List Nat)(h:H)(i:Nat),(∀j∈os,∀b,h[i]?=some b->j∉eZ b)->(mP os h)[i]?=h[i]?:=by
 intro os
 induction os with
 |nil=>intro h i _;rfl
 |cons j os z=>
  intro h i y;have e:(h.map (gV j))[i]?=h[i]?:=by
   rw[aB];cases x:h[i]? with
   |none=>rfl
   |some b=>rw[bE,HY (y j (by simp) b x)]
  rw[mP,z (h.map (gV j)) i (λk u b x=>y k (by simp[u]) b (by rw[<-e];exact x)),e]
theorem Dv(h:H):∀(n:Nat)(l acc:List Nat),∀i∈acc,i∈reach h n l acc:=by
 intro n
 induction n with
 |zero=>intro l acc i x;exact x
 |succ n y=>
  intro l acc i x;cases l with
  |nil=>exact x
  |cons j r=>
   simp only[reach];cases has acc j
   .exact y _ _ i (by simp[x])
   .exact y _ _ i x
theorem yI{h y:H}:∀(n:Nat)(l acc:List Nat),(∀i∈reach h n l acc,get? y i=get? h i)->reach y n l acc=reach h n l acc:=by
 intro n
 induction n with
 |zero=>intro l acc _;rfl
 |succ n z=>
  intro l acc x;cases l with
  |nil=>rfl
  |cons j r=>
   simp only[reach]at x⊢;cases u:has acc j
   .rw[u]at x;simp only[ε]at x⊢;have e:=x j (Dv h n _ _ j (by simp));rw[e];exact z _ _ x
   .rw[u]at x;simp only[δ]at x⊢;exact z _ _ x
theorem SH{α:Type}:∀(l:List (Nat×α))(a:List α),(l.map (·.1)).Nodup->(∀p∈l,p.1<a.length)->(l.foldl (λa p=>a.set p.1 p.2) a).length=a.length/\(∀p∈l,(l.foldl (λa p=>a.set p.1 p.2) a)[p.1]?=some p.2) /\
  ∀i,(∀p∈l,p.1≠i)->(l.foldl (λa p=>a.set p.1 p.2) a)[i]?=a[i]?:=by
 intro l
 induction l with
 |nil=>intro a _ _;exact⟨rfl,by simp,λ_ _=>rfl⟩
 |cons p l u=>
  intro a y hl;simp only[cG,cm]at y;have⟨g1,v,g3⟩:=u (a.set p.1 p.2) y.2 (λq x=>by simpa using hl q (by simp[x]));refine⟨by simpa using g1,λq x=>?_,λi z=>?_⟩
  .rcases af.1 x with rfl|x
   .rw[cQ,g3 q.1 (λp b e=>y.1 (bJ.2 ⟨p,b,e⟩)),dE,ζ rfl,ζ (hl q (by simp))]
   .exact v q x
  .rw[cQ,g3 i (λq x=>z q (by simp[x])),dE,η (z p (by simp))]
theorem FU{α:Type}{nf:List Nat}{vs a:List α}(hl:nf.length=vs.length)(b:nf.Nodup)(z:∀i∈nf,i<a.length) :
  ((nf.zip vs).foldl (λa p=>a.set p.1 p.2) a).length=a.length/\(∀(k i:Nat),nf[k]?=some i->((nf.zip vs).foldl (λa p=>a.set p.1 p.2) a)[i]?=vs[k]?)/\∀i,i∉nf->((nf.zip vs).foldl (λa p=>a.set p.1 p.2) a)[i]?=a[i]?:=by
 have e:(nf.zip vs).map (·.1)=nf:=dr (by omega);have u:∀p∈nf.zip vs,p.1∈nf:=λp x=>by rw[<-e];exact bJ.2 ⟨p,x,rfl⟩
 have⟨g1,c,g3⟩:=SH (nf.zip vs) a (by rw[e];exact b) (λp x=>z _ (u p x));refine⟨g1,λk i v=>?_,λi d=>g3 i λp x he=>d (he ▸ u p x)⟩;have y:k<vs.length:=by rw[<-hl];exact(aC.1 v).1
 rw[aA y];have x:(i,vs[k])∈nf.zip vs:=aj.2 ⟨k,by rw[List.getElem?_zip_eq_some];exact⟨v,aA y⟩⟩;exact c _ x
section
variable{P:Program}{E:gL}{n:Nat}{G:Nat->Prop}{ρ:List Value}{t:T}{h:H}{a:Act}{w:World}
theorem ak.move{ns:List B}(I:ak E n G ρ t (h++ns) a w){nf:List Nat}(hl:nf.length=ns.length)(J:nf.Nodup)(K:∀i∈nf,h[i]?=some .nw)(S:∀i∈nf,E.ρ.length<=i)(hE:E.ρ.length<=h.length)(U:E.h.length<=h.length){f:Nat->Nat}
  (A:∀k,k<h.length->f k=k) (W:∀(k i:Nat),nf[k]?=some i->f (h.length+k)=i) (X:∀s,∀i∈eT (gs t s),i<h.length) (Y:∀(i:Nat)(b:B),h[i]?=some b->∀j∈eZ b,j<h.length) :
  ∃ρ',ak E n G ρ' t ((nf.zip (ns.map (eR f))).foldl (λa w=>a.set w.1 w.2) h) a w/\∀(v:Value)(x:V),au G w ρ v x->au G w ρ' v (gS f x):=by
 have u:=I.ok;have hlen:ρ.length=h.length+ns.length:=by rw[u.hr.len,aK]
 have m:∀i∈nf,i<h.length:=λi z=>(aC.1 (K i z)).1;have⟨a1,a2,a3⟩:=FU (vs:=ns.map (eR f)) (a:=h) (by simpa using hl) J m;have⟨b1,b2,b3⟩:=FU (vs:= ρ.drop h.length) (a:= ρ.take h.length) (by simp;omega) J (λi z=>by have:=m i z;simp;omega);generalize hh':(nf.zip (ns.map (eR f))).foldl (λa w=>a.set w.1 w.2) h=h' at *;generalize hρ':(nf.zip (ρ.drop h.length)).foldl (λa w=>a.set w.1 w.2) (ρ.take h.length)=ρ' at *;have bl:ρ'.length=h.length:=by rw[b1];simp;omega
 have L:∀(k i:Nat),nf[k]?=some i->ρ'[i]?=ρ[h.length+k]?:=λk i C=>by rw[b2 k i C,bF]
 have D:∀i,i∉nf->i<h.length->ρ'[i]?=ρ[i]?:=λi z c=>by rw[b3 i z,ao,ζ c]
 have Z:∀i,x6 ρ i->i∉nf:=by
  rintro i ⟨v,d,g⟩ z
  have N:=K i z;have c:=m i z;have:=u.hr.rep i v .nw d (by rw[aT c];exact N);exact g this
 have O:∀i,x6 ρ i->ρ'[f i]?=ρ[i]?:=by
  intro i z;have hni:=Z i z;have⟨v,d,_⟩:=z;have p:=(aC.1 d).1
  by_cases c:i<h.length
  .rw[A i c,D i hni c]
  .obtain⟨j,l⟩:∃j,nf[i-h.length]?=some j:=⟨_,aA (by omega)⟩
   have:=W _ _ l;have e:h.length+(i-h.length)=i:=by omega
   rw[e]at this;rw[this,L _ _ l,e]
 have q:∀(i:Nat)(v:Value)(y:B),ρ'[i]?=some v->h'[i]?=some y->∃(o:Nat)(y0:B),ρ[o]?=some v/\(h++ns)[o]?=some y0/\(y0=.no<->y=.no)/\gh y=gh y0/\((∃k,nf[k]?=some i/\o=h.length+k)\/(i∉nf/\o=i/\i<h.length))/\(cY G w ρ v y0->cY G w ρ' v y):=by
  intro i v y d g;have p:i<h.length:=by rw[<-bl];exact(aC.1 d).1
  by_cases z:i∈nf
  .have⟨k,C⟩:=aj.1 z;rw[L k i C]at d;rw[a2 k i C,aB,aG]at g;obtain⟨y0,hy,rfl⟩:=g;refine⟨h.length+k,y0,d,by rw[aY (by omega)];simpa using hy,(ka f y0).symm,nH f y0,.inl ⟨k,C,rfl⟩,λhr=>?_⟩;exact hr.pL λj l=>O j (hr.ref j l)
  .rw[D i z p]at d;rw[a3 i z]at g;refine⟨i,y,d,by rw[aT p];exact g,Iff.rfl,rfl,.inr ⟨z,rfl,p⟩,λhr=>?_⟩;exact hr.mono (λ_ h=>h) (λ_ _=>rfl) (λ_ _=>rfl) (λj l=>by
    have:=O j (hr.ref j l);rwa[A j (Y i y g j l)]at this)
 have back:∀b,own ρ' h' b->own ρ (h++ns) b:=by
  rintro b ⟨i,v,y,d,g,h3,R⟩
  have⟨o,y0,g1,F,g3,g6,_⟩:=q i v y d g;rw[eU,g6]at R;exact⟨o,v,y0,g1,F,λe=>h3 (g3.1 e),R⟩
 refine⟨ρ',⟨⟨⟨by rw[bl,a1],λi v y d g=>?_,λi i' v v' y y' b d g h3 R h5 h6 h7 h8=>?_,u.hr.gl,λb hb ho=>u.hr.gd b hb (back b ho),u.hr.sF⟩,u.gm,u.go,λb hb=>u.oo b (back b hb),u.frame,u.size,u.os,u.tape,u.out,λi v hv hs=>?_,by rw[a1];exact U,λr hr=>let⟨g1,F,g3⟩:=u.sC r hr;⟨g1,F,λg4=>g3 (back r g4)⟩⟩,
  I.df,I.sz,λs=>(I.tm s).mono (λ_ h=>h) (λ_ _=>rfl) (λj l=>?_)⟩,λv x N=>N.pL λj l=>O j (N.ref j l)⟩
 .have⟨o,y0,g1,F,_,_,_,g5⟩:=q i v y d g;exact g5 (u.hr.rep o v y0 g1 F)
 .have⟨o,y0,g1,F,g3,g6,g4,_⟩:=q i v y d g;have⟨o',y0',k1,k2,k3,k6,k4,_⟩:=q i' v' y' R h5;rw[eU,g6]at h7;rw[eU,k6]at h8;have hoo:=u.hr.oB o o' v v' y0 y0' b g1 F (λe=>h3 (g3.1 e)) k1 k2 (λe=>h6 (k3.1 e)) h7 h8;rcases g4 with⟨k,C,rfl⟩|⟨_,rfl,c⟩<;>rcases k4 with⟨k',M,rfl⟩|⟨_,rfl,hlt'⟩
  .have:k=k':=by omega
   subst this;rw[C]at M;exact aq M
  .omega
  .omega
  .exact hoo
 .have h0:=u.hand i v hv hs;have hiE:=(aC.1 hv).1;have z:i∉nf:=λz=>by have:=S i z;omega
  rw[D i z (by omega)];exact h0
 .have:=O j ((I.tm s).ref j l);rwa[A j (X s j l)]at this
end
section plain
def rb(acc:List (List Nat))(d:List Nat):List (List Nat):=acc++[dd (d++d.flatMap λi=>(acc[i]?).getD [])]
theorem An{k:Nat}:∀{l:List Nat},k∈dd l<->k∈l
 |[]=>Iff.rfl
 |i::l=>by
  have x:=An (k:=k) (l:=l);simp only[dd];cases h:has l i with
  |true=>
   rw[δ,x,af];exact⟨.inr,λy=>y.elim (λe=>e ▸ cK.1 h) id⟩
  |false=>rw[ε,af,af,x]
theorem M_:∀(ds acc:List (List Nat)),(∀i,i<acc.length->(ds.foldl rb acc)[i]?=acc[i]?)/\(ds.foldl rb acc).length=acc.length+ds.length /\
    ∀(j:Nat)(d:List Nat),ds[j]?=some d->∃b:List Nat,(ds.foldl rb acc)[acc.length+j]?=some b/\(∀k∈d,k∈b)/\∀k∈b,k∈d\/∃k'∈d,∃b':List Nat,(ds.foldl rb acc)[k']?=some b'/\k∈b':=by
  intro ds
  induction ds with
  |nil=>intro acc;simp
  |cons d ds ih=>
    intro acc
    have⟨h1,h2,h3⟩:=ih (rb acc d)
    have hl:(rb acc d).length=acc.length+1:=by simp[rb]
    have h1':∀i,i<acc.length->(ds.foldl rb (rb acc d))[i]?=acc[i]?:=λi hi=>by
      rw[h1 i (by omega)]
      simp only[rb]
      exact aT hi
    simp only[cQ]
    refine⟨h1',by rw[h2,hl,aX];omega,λj e hj=>?_⟩
    cases j with
    |zero=>
      simp at hj
      subst hj
      refine⟨dd (d++d.flatMap λi=>(acc[i]?).getD []),?_,λk hk=>An.2 (by simp[hk]),λk hk=>?_⟩
      · rw[h1 _ (by omega)]
        simp[rb]
      · rw [An, aR] at hk
        rcases hk with hk|hk
        · exact .inl hk
        · rw[aO]at hk
          have⟨i,hi,hk⟩:=hk
          cases hai:acc[i]? with
          |none=>rw[hai]at hk;cases hk
          |some b=>
            rw[hai]at hk
            exact .inr ⟨i,hi,b,by rw[h1' i (aC.1 hai).1,hai],hk⟩
    |succ j=>
      have⟨b,g1,g2,g3⟩:=h3 j e (by simpa using hj)
      rw[hl]at g1
      exact⟨b,by rw[<-g1];congr 1;omega,g2,g3⟩
theorem DO(ds:List (List Nat)):(B9 ds).length=ds.length/\∀(j:Nat)(d:List Nat),ds[j]?=some d->∃b:List Nat,(B9 ds)[j]?=some b/\(∀k∈d,k∈b)/\∀k∈b,k∈d\/∃y∈d,∃x:List Nat,(B9 ds)[y]?=some x/\k∈x:=by
 have⟨_,z,u⟩:=M_ ds [];have e:B9 ds=ds.foldl rb []:=rfl;rw[e];refine⟨by simpa using z,λj d v=>?_⟩;have:=u j d v;simpa using this
theorem Cj:∀(bs:List (List Nat))(k:Nat),lS k bs=true->∀(j:Nat)(b:List Nat),bs[j]?=some b->∀i,i<k+j->i∈b:=by
 intro bs
 induction bs with
 |nil=>intro k _ j b x;simp at x
 |cons c bs z=>
  intro k y j b x i u;simp only[lS,aP,aS,cn]at y;cases j with
  |zero=>simp at x;subst x;exact cK.1 (y.1 i (by omega))
  |succ j=>exact z (k+1) y.2 j b (by simpa using x) i (by omega)
theorem Gp:∀(bs:List (List Nat))(k:Nat),okB k bs=true->∀(j:Nat)(b:List Nat),bs[j]?=some b->∀i∈b,i<k+j:=by
 intro bs
 induction bs with
 |nil=>intro k _ j b x;simp at x
 |cons c bs u=>
  intro k y j b x i z;simp only[okB,aP,aS]at y;cases j with
  |zero=>simp at x;subst x;have:=(fH ..).mp (y.1 i z);omega
  |succ j=>have:=u (k+1) y.2 j b (by simpa using x) i z;omega
theorem QT{q:List (I×List Nat)}(h:pM q=true){i j:Nat}{x y:I×List Nat}(e:q[i]?=some x)(f:q[j]?=some y)(u:i≠j) :
  (∀s,x.1.d=some s->y.1.d≠some s)/\∀s,y.1.d=some s->s∈bU x.1.o++v7 x.1.g->j∈x.2\/i∈y.2:=by
 simp only[pM,aS]at h;have k:(x,i)∈q.zipIdx:=by rw[List.mem_zipIdx_iff_getElem?];exact e
 have l:(y,j)∈q.zipIdx:=by rw[List.mem_zipIdx_iff_getElem?];exact f
 have v:=h _ k _ l;simp only[fm u,Bool.false_or,aP]at v;refine⟨λs b c=>?_,λs b c=>?_⟩
 .have:=v.1;rw[b,c]at this;simp at this
 .have:=v.2;rw[b]at this;simp only[cI,dF]at this;rcases this with(z|z)|z
  .rw[o5]at z;exact absurd (cK.2 c) z
  .exact .inl (cK.1 z)
  .exact .inr (cK.1 z)
end plain
section
variable{P:Program}{E:gL}{n:Nat}{h:H}(ow:Nat->Bool)
def w8(P:Program)(i:I)(t:T)(h:H)(v:V):Prop:=
 match i.g with
 |none=>Qt ow P i.o t h v
 |some (j,x)=>(∃b,gs t j=.d (.bool b)/\(b=x->Qt ow P i.o t h v)/\(b≠x->v=.ud))\/(gs t j=.ud/\v=.ud)
theorem Qt.congr{x:X}{t t':T}{v:V}(z:Qt ow P x t h v)(u:∀s∈bU x,gs t' s=gs t s):Qt ow P x t' h v:=
 λy b c=>z y b λs hs=>(c s hs).trans (u s hs)
theorem Qt.more{x:X}{t:T}{z:H}{v:V}(c:Qt ow P x t h v)(d:NH z h):Qt ow P x t z v:=
 λt' e f y=>c t' e f λi b g u=>y i b (d i b g u) u
theorem w8.congr{i:I}{t t':T}{v:V}(y:w8 ow P i t h v)(z:∀s∈bU i.o++v7 i.g,gs t' s=gs t s):w8 ow P i t' h v:=by
 unfold w8 at y⊢;have u:∀s∈bU i.o,gs t' s=gs t s:=λs hs=>z s (by simp[hs]);split at y
 .exact Qt.congr ow y u
 .rename_i j x c;have d:gs t' j=gs t j:=z j (by simp[v7,c]);rw[d];rcases y with⟨b,g1,e,g3⟩|y
  .exact .inl ⟨b,g1,λf=>Qt.congr ow (e f) u,g3⟩
  .exact .inr y
theorem w8.more{i:I}{t:T}{y:H}{v:V}(x:w8 ow P i t h v)(z:NH y h):w8 ow P i t y v:=by
 unfold w8 at x⊢;split at x
 .exact Qt.more ow x z
 .rcases x with⟨b,g1,u,g3⟩|x
  .exact .inl ⟨b,g1,λc=>Qt.more ow (u c) z,g3⟩
  .exact .inr x
structure R where
  v:V
  ws:List (Nat×B)
  rd:List Nat
  kl:List Nat
def VN(i:I)(t:T)(a:H)(r:R):Prop:=
 ∃x v n id off cs,i=⟨none,.st x v n,none⟩/\gv t x=.p id off/\get? a id=some (.cells cs)/\(Nat.beq (gv t v).cs.length n=true/\Nat.ble (off+n) cs.length=true/\(gv t v).cs.all fA=true)/\r=⟨.ud,[(id,.cells (lay cs off (gv t v).cs))],[],[]⟩
def W9(x:Nat)(i:I)(a:H)(r:R):Prop:=
 ∃d id b v o,i=⟨some d,o,none⟩/\get? a id=some .nw/\x<=id/\((∃cs,o=.al cs/\b=.cells cs/\v=.p id 0)\/(∃pl,o=.mm pl/\b=KM pl/\v=.mp id))/\r=⟨v,[(id,b)],[],[]⟩
def WC(P:Program)(y:Nat)(i:I)(t:T)(a:H)(r:R):Prop:=
 ∃f args ids r0 ns nf,i.g=none/\i.o=.cf f args/\ow f=false/\reach a 100 ((args.map λx=>cH (gv t x)).flatMap eT) []=ids/\FQ a ids ((args.map λx=>cH (gv t x)).flatMap eT)=true/\(args.map λx=>cH (gv t x)).flatMap Ur=[] /\
  Sat P f ((args.map λx=>cH (gv t x)).map (gS (pos ids))) (ids.map λi=>eR (pos ids) ((get? a i).getD .no)) (λout z=>out=.ret r0/\z=(ids.map λi=>eR (pos ids) ((get? a i).getD .no))++ns) /\
  nf.length=ns.length/\(ids.isEmpty&&ns.isEmpty)=false/\(∀i∈nf,y<=i/\get? a i=some .nw)/\nf.Nodup/\r=⟨gS (gm ids nf) r0,nf.zip (ns.map (eR (gm ids nf))),ids,rowsOf a ids⟩
def Vm(P:Program)(y:Nat)(i:I)(t:T)(a:H)(r:R):Prop:=
 ∃f args r0 ns nf,i.g=none/\i.o=.cf f args/\(ow f=false/\(args.map λx=>cH (gv t x)).flatMap eT≠[])/\(Sat P f ((args.map λx=>cH (gv t x)).map (rY a)) [] λout z=>out=.ret r0/\z=ns) /\
  nf.length=ns.length/\ns.all yE=true/\Di r0=true/\(∀i∈nf,y<=i/\get? a i=some .nw)/\nf.Nodup/\r=⟨gS (λk=>(get? nf k).getD 0) r0,nf.zip ns,(args.map λx=>cH (gv t x)).flatMap eT,[]⟩
def VK(P:Program)(y:Nat)(i:I)(t:T)(a:H)(r:R):Prop:=
 ∃f args r0 ns nf ids,i.g=none/\i.o=.cf f args/\(args.map λx=>cH (gv t x)).flatMap eT=ids/\(ids.Nodup/\∀i∈ids,∃z rs,get? a i=some (.rows z rs)) /\
  (Sat P f ((args.map λx=>cH (gv t x)).map (gS (pos ids))) (ids.map λi=>eR (pos ids) ((get? a i).getD .no)) λout u=>out=.ret r0/\u=List.replicate ids.length .no++ns) /\
  nf.length=ns.length/\(∀k∈ns.flatMap eZ++eT r0,ids.length<=k)/\(∀i∈nf,y<=i/\get? a i=some .nw)/\nf.Nodup/\r=⟨gS (gt ids.length nf) r0,(ids.map λi=>(i,B.no))++nf.zip (ns.map (eR (gt ids.length nf))),ids,[]⟩
def W6(u:Nat)(i:I)(t:T)(a:H)(r:R):Prop:=
 ∃d id z zero n x ds,i=⟨some d,.bs z zero n x,none⟩/\get? a id=some .nw/\u<=id/\(x.all λp=>Nat.beq (gv t p.2).cs.length z&&Nat.ble (p.1*z+z) (n*z)&&(gv t p.2).cs.all fA)=true /\
  (∀(t':T)(y:H)(K':List D->T->H->Prop),K' ds t' y->BP (x.foldl (λcs p=>lay cs (p.1*z) (gv t p.2).cs) (List.replicate n zero).flatten) t' y K')/\r=⟨.os id,[(id,.rows z (chunk z n ds))],[],[]⟩
def ze(P:Program)(x:Nat)(i:I)(t:T)(a:H)(r:R):Prop:=
 (r.ws=[]/\r.kl=[]/\w8 ow P i t (yl r.rd a) r.v)\/VN i t a r\/W9 x i a r\/WC ow P x i t a r\/Vm ow P x i t a r\/VK P x i t a r\/W6 x i t a r
def kJ(r:R):List Nat:=r.ws.map (·.1)
def Nh(r:R):List Nat:=eT r.v++r.ws.flatMap λw=>eZ w.2
def wr(a:H)(r:R):H:=r.ws.foldl (λa w=>a.set w.1 w.2) a
theorem AD{ids nf:List Nat}{ns:List B}{f:Nat->Nat}(hl:nf.length=ns.length):((ids.map λi=>(i,B.no))++nf.zip (ns.map (eR f))).map (·.1)=ids++nf:=by
 rw[bZ,bn];congr 1
 .exact(aZ λ_ _=>rfl).trans (List.map_id' ids)
 .exact dr (by simp[hl])
theorem ze.ws{P:Program}{p:Nat}{i:I}{t:T}{a:H}{r:R}(h:ze ow P p i t a r):(r.ws.map (·.1)).Nodup/\∀w∈r.ws,w.1<a.length:=by
 rcases h with⟨h,_⟩|⟨x,v,n,id,off,cs,_,_,y,_,rfl⟩|⟨d,id,b,v,o,_,y,_,_,rfl⟩|⟨f,args,ids,r0,ns,nf,_,_,_,_,_,_,_,hl,_,y,c,rfl⟩|⟨f,args,r0,ns,nf,_,_,_,_,hl,_,_,y,c,rfl⟩|⟨f,args,r0,ns,nf,ids,_,_,_,⟨q,m⟩,_,hl,_,y,c,rfl⟩|⟨d,id,z,zero,n,k,ds,_,y,_,_,_,rfl⟩
 .rw[h];simp
 .rw[get?_eq]at y;simpa using(aC.1 y).1
 .rw[get?_eq]at y;simpa using(aC.1 y).1
 .have e:(nf.zip (ns.map (eR (gm ids nf)))).map (·.1)=nf:=dr (by simp[hl]);refine⟨by rw[e];exact c,λw g=>?_⟩;have:w.1∈nf:=by rw[<-e];exact bJ.2 ⟨w,g,rfl⟩
  have:=(y _ this).2;rw[get?_eq]at this;exact(aC.1 this).1
 .have e:(nf.zip ns).map (·.1)=nf:=dr (by omega);refine⟨by rw[e];exact c,λw g=>?_⟩;have:w.1∈nf:=by rw[<-e];exact bJ.2 ⟨w,g,rfl⟩
  have:=(y _ this).2;rw[get?_eq]at this;exact(aC.1 this).1
 .have e:((ids.map λi=>(i,B.no))++nf.zip (ns.map (eR (gt ids.length nf)))).map (·.1)=ids++nf:=AD hl;refine⟨?_,λw g=>?_⟩
  .rw[e];refine List.nodup_append.2 ⟨q,c,λi s j A l=>?_⟩;subst l;have⟨z,rs,u⟩:=m i s;rw[(y i A).2]at u;cases u
  .have:w.1∈ids++nf:=by rw[<-e];exact bJ.2 ⟨w,g,rfl⟩
   rcases aR.1 this with u|u
   .have⟨z,rs,u⟩:=m _ u;rw[get?_eq]at u;exact(aC.1 u).1
   .have:=(y _ u).2;rw[get?_eq]at this;exact(aC.1 this).1
 .rw[get?_eq]at y;simpa using(aC.1 y).1
def ug:List I->List V->T->T
 |i::r,v::vs,t=>ug r vs (fk i.d v t)
 |_,_,t=>t
theorem nv{d:Option Nat}{v:V}{t:T}{s:Nat}:gs (fk d v t) s=if d=some s then v else gs t s:=by
 cases d with
 |none=>simp[fk]
 |some i=>
  simp only[fk,gI,aE]
  by_cases e:i=s
  .subst e;simp
  .rw[fm e,η e];rfl
theorem su:∀(q:List I)(vs:List V)(t t':T),(∀s,gs t' s=gs t s)->∀s,gs (ug q vs t') s=gs (ug q vs t) s:=by
 intro q
 induction q with
 |nil=>intro vs t t' x s;exact x s
 |cons i q y=>
  intro vs t t' x s;cases vs with
  |nil=>exact x s
  |cons v vs=>exact y vs _ _ (λs=>by rw[nv,nv,x s]) s
theorem A3:∀(q:List I)(vs:List V)(t:T),vs.length=q.length->∀s,(∃(k:Nat)(i:I),q[k]?=some i/\i.d=some s/\vs[k]?=some (gs (ug q vs t) s))\/((∀(k:Nat)(i:I),q[k]?=some i->i.d≠some s)/\gs (ug q vs t) s=gs t s):=by
 intro q
 induction q with
 |nil=>intro vs t _ s;exact .inr ⟨by simp,rfl⟩
 |cons i q u=>
  intro vs t hl s;cases vs with
  |nil=>simp at hl
  |cons v vs=>
   simp only[ug];rcases u vs (fk i.d v t) (by simpa using hl) s with⟨k,j,x,y,b⟩|⟨x,y⟩
   .exact .inl ⟨k+1,j,by simpa using x,y,by simpa using b⟩
   .rw[y,nv]
    by_cases hd:i.d=some s
    .exact .inl ⟨0,i,rfl,hd,by simp[hd]⟩
    .refine .inr ⟨λk j z=>?_,by rw[η hd]⟩;cases k with
     |zero=>simp at z;subst z;exact hd
     |succ k=>exact x k j (by simpa using z)
theorem ze.congr{B:Nat}{i:I}{t t':T}{a:H}{r:R}(q:ze ow P B i t a r)(j:∀s∈bU i.o++v7 i.g,gs t' s=gs t s):ze ow P B i t' a r:=by
 rcases q with⟨c,u,k⟩|⟨x,v,n,id,off,cs,rfl,c,u,k,A⟩|q|⟨f,args,ids,r0,ns,nf,c,u,h⟩|⟨f,args,r0,ns,nf,c,u,h⟩|⟨f,args,r0,ns,nf,ids,c,u,h⟩|⟨d,id,z,zero,n,y,ds,rfl,c,u,k,A,D⟩
 .exact .inl ⟨c,u,w8.congr ow k j⟩
 .have F:gv t' x=gv t x:=eE λs hs=>j s (by simp[bU,hs]);have C:gv t' v=gv t v:=eE λs hs=>j s (by simp[bU,hs]);exact .inr (.inl ⟨x,v,n,id,off,cs,rfl,by rw[F];exact c,u,by rw[C];exact k,by rw[C];exact A⟩)
 .exact .inr (.inr (.inl q))
 .have e:(args.map λx=>cH (gv t' x))=args.map λx=>cH (gv t x):=aZ λx l=>by
   rw[eE (t:=t) (t':=t') λs hs=>j s (by rw[u];simp only[bU,aR,aO];exact .inl ⟨x,l,hs⟩)]
  refine .inr (.inr (.inr (.inl ⟨f,args,ids,r0,ns,nf,c,u,?_⟩)));rw[e];exact h
 .have e:(args.map λx=>cH (gv t' x))=args.map λx=>cH (gv t x):=aZ λx l=>by
   rw[eE (t:=t) (t':=t') λs hs=>j s (by rw[u];simp only[bU,aR,aO];exact .inl ⟨x,l,hs⟩)]
  refine .inr (.inr (.inr (.inr (.inl ⟨f,args,r0,ns,nf,c,u,?_⟩))));rw[e];exact h
 .have e:(args.map λx=>cH (gv t' x))=args.map λx=>cH (gv t x):=aZ λx l=>by
   rw[eE (t:=t) (t':=t') λs hs=>j s (by rw[u];simp only[bU,aR,aO];exact .inl ⟨x,l,hs⟩)]
  refine .inr (.inr (.inr (.inr (.inr (.inl ⟨f,args,r0,ns,nf,ids,c,u,?_⟩)))));rw[e];exact h
 .have e:∀p∈y,gv t' p.2=gv t p.2:=λp m=>eE λs hs=>j s (by simp only[bU,aR,aO];exact .inl ⟨p,m,hs⟩);refine .inr (.inr (.inr (.inr (.inr (.inr ⟨d,id,z,zero,n,y,ds,rfl,c,u,?_,?_,D⟩)))))
  .rw[<-k];exact DR y λp m=>by rw[e p m]
  .rw[xH (g:=λcs p=>lay cs (p.1*z) (gv t p.2).cs) y _ λp m b=>by rw[e p m]];exact A
theorem pZ{l:List (Nat×Nat)}{x ids:List Nat}:ky l x ids=true<->∀e∈l,e.2∈x\/e.1∉ids:=by
 simp only[ky,aS,cI,dF,cK,o5];exact⟨λh e he=>(h e he).imp id λy z=>y (cK.2 z),λh e he=>(h e he).imp id λy z=>y (cK.1 z)⟩
theorem kS{l r:List (Nat×Nat)}{x ids:List Nat}:ky (l++r) x ids=true<->ky l x ids=true/\ky r x ids=true:=by
 simp only[ky,List.all_append,aP]
def Mn(r r':R):Prop:=(∃i∈kJ r,i∈r'.rd\/i∈kJ r')\/(∃i∈r.rd,i∈kJ r')\/∃i∈r.kl,i∈Nh r'
def N_(g:Lg)(x:List Nat)(r:R):Prop:=ky g.lw x r.rd=true/\ky g.lw x (kJ r)=true/\ky g.lr x (kJ r)=true/\ky g.lk x (Nh r)=true
theorem N_.put{g:Lg}{x rd kl fr:List Nat}{ws:List (Nat×B)}{r:R}(h:N_ (g.put rd ws kl fr) x r):N_ g x r:=
 ⟨(kS.1 h.1).2,(kS.1 h.2.1).2,(kS.1 h.2.2.1).2,(kS.1 h.2.2.2).2⟩
theorem N_.Mn{g:Lg}{u fr:List Nat}{r r':R}(h:N_ (g.put r.rd r.ws r.kl fr) u r')(x:Mn r r'):g.p∈u:=by
 have⟨b,c,d,e⟩:=h
 replace b:=pZ.1 (kS.1 b).1
 replace c:=pZ.1 (kS.1 c).1
 replace d:=pZ.1 (kS.1 d).1
 replace e:=pZ.1 (kS.1 e).1
 have v:∀i∈kJ r,(i,g.p)∈r.ws.map λw=>(w.1,g.p):=λi y=>by
  obtain⟨w,v,rfl⟩:=bJ.1 y;exact bJ.2 ⟨w,v,rfl⟩
 rcases x with⟨i,y,x|x⟩|⟨i,y,x⟩|⟨i,y,x⟩
 .exact(b _ (v i y)).resolve_right λz=>z x
 .exact(c _ (v i y)).resolve_right λz=>z x
 .exact(d (i,g.p) (bJ.2 ⟨i,y,rfl⟩)).resolve_right λz=>z x
 .exact(e (i,g.p) (bJ.2 ⟨i,y,rfl⟩)).resolve_right λz=>z x
structure Ref(P:Program)(lo:Nat)(h0:H)(q:List (I×List Nat))(t:T)(a:H)(g:Lg)(rs:List R)(t':T)(a':H):Prop where
  r1:rs.length=q.length
  r2:∀s,gs t' s=gs (ug (q.map (·.1)) (rs.map (·.v)) t) s
  r3:∀(j:Nat)(x:I×List Nat),q[j]?=some x->∃r,rs[j]?=some r/\ze ow P lo x.1 (ug ((q.take j).map (·.1)) ((rs.take j).map (·.v)) t) ((rs.take j).foldl wr a) r
  r4:a'=rs.foldl wr a
  r5:∀(j:Nat)(r:R)(x:I×List Nat),rs[j]?=some r->q[j]?=some x->N_ g x.2 r
  r6:∀(j k:Nat)(r r':R)(y:I×List Nat),rs[j]?=some r->rs[k]?=some r'->q[k]?=some y->j<k->Mn r r'->g.p+j∈y.2
  r7:∀(j:Nat)(r:R),rs[j]?=some r->∀id∈r.kl,(∀p∈t,id∉eT p.2)/\(∀(i:Nat)(b:B),h0[i]?=some b->i∉r.rd->id∉eZ b)/\(∀w∈g.ct,w.1∉r.rd->id∉eZ w.2) /\
    ∀(k:Nat)(r':R)(x:I×List Nat),k<j->rs[k]?=some r'->q[k]?=some x->(∀d,x.1.d=some d->id∉eT r'.v)/\∀w∈r'.ws,w.1∉r.rd->id∉eZ w.2
theorem Ref.cons{C:Nat}{D:H}{x:I×List Nat}{q:List (I×List Nat)}{t t1 t':T}{a a1 a':H}{g:Lg}{rs:List R}(r:R)(fr:List Nat)(hr:Ref ow P C D q t1 a1 (g.put r.rd r.ws r.kl fr) rs t' a')(l:∀s,gs t1 s=gs (fk x.1.d r.v t) s)
  (m:∀p∈t,p∈t1) (F:∀d,x.1.d=some d->(d,r.v)∈t1) (M:ze ow P C x.1 t a r) (L:a1=wr a r) (N:N_ g x.2 r)
  (f:∀id∈r.kl,(∀p∈t,id∉eT p.2)/\(∀(i:Nat)(b:B),D[i]?=some b->i∉r.rd->id∉eZ b)/\∀w∈g.ct,w.1∉r.rd->id∉eZ w.2):Ref ow P C D (x::q) t a g (r::rs) t' a':=by
 refine⟨by simp[hr.r1],λs=>?_,λj y z=>?_,by rw[hr.r4,L];rfl,λj r' y z c=>?_,λj k r1 r2 y z f c J A=>?_,λj r1 z id hid=>?_⟩
 .rw[hr.r2 s];exact su _ _ _ _ l s
 .cases j with
  |zero=>simp at z;subst z;exact⟨r,rfl,M⟩
  |succ j=>
   have⟨u,g1,O⟩:=hr.r3 j y (by simpa using z);refine⟨u,by simpa using g1,?_⟩;simp only[dV,cG,ug,cQ];rw[<-L];exact ze.congr ow O λs _=>(su _ _ _ _ l s).symm
 .cases j with
  |zero=>simp at z c;subst z c;exact N
  |succ j=>exact(hr.r5 j r' y (by simpa using z) (by simpa using c)).put
 .cases k with
  |zero=>omega
  |succ k=>
   cases j with
   |zero=>
    simp at z;subst z;exact(hr.r5 k r2 y (by simpa using f) (by simpa using c)).Mn A
   |succ j=>
    have:=hr.r6 j k r1 r2 y (by simpa using z) (by simpa using f) (by simpa using c) (by omega) A;have e:(g.put r.rd r.ws r.kl fr).p=g.p+1:=rfl;rw[e]at this;have S:g.p+(j+1)=g.p+1+j:=by omega
    rw[S];exact this
 .cases j with
  |zero=>
   simp at z;subst z;have⟨k1,k2,k3⟩:=f id hid;exact⟨k1,k2,k3,λk r' x f=>by omega⟩
  |succ j=>
   have⟨k1,k2,k3,U⟩:=hr.r7 j r1 (by simpa using z) id hid;refine⟨λp V=>k1 p (m p V),k2,λw K=>k3 w (fI _ K),λk r' y J f c=>?_⟩;cases k with
   |zero=>
    simp at f c;subst f c;exact⟨λd hd=>k1 _ (F d hd),λw K=>k3 w (fW _ K)⟩
   |succ k=>exact U k r' y (by omega) (by simpa using f) (by simpa using c)
theorem tw{kl l:List Nat}:free kl l=true<->∀id∈kl,id∉l:=by
 simp only[free,aS,dF,o5];exact⟨λh id x y=>h id y (cK.2 x),λh id x y=>h id (cK.1 y) x⟩
theorem Pl {lo:Nat} {h0:H} {K:T→H→Prop}:∀(q:List (I×List Nat)) (t:T) (a:H) (g:Lg),rq (Sat P) ow lo h0 q t a g K→∃(rs:List R) (t':T) (a':H),K t' a'∧Ref ow P lo h0 q t a g rs t' a':=by
  intro q
  induction q with
  |nil=>intro t a g hk;exact⟨[],t,a,hk,rfl,λ_=>rfl,by simp,rfl,by simp,by simp,by simp⟩
  |cons x q ih=>
    intro t a g hk
    have fin:∀(r:R)(t1:T)(a1:H)(fr:List Nat),(∀s,gs t1 s=gs (fk x.1.d r.v t) s)->(∀p∈t,p∈t1)->(∀d,x.1.d=some d->(d,r.v)∈t1)->ze ow P lo x.1 t a r->a1=wr a r->N_ g x.2 r ->
        (∀id∈r.kl,(∀p∈t,id∉eT p.2)/\(∀(i:Nat)(b:B),h0[i]?=some b->i∉r.rd->id∉eZ b)/\∀w∈g.ct,w.1∉r.rd->id∉eZ w.2)->rq (Sat P) ow lo h0 q t1 a1 (g.put r.rd r.ws r.kl fr) K ->
        ∃(rs:List R)(t':T)(a':H),K t' a'/\Ref ow P lo h0 (x::q) t a g rs t' a':=by
      intro r t1 a1 fr ht1 hsub hin hv ha hc hkl hk
      have⟨rs,t',a',hK,hR⟩:=ih t1 a1 _ hk
      exact⟨r::rs,t',a',hK,Ref.cons ow r fr hR ht1 hsub hin hv ha hc hkl⟩
    have nokill:∀(r:R),r.kl=[]->(∀id∈r.kl,(∀p∈t,id∉eT p.2)/\(∀(i:Nat)(b:B),h0[i]?=some b->i∉r.rd->id∉eZ b)/\∀w∈g.ct,w.1∉r.rd->id∉eZ w.2):=by
      intro r hr id hid
      rw[hr]at hid
      cases hid
    have okn:∀(l:List (Nat×Nat))(bef:List Nat),ky l bef []=true:=λl bef=>pZ.2 λe _=>.inr (by simp)
    have nwok:∀{nf:List Nat},(nf.all λi=>Nat.ble lo i&&MA ((get? a i).getD .no))=true->∀i∈nf,lo<=i/\get? a i=some .nw:=λd3 i hi=>by
      have:=aS.1 d3 i hi
      simp only[aP]at this
      refine⟨bA this.1,?_⟩
      have h2:=this.2
      cases hh:get? a i with
      |none=>rw[hh]at h2;cases h2
      |some b=>rw[hh]at h2;cases b<;>first|rfl|cases h2
    have putin:∀(v:V)(t0:T)(d:Nat),x.1.d=some d->(d,v)∈fk x.1.d v t0:=by
      intro v t0 d hd
      rw[hd];simp[fk]
    have putsub:∀(v:V)(t0:T),∀p∈t0,p∈fk x.1.d v t0:=by
      intro v t0 p hp
      cases x.1.d with
      |none=>exact hp
      |some d=>simp[fk,hp]
    have quiet:∀(rd:List Nat)(v:V)(t0:T),(∀s,gs (fk x.1.d v t0) s=gs (fk x.1.d v t) s)->(∀p∈t,p∈t0)->w8 ow P x.1 t (yl rd a) v->ky g.lw x.2 rd=true->ky g.lk x.2 (eT v)=true->rq (Sat P) ow lo h0 q (fk x.1.d v t0) a (g.put rd [] [] g.fr) K->∃(rs:List R)(t':T)(a':H),K t' a'/\Ref ow P lo h0 (x::q) t a g rs t' a':=
      λrd v t0 ht0 hsub hv h1 h2 hk=>fin ⟨v,[],rd,[]⟩ _ a g.fr ht0 (λp hp=>putsub v t0 p (hsub p hp)) (λd hd=>putin v t0 d hd) (.inl ⟨rfl,rfl,hv⟩) rfl ⟨h1,okn _ _,okn _ _,by simpa[Nh]using h2⟩ (nokill _ rfl) hk
    have two:S8 (Sat P) ow x.1.o x (rq (Sat P) ow lo h0 q) t a g K->∃(rs:List R)(t':T)(a':H),K t' a'/\Ref ow P lo h0 (x::q) t a g rs t' a':=by
      intro hk
      unfold S8 at hk
      cases hg:x.1.g with
      |none=>
        rw[hg]at hk
        simp only[Rr,bf]at hk
        have⟨c1,hk⟩:=hk
        have⟨v,⟨c2,h1⟩,h2⟩:=GZ ow hk
        rw[fU]at h1
        exact quiet _ v t (λ_=>rfl) (λ_ h=>h) (by unfold w8;rw[hg];exact h2) c1 c2 h1
      |some p=>
        have⟨j,y⟩:=p
        rw[hg]at hk
        simp only at hk
        split at hk
        · rename_i b hb
          have kn:∀s,gs ((j,.d (.bool b))::t) s=gs t s:=xF hb
          have kp:∀v s,gs (fk x.1.d v ((j,.d (.bool b))::t)) s=gs (fk x.1.d v t) s:=λv s=>by rw[nv,nv,kn]
          have yes:b=y->Rr (Sat P) ow x.1.o x (rq (Sat P) ow lo h0 q) ((j,.d (.bool b))::t) a g K->∃(rs:List R)(t':T)(a':H),K t' a'/\Ref ow P lo h0 (x::q) t a g rs t' a':=by
            intro hby hk
            simp only[Rr,bf]at hk
            have⟨c1,hk⟩:=hk
            have⟨v,⟨c2,h1⟩,h2⟩:=GZ ow hk
            rw[fU]at h1
            refine quiet _ v _ (kp v) (λp hp=>by simp[hp]) ?_ c1 c2 h1
            unfold w8
            rw[hg]
            exact .inl ⟨b,hb,λ_=>Qt.congr ow h2 λs _=>(kn s).symm,λhn=>absurd hby hn⟩
          have no:b≠y->(ub x.1.d .ud ((j,.d (.bool b))::t) λt=>rq (Sat P) ow lo h0 q t a (g.put [] [] [] g.fr) K)->∃(rs:List R)(t':T)(a':H),K t' a'/\Ref ow P lo h0 (x::q) t a g rs t' a':=by
            intro hby hk
            rw[fU]at hk
            refine quiet [] .ud _ (kp .ud) (λp hp=>by simp[hp]) ?_ (okn _ _) (okn _ _) hk
            unfold w8
            rw[hg]
            exact .inl ⟨b,hb,λhn=>absurd hn hby,λ_=>rfl⟩
          cases b<;>cases y<;>simp only[sp,δ,ε]at hk
          · exact yes rfl hk
          · exact no (by simp) hk
          · exact no (by simp) hk
          · exact yes rfl hk
        · rename_i hb
          rw[fU]at hk
          exact quiet [] .ud _ (λ_=>rfl) (λ_ h=>h) (by unfold w8;rw[hg];exact .inr ⟨hb,rfl⟩) (okn _ _) (okn _ _) hk
        · exact hk.elim
    by_cases hal:∃cs,x.1.o=.al cs
    · have⟨cs,ho⟩:=hal
      simp only[n9,NV,ho]at hk
      split at hk
      · rename_i d id fr' hg hd hfr
        split at hk
        · rename_i hnw
          have⟨hcc,hk⟩:=hk
          rw[bf]at hk
          simp only[okW,aP]at hcc
          have⟨⟨c6,c4,c5⟩,c7⟩:=hcc
          have hx:x.1=⟨some d,.al cs,none⟩:=by
            cases hx1:x.1
            rw[hx1]at ho hg hd
            simp only at ho hg hd
            subst ho hg hd
            rfl
          exact fin ⟨.p id 0,[(id,.cells cs)],[],[]⟩ _ _ fr' (λs=>by rw[hd];rfl) (λp hp=>by simp[hp]) (λd' hd'=>by rw[hd]at hd';cases hd';simp) (.inr (.inr (.inl ⟨d,id,_,_,_,hx,hnw,bA c6,.inl ⟨cs,rfl,rfl,rfl⟩,rfl⟩))) rfl
            ⟨okn _ _,c4,c5,by simpa[Nh,eT,jJ,kI,ij]using c7⟩ (nokill _ rfl) hk
        · exact hk.elim
      · exact hk.elim
    by_cases hmm:∃pl,x.1.o=.mm pl
    · have⟨pl,ho⟩:=hmm
      simp only[n9,NV,ho]at hk
      split at hk
      · rename_i d id fr' hg hd hfr
        split at hk
        · rename_i hnw
          have⟨hcc,hk⟩:=hk
          rw[bf]at hk
          simp only[okW,aP]at hcc
          have⟨⟨c6,c4,c5⟩,c7⟩:=hcc
          have hx:x.1=⟨some d,.mm pl,none⟩:=by
            cases hx1:x.1
            rw[hx1]at ho hg hd
            simp only at ho hg hd
            subst ho hg hd
            rfl
          exact fin ⟨.mp id,[(id,KM pl)],[],[]⟩ _ _ fr' (λs=>by rw[hd];rfl) (λp hp=>by simp[hp]) (λd' hd'=>by rw[hd]at hd';cases hd';simp) (.inr (.inr (.inl ⟨d,id,_,_,_,hx,hnw,bA c6,.inr ⟨pl,rfl,rfl,rfl⟩,rfl⟩))) rfl
            ⟨okn _ _,c4,c5,by simpa[Nh,eT,jJ,kI,ij,MB]using c7⟩ (nokill _ rfl) hk
        · exact hk.elim
      · exact hk.elim
    by_cases hst:∃y v n,x.1.o=.st y v n
    · have⟨y,v,n,ho⟩:=hst
      simp only[n9,NV,ho]at hk
      split at hk
      · rename_i id off hg hd hy
        split at hk
        · rename_i cs hcs
          rw[bf]at hk
          have⟨⟨⟨c1,c2,c3⟩,c4⟩,hk⟩:=hk
          rw[bf]at hk
          simp only[okW,aP]at c4
          have hx:x.1=⟨none,.st y v n,none⟩:=by
            cases hx1:x.1
            rw[hx1]at ho hg hd
            simp only at ho hg hd
            subst ho hg hd
            rfl
          exact fin ⟨.ud,[(id,.cells (lay cs off (gv t v).cs))],[],[]⟩ t _ g.fr (λs=>by rw[hd];rfl) (λ_ h=>h) (λd' hd'=>by rw[hd]at hd';cases hd') (.inr (.inl ⟨y,v,n,id,off,cs,hx,hy,hcs,⟨c1,c2,c3⟩,rfl⟩)) rfl
            ⟨okn _ _,c4.1.1,c4.1.2,by simpa[Nh,eT,jJ,kI,ij]using c4.2⟩ (nokill _ rfl) hk
        · exact hk.elim
      · exact hk.elim
    by_cases hbs:∃z zero n parts,x.1.o=.bs z zero n parts
    · obtain ⟨z, zero, n, parts, ho⟩ := hbs
      simp only[n9,NV,ho]at hk
      rcases RZ hk with hk|hk
      · split at hk
        · rename_i d id fr' hg hd hfr
          split at hk
          · rename_i hnw
            rw[bf]at hk
            have⟨hc,hk⟩:=hk
            have⟨ds,hk,hfz⟩:=Nr _ _ hk
            rw[bf]at hk
            have⟨hcc,hk⟩:=hk
            rw[bf]at hk
            simp only[okW,aP]at hcc
            have⟨⟨c6,c4,c5⟩,c7⟩:=hcc
            have hx:x.1=⟨some d,.bs z zero n parts,none⟩:=by
              cases hx1:x.1
              rw[hx1]at ho hg hd
              simp only at ho hg hd
              subst ho hg hd
              rfl
            exact fin ⟨.os id,[(id,.rows z (chunk z n ds))],[],[]⟩ _ _ fr' (λs=>by rw[hd];rfl) (λp hp=>by simp[hp]) (λd' hd'=>by rw[hd]at hd';cases hd';simp) (.inr (.inr (.inr (.inr (.inr (.inr ⟨d,id,z,zero,n,parts,ds,hx,hnw,bA c6,hc,hfz,rfl⟩)))))) rfl
              ⟨okn _ _,c4,c5,by simpa[Nh,eT,jJ,kI,ij,eZ]using c7⟩ (nokill _ rfl) hk
          · exact hk.elim
        · exact hk.elim
      · exact two (by rw[ho];exact hk)
    by_cases hcf:∃f args,x.1.o=.cf f args
    · obtain ⟨f, args, ho⟩ := hcf
      simp only[n9,NV,ho]at hk
      rcases Jj hk with hk|hk
      · exact two (by rw[ho];exact hk)
      rcases Jj hk with hk|hk|hk
      · unfold kZ at hk
        split at hk
        · rename_i hg
          simp only[bf]at hk
          have⟨hof,hch,r0,ns,hS,⟨c1,c2,c3⟩,hk⟩:=hk
          rw[fU]at hk
          simp only[aP,okW]at hch c1 c2 c3
          have⟨⟨⟨d1,d2⟩,d3⟩,d4⟩:=c1
          have⟨⟨e1,e2,e3⟩,e4⟩:=c2
          have⟨⟨f1,f2⟩,f3⟩:=c3
          have hlen:=kH d1
          refine fin ⟨_,_,_,_⟩ _ _ (g.fr.drop ns.length) (λ_=>rfl) (putsub _ t) (putin _ t) (.inr (.inr (.inr (.inl ⟨f,args,_,r0,ns,_,hg,ho,hof,rfl,hch.1,gD.1 hch.2,hS,hlen,(dF _).mp d2,λi hi=>?_,iH d4,rfl⟩)))) rfl ⟨e1,?_,?_,e4⟩ (λid hid=>⟨λp hp=>?_,λi b hb hi=>?_,λw hw hi=>?_⟩) hk
          · have:=aS.1 d3 i hi
            simp only[aP]at this
            refine⟨bA this.1,?_⟩
            have h2:=this.2
            cases hh:get? a i with
            |none=>rw[hh]at h2;cases h2
            |some b=>rw[hh]at h2;cases b<;>first|rfl|cases h2
          · have e:kJ ⟨gS (gm (reach a 100 ((args.map λx=>cH (gv t x)).flatMap eT) []) (g.fr.take ns.length)) r0,(g.fr.take ns.length).zip (ns.map (eR (gm (reach a 100 ((args.map λx=>cH (gv t x)).flatMap eT) []) (g.fr.take ns.length)))),reach a 100 ((args.map λx=>cH (gv t x)).flatMap eT) [],rowsOf a (reach a 100 ((args.map λx=>cH (gv t x)).flatMap eT) [])⟩=g.fr.take ns.length:=dr (by rw[aH];omega)
            rw[e];exact e2
          · have e:kJ ⟨gS (gm (reach a 100 ((args.map λx=>cH (gv t x)).flatMap eT) []) (g.fr.take ns.length)) r0,(g.fr.take ns.length).zip (ns.map (eR (gm (reach a 100 ((args.map λx=>cH (gv t x)).flatMap eT) []) (g.fr.take ns.length)))),reach a 100 ((args.map λx=>cH (gv t x)).flatMap eT) [],rowsOf a (reach a 100 ((args.map λx=>cH (gv t x)).flatMap eT) [])⟩=g.fr.take ns.length:=dr (by rw[aH];omega)
            rw[e];exact e3
          · simp only[Wn,cI,gD,aS]at f1
            rcases f1 with f1|f1
            · rw[f1]at hid;cases hid
            · exact tw.1 (f1 p hp) id hid
          · simp only[jb,cI,gD,aS]at f2
            rcases f2 with f2|f2
            · rw[f2]at hid;cases hid
            · rcases f2 (b,i) (by rw[List.mem_zipIdx_iff_getElem?];exact hb)with f2|f2
              · exact absurd (cK.1 f2) hi
              · exact tw.1 f2 id hid
          · simp only[XH,cI,gD,aS]at f3
            rcases f3 with f3|f3
            · rw[f3]at hid;cases hid
            · rcases f3 w hw with f3|f3
              · exact absurd (cK.1 f3) hi
              · exact tw.1 f3 id hid
        · exact hk.elim
      · unfold VW at hk
        split at hk
        · rename_i hg
          simp only[bf]at hk
          have⟨hof,r0,ns,hS,⟨c1,c2⟩,hk⟩:=hk
          rw[fU]at hk
          simp only[aP,okW]at c1 c2
          have⟨⟨⟨⟨d1,d2⟩,d3⟩,d4⟩,d5⟩:=c1
          have⟨⟨e1,e2,e3⟩,e4⟩:=c2
          have hlen:=kH d1
          have e:kJ ⟨gS (λk=>(get? (g.fr.take ns.length) k).getD 0) r0,(g.fr.take ns.length).zip ns,(args.map λx=>cH (gv t x)).flatMap eT,[]⟩=g.fr.take ns.length:=dr (by omega)
          have e0:∀w∈(g.fr.take ns.length).zip ns,eZ w.2=[]:=λw hw=>by
            have h1:=aS.1 d4 w.2 (List.of_mem_zip hw).2
            generalize w.2=b at h1
            cases b<;>first|rfl|cases h1
          refine fin ⟨_,_,_,_⟩ _ _ (g.fr.drop ns.length) (λ_=>rfl) (putsub _ t) (putin _ t) (.inr (.inr (.inr (.inr (.inl ⟨f,args,r0,ns,_,hg,ho,hof,hS,hlen,d4,d5,nwok d2,iH d3,rfl⟩))))) rfl ⟨e1,by rw[e];exact e2,by rw[e];exact e3,?_⟩ (nokill _ rfl) hk
          have e5:((g.fr.take ns.length).zip ns).flatMap (λw=>eZ w.2)=[]:=br.2 e0
          simp only[Nh,e5,cV]
          exact e4
        · exact hk.elim
      · unfold Up at hk
        split at hk
        · rename_i hg
          simp only[bf]at hk
          have⟨r0,ns,hS,⟨c1,c2⟩,hk⟩:=hk
          rw[fU]at hk
          simp only[aP,okW]at c1 c2
          have⟨⟨⟨⟨⟨d0,d00⟩,d1⟩,d2⟩,d3⟩,d4⟩:=c1
          have⟨⟨e1,e2,e3⟩,e4⟩:=c2
          have hlen:=kH d1
          generalize hids:(args.map λx=>cH (gv t x)).flatMap eT=ids at *
          have e:kJ ⟨gS (gt ids.length (g.fr.take ns.length)) r0,(ids.map λi=>(i,B.no))++(g.fr.take ns.length).zip (ns.map (eR (gt ids.length (g.fr.take ns.length)))),ids,[]⟩=ids++g.fr.take ns.length:=AD hlen
          refine fin ⟨_,_,_,_⟩ _ _ (g.fr.drop ns.length) (λ_=>rfl) (putsub _ t) (putin _ t) (.inr (.inr (.inr (.inr (.inr (.inl ⟨f,args,r0,ns,_,ids,hg,ho,hids,⟨iH d0,λi hi=>?_⟩,hS,hlen,λk hk=>?_,nwok d2,iH d3,rfl⟩)))))) rfl ⟨e1,by rw[e];exact e2,by rw[e];exact e3,e4⟩ (nokill _ rfl) hk
          · have h2:=aS.1 d00 i hi
            cases hh:get? a i with
            |none=>rw[hh]at h2;cases h2
            |some b=>rw[hh]at h2;cases b<;>first|exact⟨_,_,rfl⟩|cases h2
          · exact bA (aS.1 d4 k hk)
        · exact hk.elim
    · refine two ?_
      rw[n9]at hk
      unfold NV at hk
      split at hk
      · exact absurd ⟨_,‹_›⟩ hal
      · exact absurd ⟨_,‹_›⟩ hmm
      · exact absurd ⟨_,_,_,‹_›⟩ hst
      · exact absurd ⟨_,_,_,_,‹_›⟩ hbs
      · exact absurd ⟨_,_,‹_›⟩ hcf
      · exact hk
end
end Go.Vx
