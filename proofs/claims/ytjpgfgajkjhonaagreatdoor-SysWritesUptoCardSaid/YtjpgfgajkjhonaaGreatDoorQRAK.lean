/- Lemmas. Conditions: none. -/
import Derived.Test.YtjpgfgajkjhonaaGreatDoorQRAJ
namespace Go.Vx
section
variable{P:Program}{E:gL}{n:Nat}{G:Nat->Prop}{ρ:List Value}{t:T}{h:H}{a:Act}{w:World}{o:Oper}{bV:Act->World->Prop}{Q:Exit->Act->World->Prop}{K KP:V->T->H->Prop}
variable(ow:Nat->Bool)
theorem yR{P:Program}{u:Option Operand}{z:Option O}(h:(match u with|none=>some none|some x=>(cX P 0 x).map some)=some z):(u=none/\z=none)\/∃y oy ty',u=some y/\z=some oy/\cX P ty' y=some oy:=by
 cases u with
 |none=>grind
 |some y=>
  simp only[aG]at h
  grind
theorem lK{α β:Type}{f:α->Option β}:∀{l:List α}{r:List β},l.mapM f=some r->r.length=l.length/\∀(k:Nat)(x:α)(y:β),l[k]?=some x->r[k]?=some y->f x=some y:=by
 intro l
 induction l with
 |nil=>grind
 |cons x l z=>
  intro r h;simp only[iU,aI,aD,jK,aE]at h
  grind
theorem Bv(s:ByteArray)(l u:Nat):(s.extract l u).data.toList=(s.data.toList.take u).drop l:=by
 rw[ByteArray.data_extract,Array.toList_extract];rw[List.extract_eq_take_drop];rw[List.drop_take]
theorem Sw(D:ak E n G ρ t h a w)(U:iQ E n a o K bV){ty t1:TypeId}{x:Operand}{f I:Option Operand}{ox:O}{b c:Option O}(F:o.op=.slice ty x f I none)(e:P.underlying ty=some .string)
  (W:cX P t1 x=some ox) (J:(f=none/\b=none)\/∃y oy ty',f=some y/\b=some oy/\cX P ty' y=some oy) (p:(I=none/\c=none)\/∃y oy ty',I=some y/\c=some oy/\cX P ty' y=some oy)
  (z:bq (Sat P) ow (.ss ox b c) t h K KP):o.wp P a w bV Q:=by
 have q:=bG D W;have m:∀l:Int,(∃k,(match b with|some f=>gv t f|none=>.d (.int .i64 0))=.d (.int k l))->(f=none/\l=0)\/∃y k,f=some y/\a.eval y=.int k l:=by
  rintro l ⟨k,hl⟩
  rcases J with⟨L,g⟩|⟨y,oy,ty',L,g,X⟩
  grind
  .subst g;have:=bG D X;simp only at hl;rw[hl]at this;exact .inr ⟨y,k,L,this.int⟩
 have fin:∀(r:List UInt8)(l u:Int),gv t ox=.d (.str r)->0<=l->l<=u->u<=r.length->K (.d (.str ((r.take u.toNat).drop l.toNat))) t h ->
   (∀s:ByteArray,a.eval x=.string s->s.size=r.length->(execOp a.eval o).run P w=.ok (.value (.string (s.extract l.toNat u.toNat))) w)->o.wp P a w bV Q:=by
  intro r l u A h0 L g z B;rw[A]at q;obtain⟨s,i,rfl,Y⟩:=q.str;refine an D U (B s i (lF s)) (.d ?_) z;rw[<-Bv];refine .str _ (aV ?_ Y);rw[lF,Bv,lF]
  grind
 simp only[bq]at z;split at z
 .rename_i kl l hl;have m:=m l ⟨kl,hl⟩;rcases p with⟨rfl,_⟩|⟨_,_,_,_,g,_⟩
  rotate_left
  grind
  split at z
  .rename_i r A;have⟨⟨g1,M⟩,z⟩:=z;refine fin r l r.length A g1 M (eV _) (by simp_all) (λs i hs=>?_);rw[Int.toNat_natCast,<-hs];rcases m with⟨rfl,rfl⟩|⟨y,k,rfl,N⟩
   .simp[execOp,F,i,run_sliceAt_string w ty _ _ _ _ e,Instr.slice,run_underlying e,Instr.sliceBounds]
   .have j:=run_sliceBound (P:=P) w k l s.size .sliceB g1 (by grind);simp[execOp,F,i,N,run_sliceAt_string w ty _ _ _ _ e,Instr.slice,run_underlying e,Instr.sliceBounds,j]
  grind
 .rename_i kl l c hl;have m:=m l ⟨kl,hl⟩;rcases p with⟨_,g⟩|⟨yh,Z,tyh,rfl,g,R⟩
  grind
  cases g;split at z
  .rename_i ku u S;have v:=bG D R;rw[S]at v;have v:=v.int;split at z
   .rename_i r A;have⟨⟨g1,M,g3⟩,z⟩:=z;refine fin r l u A g1 M g3 z (λs i hs=>?_);have C:=run_sliceBound (P:=P) w ku u s.size .sliceAlen (by omega) (by grind);have hun:(u.toNat:Int)=u:=Int.toNat_of_nonneg (by omega);rcases m with⟨rfl,rfl⟩|⟨y,k,rfl,N⟩
    .simp[execOp,F,i,v,run_sliceAt_string w ty _ _ _ _ e,Instr.slice,run_underlying e,Instr.sliceBounds,C]
    .have j:=run_sliceBound (P:=P) w k l u.toNat .sliceB g1 (by omega);simp[execOp,F,i,v,N,run_sliceAt_string w ty _ _ _ _ e,Instr.slice,run_underlying e,Instr.sliceBounds,C,j]
   grind
  grind
 grind
theorem kj{α:Type}{a:Array α}{l:List α}(h:a.toList=l):a=l.toArray:=by grind
theorem ou(B:ak E n G ρ t h a w)(D:iQ E n a o K bV)(hp:SE E n a KP Q){x:X}(g:fj P o.type o.op=some x\/x=.bad)(A:bq (Sat P) ow x t h K KP):o.wp P a w bV Q:=by
 rcases g with g|rfl
 case inr=>exact A.elim
 cases C:o.op<;>rw[C]at g<;>simp only[fj]at g<;>try (cases g;done)
 case move y=>
  split at g
  .cases g;simp only[bq,bf,cZ]at A;exact Gf B D (.inl C) A
  .simp only[aG]at g;obtain⟨oy,j,rfl⟩:=g;exact N7 B D (.inl C) j A
 case assign y=>
  split at g
  .cases g;simp only[bq,bf,cZ]at A;exact Gf B D (.inr C) A
  .simp only[aG]at g;obtain⟨oy,j,rfl⟩:=g;exact N7 B D (.inr C) j A
 case pick c y z=>
  simp only[aI,aD,aE]at g;obtain⟨W,J,oy,j,L,F,rfl⟩:=g;simp only[bq]at A;split at A
  .exact TA B D C J j F ‹_› A
  grind
 case alloc ty=>
  have al:(rM P ty).map X.al=some x->o.wp P a w bV Q:=λg=>by
   simp only[aG]at g;obtain⟨zs,F,rfl⟩:=g;simp only[bq,bf,cZ]at A;exact T5 B D C F A
  split at g
  .split at g
   .rename_i m e I hm;simp only[aI,aD]at g;have⟨zs,F,g⟩:=g;split at g
    .split at g
     .rename_i d r J;simp only[aP,χ]at J hm;cases g;simp only[bq,bf,cZ]at A;exact T7 B D C F J.1 hm.2 J.2 A
     grind
    grind
   grind
  grind
 case box ty y=>
  simp only[aG]at g;obtain⟨oy,j,rfl⟩:=g;simp only[bq,bf,cZ]at A;exact T1 B D C j A
 case build ty ps=>
  split at g
  .rename_i fs I;simp only[aI,aD,aE]at g;obtain⟨pl,hpl,qs,Y,zs,F,rfl⟩:=g;have⟨g1,g2⟩:=lK Y;refine T3 (Sat P) ow B D C I hpl F ⟨by grind,λk p q hp hq=>?_⟩ A;have:=g2 k p q (by grind) hq;simp only[aD,aE]at this
   grind
  grind
 case buildSlice ty m ps=>
  split at g
  .rename_i e I;simp only[aI,aD]at g;have⟨qs,Y,zs,F,g⟩:=g;split at g
   .rename_i J;cases g;simp only[aP,χ,gD]at J;obtain⟨⟨⟨rfl,hq0⟩,_⟩,_⟩:=J;subst hq0;have⟨g1,_⟩:=lK Y;have hps:ps=#[]:=kv (by grind);subst hps;exact TC (Sat P) ow B D C I F A
   .split at g
    grind
    .rename_i J;cases g;simp only[cI,χ,bne_iff_ne,ne_eq,not_or,kF]at J;have⟨⟨⟨c1,c2⟩,c3⟩,c4⟩:=J;have⟨g1,g2⟩:=lK Y;refine T2 (Sat P) ow B D C I F c4 c1 (by omega) c3 ⟨by grind,λk p q hp hq=>?_⟩ A;have:=g2 k p q (by grind) hq;simp only[aD,aE]at this
     grind
  grind
 case load ty y=>
  have ld:(do some (X.ld (<-cX P ty y) (<-uj P ty)))=some x->o.wp P a w bV Q:=λg=>by
   simp only[aI,aD,aE]at g;obtain⟨oy,j,m,hm,rfl⟩:=g;exact TN (Sat P) ow B D C j hm A
  split at g
  .split at g
   .split at g
    .simp only[aI,aD]at g;have⟨k,hl,oy,j,g⟩:=g;split at g
     .rename_i hkm;subst hkm;cases g;exact TO (Sat P) ow B D C j hl A
     grind
    grind
   grind
  grind
 case store ty y z=>
  simp only[aI,aD,aE]at g;obtain⟨oy,j,L,F,m,hm,rfl⟩:=g;exact Sv (Sat P) ow B D C j F hm A
 case fieldAddr ty y f=>
  split at g
  .rename_i fs I;simp only[aI,aD]at g;have⟨fd,U,g⟩:=g;split at g
   grind
   .rename_i F;simp only[aD,aE]at g;obtain⟨oy,j,rfl⟩:=g;exact TU (Sat P) ow B D C I U F j A
  grind
 case indexAddr ty y z=>
  split at g
  .rename_i e I;split at g
   grind
   .rename_i J;simp only[aI,aD,aE]at g;obtain⟨oy,j,L,F,rfl⟩:=g;exact TT (Sat P) ow B D C I J j F A
  .rename_i m e I;split at g
   grind
   .rename_i J;split at g
    .split at g
     .rename_i hc1;simp only[aI,aD,aE]at g;obtain⟨oy,j,L,F,rfl⟩:=g;exact TP (Sat P) ow B D C I hc1 j F A
     grind
    .simp only[aI,aD,aE]at g;obtain⟨oy,j,L,F,rfl⟩:=g;exact TQ (Sat P) ow B D C I J j F A
  grind
 case makeMap ty r=>
  cases r with
  |some r=>grind
  |none=>
   simp only at g
   repeat' split at g
   all_goals first
    |(cases g;done)
    |(cases g;exact TG (Sat P) ow B D C A)
 case range ty y=>
  split at g
  .rename_i kt e I;simp only[aG]at g;obtain⟨oy,j,rfl⟩:=g;exact Sz (Sat P) ow B D C I j A
  grind
 case next y b=>
  cases b with
  |true=>grind
  |false=>
   simp only[aG]at g;obtain⟨oy,j,rfl⟩:=g;exact TB (Sat P) ow B D C j A
 case entry y=>
  simp only[aG]at g;obtain⟨oy,j,rfl⟩:=g;exact TW (Sat P) ow B D C j A
 case lookup ty y k ok=>
  split at g
  .rename_i kt e I;simp only[aI,aD,aE]at g;obtain⟨oy,j,L,F,ks,M,zv,hzv,rfl⟩:=g;exact TH (Sat P) ow B D C I j F M hzv A
  grind
 case mapUpdate ty y k v=>
  split at g
  .rename_i kt e I;simp only[aI,aD,aE]at g;obtain⟨oy,j,L,F,ov,hv,ks,M,rfl⟩:=g;exact N8 (Sat P) ow B D (.inl C) I j F hv M A
  grind
 case insert ty y k v=>
  split at g
  .rename_i kt e I;simp only[aI,aD,aE]at g;obtain⟨oy,j,L,F,ov,hv,ks,M,rfl⟩:=g;exact N8 (Sat P) ow B D (.inr C) I j F hv M A
  grind
 case binOp b ty y z u=>
  split at g
  .simp only[aI,aD,aE]at g;obtain⟨oy,j,L,F,rfl⟩:=g;exact Gk (Sat P) ow B D C j F A
  .rename_i e I;split at g
   .rename_i y;simp only[aG]at g;obtain⟨oy,j,rfl⟩:=g;exact N6 (Sat P) ow B D (ne:=false) C I j A
   .rename_i y;simp only[aG]at g;obtain⟨oy,j,rfl⟩:=g;exact N6 (Sat P) ow B D (ne:=true) C I j A
   grind
  .rename_i ms I;split at g
   .simp only[aG]at g;obtain⟨oy,j,rfl⟩:=g;exact tB (Sat P) ow B D j (N2 B (ne:=false) C I j) A
   .simp only[aG]at g;obtain⟨oy,j,rfl⟩:=g;exact tB (Sat P) ow B D j (N2 B (ne:=true) C I j) A
   grind
  .rename_i e I;split at g
   .simp only[aG]at g;obtain⟨oy,j,rfl⟩:=g;exact tB (Sat P) ow B D j (N1 B (ne:=false) C I j) A
   .simp only[aG]at g;obtain⟨oy,j,rfl⟩:=g;exact tB (Sat P) ow B D j (N1 B (ne:=true) C I j) A
   grind
  .rename_i Z _ _ _;split at g
   .split at g
    .simp only[aI,aD,aE]at g;obtain⟨oy,j,L,F,rfl⟩:=g;exact Gk (Sat P) ow B D C j F A
    grind
   .split at g
    grind
    .rename_i hg;simp only[aI,aD,aE]at g;obtain⟨ks,U,st,ha,oy,j,L,F,rfl⟩:=g;exact Na (Sat P) ow B D (ne:=false) C j F (λk e=>Z k e) (by grind) U ha A
   .split at g
    grind
    .rename_i hg;simp only[aI,aD,aE]at g;obtain⟨ks,U,st,ha,oy,j,L,F,rfl⟩:=g;exact Na (Sat P) ow B D (ne:=true) C j F (λk e=>Z k e) (by grind) U ha A
   grind
 case unOp u ty y=>
  simp only[aI,aD,aE]at g;obtain⟨oy,j,rfl⟩:=g;exact Su (Sat P) ow B D C j A
 case convert s d y=>
  split at g
  .rename_i hs hd;simp only[aG]at g;obtain⟨oy,j,rfl⟩:=g;exact TX (Sat P) ow B D C hs hd j A
  .rename_i e hs hd;split at g
   .rename_i he;simp only[aG]at g;obtain⟨oy,j,rfl⟩:=g;exact Sx (Sat P) ow B D C hs he hd j A
   grind
  grind
 case slice ty y lo hi m=>
  simp only[aI]at g;split at g
  .rename_i e I;split at g
   grind
   .rename_i J;simp only[aD,aE]at g;obtain⟨oy,j,olo,hlo,ohi,hhi,om,hm,rfl⟩:=g;exact Sy (Sat P) ow B D C I J j (yR hlo) (yR hhi) (yR hm) A
  .rename_i I;split at g
   .simp only[aD,aE]at g;obtain⟨oy,j,olo,hlo,ohi,hhi,rfl⟩:=g;exact Sw ow B D C I j (yR hlo) (yR hhi) A
   grind
  grind
 case nilCheck y=>
  simp only[aG]at g;obtain⟨oy,j,rfl⟩:=g;exact TD (Sat P) ow B D C j A
 case index ty y i=>
  split at g
  .rename_i I;simp only[aI,aD,aE]at g;obtain⟨oy,j,L,F,rfl⟩:=g;exact TR (Sat P) ow B D C I j F A
  .rename_i m e I;split at g
   .rename_i J;simp only[aP,χ]at J;simp only[aI,aD,aE]at g;obtain⟨oy,j,L,F,rfl⟩:=g;exact T6 (Sat P) ow B D C I J.1 J.2 j F A
   grind
  grind
 case extract y i=>
  simp only[aI,aD,aE]at g;obtain⟨oy,j,rfl⟩:=g;exact TV (Sat P) ow B D C j A
 case makeInterface ty y=>
  split at g
  grind
  .rename_i u Z I;simp only[aI,aD]at g;have⟨ag,_,g⟩:=g;split at g
   .rename_i hty;simp only[aD,aE]at g;obtain⟨oy,j,rfl⟩:=g;exact tB (Sat P) ow B D j (Sj B C (λms h=>by grind) I hty j) A
   grind
  grind
 case typeAssert y xt ty ok=>
  split at g
  grind
  .rename_i u Z I;simp only[aI,aD]at g;have⟨ag,_,g⟩:=g;split at g
   .rename_i hty;simp only[aD,aE]at g;obtain⟨zv,F,oy,j,rfl⟩:=g;exact tB (Sat P) ow B D j (Si B C (λms h=>by grind) I hty F j) A
   grind
  grind
 case field ty y f=>
  split at g
  .rename_i fs I;simp only[aI,aD,aE]at g;obtain⟨fd,U,m,hl,oy,j,rfl⟩:=g;exact tB (Sat P) ow B D j (Sk B C I U hl j) A
  grind
 case panic y=>
  simp only[aG]at g;obtain⟨oy,j,rfl⟩:=g;exact S_ (Sat P) ow B hp C j A
 case makeSlice ty l c=>
  split at g
  .rename_i e I;simp only[aI,aD]at g;have⟨zs,F,ds,hd,i,hi,g⟩:=g;split at g
   grind
   .rename_i J;simp only[aD,aE]at g;obtain⟨ol,hl,W,N,rfl⟩:=g;simp only[ne_eq,cI,χ,not_or,kF]at J;exact TI (Sat P) ow B D C I F hd hi J.1 hl N A
  grind
 case makeFunc fn first caps=>
  cases fn<;>simp only at g<;>try (cases g;done)
  rename_i f;have key:∀(xs:List Operand)(W:List O),args P xs []=some W->W.length=xs.length/\∀(i:Nat)(x:O),W[i]?=some x->∃y ty,xs[i]?=some y/\cX P ty y=some x:=by
   intro xs
   induction xs with
   |nil=>intro W h;simp only[args]at h;grind
   |cons x xs ih=>
    intro W h;simp only[args,aI,aD]at h
    grind
  split at g
  .rename_i U;split at g
   .rename_i hfirst;rw[aG]at g;obtain⟨W,N,rfl⟩:=g;simp only[bq,bf]at A;have⟨g1,g2⟩:=key _ _ N;exact N9 B D C U (.inl ⟨rfl,kv hfirst,rfl⟩) ⟨by grind,λi x hi=>by grind⟩ A
   .split at g
    .rename_i hcap;rw[aG]at g;obtain⟨W,N,rfl⟩:=g;simp only[bq,bf]at A;have⟨g1,g2⟩:=key _ _ N;exact N9 B D C U (.inr ⟨rfl,kv hcap,rfl⟩) ⟨by grind,λi x hi=>by grind⟩ A
    grind
  grind
 case call c=>
  have⟨callee,as,ts⟩:=c;cases callee with
  |value f=>
   cases f<;>simp only at g
   case func f=>
    split at g
    .rename_i hlt;simp only[aG]at g;obtain⟨oa,ha,rfl⟩:=g;exact TY ow B D hp hlt C rfl ha A
    grind
   all_goals
    simp only[aI,aD,aE]at g;obtain⟨oy,j,oa,ha,rfl⟩:=g;exact TZ ow B D hp C rfl j ha A
  |invoke r m=>grind
  |builtin b=>
   cases b<;>simp only at g<;>try (cases g;done)
   case len=>
    split at g
    .rename_i y u R h2;have S:=kj R;have e2:=kj h2;subst S e2;split at g
     .simp only[aG]at g;obtain⟨oy,j,rfl⟩:=g;exact TL (Sat P) ow B D C ‹_› j A
     .simp only[aG]at g;obtain⟨oy,j,rfl⟩:=g;exact TM (Sat P) ow B D C ‹_› j A
     .simp only[aG]at g;obtain⟨oy,j,rfl⟩:=g;exact TK (Sat P) ow B D C ‹_› j A
     grind
    grind
   case delete=>
    split at g
    .rename_i y z u v R h2;have S:=kj R;have e2:=kj h2;subst S e2;split at g
     .rename_i kt e I;simp only[aI,aD,aE]at g;obtain⟨oy,j,L,F,ks,M,rfl⟩:=g;exact TJ (Sat P) ow B D C I j F M A
     grind
    grind
   case clear=>
    split at g
    .rename_i y u R h2;have S:=kj R;have e2:=kj h2;subst S e2;split at g
     .rename_i e I;simp only[aI,aD]at g;have⟨zs,F,ds,hd,g⟩:=g;split at g
      grind
      .rename_i J;simp only[aD,aE]at g;obtain⟨oy,j,rfl⟩:=g;simp only[ne_eq,cI,χ,not_or,kF]at J;exact QN (Sat P) ow B D C I F hd J.1 J.2 j A
     grind
    grind
   case min=>
    split at g
    .rename_i y z R;have S:=kj R;subst S;simp only[aI,aD,aE]at g;obtain⟨oy,j,L,F,rfl⟩:=g;exact TF (Sat P) ow B D C j F A
    grind
   case max=>
    split at g
    .rename_i y z R;have S:=kj R;subst S;simp only[aI,aD,aE]at g;obtain⟨oy,j,L,F,rfl⟩:=g;exact TE (Sat P) ow B D C j F A
    grind
   case append=>
    split at g
    .rename_i y z u v R h2;have S:=kj R;have e2:=kj h2;subst S e2;split at g
     .rename_i e _ I hv;simp only[aI,aD]at g;have⟨zs,F,g⟩:=g;split at g
      grind
      .rename_i J;simp only[aD,aE,aG]at g;obtain⟨oy,j,L,hoz,by_,⟨i,hi,rfl⟩,rfl⟩:=g;have hci:P.cellsOf e=i.size:=by simp[Program.cellsOf,hi]
       simp only[ne_eq,cI,χ,not_or,kF]at J;rw[hci]at A;exact T4 (Sat P) ow B D C I hv hi F (by grind) j hoz A
     grind
    grind
end
section
variable{P:Program}{E:gL}{n:Nat}{G:Nat->Prop}{ρ:List Value}{t t':T}{h:H}{a:Act}{w:World}{o:Oper}{bV:Act->World->Prop}{Q:Exit->Act->World->Prop}{K:Ex->T->H->Prop}
variable(ow:Nat->Bool)
theorem ak.congr(x:ak E n G ρ t h a w)(y:∀i,gs t' i=gs t i):ak E n G ρ t' h a w:=
 ⟨x.ok,x.df,x.sz,λi=>by rw[y i];exact x.tm i⟩
def fk(d:Option Nat)(v:V)(t:T):T:=
 match d with
 |some i=>(i,v)::t
 |none=>t
theorem fU(d:Option Nat)(v:V)(t:T)(K:T->Prop):ub d v t K=K (fk d v t):=by
 rw[Rg];cases d<;>rfl
theorem ak.fk(y:ak E n G ρ t h a w)(d:Option Nat){v:Value}{x:V}(hd:∀i,d=some i->i<n)(hr:au G w ρ v x):ak E n G ρ (Vx.fk d x t) h (a.put d v) w:=by
 have:=y.put d hd hr;cases d<;>exact this
theorem xF{j:Nat}{v:V}(x:gs t j=v)(i:Nat):gs ((j,v)::t) i=gs t i:=by
 simp only[gI]
 by_cases e:j=i
 .subst e;simp[x]
 .rw[fm e];rfl
theorem nO{ops:Array Oper}{i:I}(u:oY P n ops o=some i):(fj P o.type o.op=some i.o\/i.o=.bad)/\i.d=o.dst/\(∀k,o.dst=some k->k<n) /\
  (match o.guard with|none=>i.g=none|some (j,x)=>∃d,(ops[j]?).bind (·.dst)=some d/\i.g=some (d,x)):=by
 simp only[oY,aI]at u;have f:∀y,(fj P o.type o.op).getD .bad=y->fj P o.type o.op=some y\/y=.bad:=λy b=>by
  cases l:fj P o.type o.op with
  |none=>rw[l]at b;exact .inr b.symm
  |some z=>rw[l]at b;exact .inl (κ some b)
 split at u
 .cases u
 .rename_i hd;have v:∀k,o.dst=some k->k<n:=λk m=>by
   simp only[m,bo,dF,Bool.not_eq_false]at hd;exact(fH ..).mp hd
  split at u
  .cases u;rename_i c;exact⟨f _ rfl,rfl,v,by rw[c]⟩
  .rename_i c;simp only[aD]at u;have⟨d,e,u⟩:=u;cases u;refine⟨f _ rfl,rfl,v,?_⟩;rw[c];exact⟨d,aD.2 e,rfl⟩
theorem mT(u:ak E n G ρ t h a w){ops:Array Oper}{j d:Nat}{x b:Bool}(c:o.guard=some (j,x))(hd:(ops[j]?).bind (·.dst)=some d)(e:gs t d=.d (.bool b)) :
  Region.wanted o (yielded ops a.tmps)=(b==x):=by
 have y:=(e ▸ u.tm d).bool;have f:a.tmps[d]?=some (.bool b):=by
  rw[aF]at y;cases z:a.tmps[d]? with
  |none=>rw[z]at y;cases y
  |some v=>rw[z]at y;exact κ some y
 simp only[Region.wanted,c,yielded,hd,Option.bind_some,f];cases b<;>cases x<;>rfl
theorem qL(z:ak E n G ρ t h a w){ops:Array Oper}{j d:Nat}{x:Bool}(b:o.guard=some (j,x))(hd:(ops[j]?).bind (·.dst)=some d)(e:gs t d=.ud) :
  Region.wanted o (yielded ops a.tmps)=false:=by
 have y:a.tmps.getD d undef=undef:=by
  have:=e ▸ z.tm d;generalize a.tmps.getD d undef=u at this;cases this with|o k=>cases k with|c k=>cases k with|k k=>cases k with
   |ud=>rfl
 simp only[Region.wanted,b,yielded,hd,Option.bind_some];rw[aF]at y;cases f:a.tmps[d]? with
 |none=>rfl
 |some v=>rw[f]at y;simp only[bo]at y;subst y;rfl
def PQ(E:gL)(n:Nat)(K:Ex->T->H->Prop)(Q:Exit->Act->World->Prop):Prop:=
 ∀(a:Act)(w:World)(G:Nat->Prop)(ρ:List Value)(t:T)(h:H)(v:V)(v':Value),ak E n G ρ t h a w->au G w ρ v' v->K (.fg v) t h->Q (.panic [{v:=v',recovered:=false}]) a w
theorem A0:au G w ρ undef .ud:=.k .ud
theorem rp(c:ak E n G ρ t h a w){ops:Array Oper}{i:I}(C:oY P n ops o=some i){r:List I}(y:rx (Sat P) ow (i::r) t h K)
  (l:∀(a':Act)(w':World)(G':Nat->Prop)(ρ':List Value)(t':T)(m:H),ak E n G' ρ' t' m a' w'->rx (Sat P) ow r t' m K->bV a' w') (D:PQ E n K Q) :
  if Region.wanted o (yielded ops a.tmps)then o.wp P a w bV Q else bV (a.put o.dst undef) w:=by
 have⟨F,hd,q,g⟩:=nO C;have run:∀{t:T},ak E n G ρ t h a w->bq (Sat P) ow i.o t h (λv t h=>ub i.d v t λt=>rx (Sat P) ow r t h K) (λv t h=>K (.fg v) t h)->o.wp P a w bV Q:=by
  intro t c y;refine ou ow c (λv' w' G' ρ' t' m v k B e=>?_) (λv' w' G' ρ' t' m v k B e=>D a w' G' ρ' t' m v v' k B e) F y;rw[fU,hd]at e;exact l _ _ _ _ _ _ (k.fk o.dst q B) e
 have z:∀{t:T},ak E n G ρ t h a w->(ub i.d .ud t λt=>rx (Sat P) ow r t h K)->bV (a.put o.dst undef) w:=by
  intro t c y;rw[fU,hd]at y;exact l _ _ _ _ _ _ (c.fk o.dst q A0) y
 cases u:o.guard with
 |none=>
  rw[u]at g;simp only at g;simp only[By,Bz,g]at y;rw[ζ (by simp[Region.wanted,u])];exact run c y
 |some p=>
  have⟨j,x⟩:=p;rw[u]at g;have⟨d,s,g⟩:=g;simp only[By,Bz,g]at y;split at y
  .rename_i b A;rw[mT c u s A];have f:=c.congr (xF A);cases b<;>cases x<;>simp only[sp,δ,ε]at y<;>simp only[BEq.rfl,if_true,cj,ψ,ξ,reduceCtorEq]
   .exact run f y
   .exact z f y
   .exact z f y
   .exact run f y
  .rename_i A;rw[qL c u s A];exact z c y
  .exact y.elim
def QK(E:gL)(n:Nat)(K:Ex->T->H->Prop)(e:Exit)(a:Act)(w:World):Prop:=
  ∃(G:Nat→Prop) (ρ:List Value) (t:T) (h:H),ak E n G ρ t h a w∧match e with
    |.normal=>K .p7 t h
    |.exit id=>K (.ext id) t h
    |.ret=>K .ret t h
    |.panic ch=>∃v v',ch=[{v:=v',recovered:=false}]/\au G w ρ v' v/\K (.fg v) t h
    |_=>False
theorem PQ.qk:PQ E n K (QK E n K):=λ_ _ G ρ t h v v' x y z=>⟨G,ρ,t,h,x,v,v',rfl,y,z⟩
theorem Pv{ops:Array Oper}:∀(os:List Oper)(is:List I),os.mapM (oY P n ops)=some is->∀(G:Nat->Prop)(ρ:List Value)(t:T)(h:H)(a:Act)(w:World),ak E n G ρ t h a w ->
  rx (Sat P) ow is t h K->wpList P ops (QK E n K) os a w:=by
 intro os
 induction os with
 |nil=>
  intro is x G ρ t h a w hC hk;simp at x;subst x;exact wpList_nil ⟨G,ρ,t,h,hC,hk⟩
 |cons o os v=>
  intro is x G ρ t h a w hC hk;simp only[iU,aI,aD,jK,aE]at x;obtain⟨i,b,r,hr,rfl⟩:=x;exact wpList_step λK' y=>rp ow hC b hk (λa' w' G' ρ' t' c z u=>y _ _ (v r hr G' ρ' t' c a' w' z u)) PQ.qk
end
section
variable{P:Program}{t t':T}{h:H}{K:V->Prop}(ow:Nat->Bool)
theorem eE{x:O}(y:∀s∈qw x,gs t' s=gs t s):gv t' x=gv t x:=by
 cases x with
 |s i=>exact y i (by simp[qw])
 |g i=>rfl
 |k v=>cases v<;>rfl
theorem Nr:∀(cs:List V)(K:List D->T->H->Prop),BP cs [] [] K->∃ds,K ds [] []/\∀(t:T)(h:H)(K':List D->T->H->Prop),K' ds t h->BP cs t h K':=by
 intro cs
 induction cs with
 |nil=>intro K y;exact⟨[],y,λt h K' y=>y⟩
 |cons x r e=>
  intro K y;cases x<;>(try simp only[iP,tv]at y)<;>try (exact y.elim)
  case d x=>
   have⟨ds,v,b⟩:=e _ y;exact⟨x::ds,v,λt h K' u=>by simp only[iP,tv];exact b t h _ u⟩
  case cl z rs=>
   have⟨ds,v,b⟩:=e _ y;exact⟨.sl z rs::ds,v,λt h K' u=>by simp only[iP,tv];exact b t h _ u⟩
  case fc f c=>
   cases c with
   |cons i c=>
    replace y:(match vp (i::c) with
     |some ds=>BP r [] [] λxs t h=>K (.fc f ds::xs) t h
     |none=>False):=y
    cases g:vp (i::c) with
    |none=>rw[g]at y;exact y.elim
    |some cd=>
     rw[g]at y;have⟨ds,v,b⟩:=e _ y;exact⟨.fc f cd::ds,v,λt h K' u=>by simp only[iP,tv,g];exact b t h _ u⟩
   |nil=>
   replace y:BP r [] [] (λxs t h=>K (.fn f::xs) t h):=y
   have⟨ds,v,b⟩:=e _ y;exact⟨.fn f::ds,v,λt h K' u=>by simp only[iP,tv];exact b t h _ u⟩
theorem xH{α β:Type}{f g:β->α->β}:∀(l:List α)(b:β),(∀x∈l,∀b,f b x=g b x)->l.foldl f b=l.foldl g b:=by
 intro l
 induction l with
 |nil=>intro b _;rfl
 |cons x l u=>intro b z;simp only[cQ];rw[z x (by simp),u _ (λy v=>z y (by simp[v]))]
theorem DR{α:Type}{f g:α->Bool}:∀(l:List α),(∀x∈l,f x=g x)->l.all f=l.all g:=by
 intro l
 induction l with
 |nil=>intro _;rfl
 |cons x l u=>intro z;simp only[lA];rw[z x (by simp),u (λy v=>z y (by simp[v]))]
def NH(x h:H):Prop:=∀(i:Nat)(b:B),get? h i=some b->b≠.no->get? x i=some b
def Qt(P:Program)(x:X)(t:T)(h:H)(v:V):Prop:=
 ∀(t':T)(y:H),(∀s∈bU x,gs t' s=gs t s)->NH y h->bq (Sat P) ow x t' y (λv' z u=>v'=v/\z=t'/\u=y) (λ_ _ _=>False)
theorem GZ {x:X} (hq:qx (Sat P) ow x t h K):∃v,K v∧Qt ow P x t h v:=by
  cases x<;>simp only[qx]at hq<;>try (exact hq.elim)
  case mv x=>
    refine⟨_,hq,λt' _ ht _=>?_⟩
    simp only[bq,eE (x:=x) ht,true_and]
  case pk c x y=>
    simp only[bq]at hq
    split at hq
    · rename_i b hb
      cases b
      · refine⟨_,hq,λt' _ ht _=>?_⟩
        simp only[bU,aR]at ht
        simp only[bq,eE (x:=c) (λs hs=>ht s (.inl (.inl hs))),eE (x:=y) (λs hs=>ht s (.inr hs)),hb,sp,true_and]
      · refine⟨_,hq,λt' _ ht _=>?_⟩
        simp only[bU,aR]at ht
        simp only[bq,eE (x:=c) (λs hs=>ht s (.inl (.inl hs))),eE (x:=x) (λs hs=>ht s (.inl (.inr hs))),hb,sp,true_and]
    · exact hq.elim
  case bd zero ps=>
    simp only[bq,bf]at hq
    refine⟨_,hq.2,λt' _ ht _=>?_⟩
    have hg:∀p∈ps,gv t' p.2.2=gv t p.2.2:=λp hp=>eE λs hs=>ht s (by simp only[bU,aO];exact⟨p,hp,hs⟩)
    simp only[bq,bf]
    rw[xH (f:=λcs(p:Nat×Nat×O)=>lay cs p.1 (gv t' p.2.2).cs) (g:=λcs p=>lay cs p.1 (gv t p.2.2).cs) ps zero (λp hp b=>by rw[hg p hp]),
      DR (g:=λp=>Nat.beq (gv t p.2.2).cs.length p.2.1&&Nat.ble (p.1+p.2.1) zero.length&&(gv t p.2.2).cs.all fA) ps (λp hp=>by rw[hg p hp])]
    exact⟨hq.1,by simp only[ν]⟩
  case bs z zero n ps=>
    simp only[bf]at hq
    obtain⟨h1,h2⟩:=hq
    obtain⟨ds,h3,h4⟩:=Nr _ _ h2
    refine⟨_,h3,λt' _ ht _=>?_⟩
    have hg:∀p∈ps,gv t' p.2=gv t p.2:=λp hp=>eE λs hs=>ht s (by simp only[bU,aO];exact⟨p,hp,hs⟩)
    simp only[bq,bf]
    rw[xH (f:=λcs(p:Nat×O)=>lay cs (p.1*z) (gv t' p.2).cs) (g:=λcs p=>lay cs (p.1*z) (gv t p.2).cs) ps _ (λp hp b=>by rw[hg p hp]),
      DR (g:=λp=>Nat.beq (gv t p.2).cs.length z&&Nat.ble (p.1*z+z) (n*z)&&(gv t p.2).cs.all fA) ps (λp hp=>by rw[hg p hp])]
    exact⟨h1,h4 _ _ _ (zM (by simp only[ν]))⟩
  case ld x nn=>
    have e1:∀t':T,(∀s∈bU (.ld x nn),gs t' s=gs t s)->gv t' x=gv t x:=λt' ht=>eE λs hs=>ht s (by simp[bU,hs])
    simp only[bq,bf]at hq
    split at hq
    · rename_i id off hx
      split at hq
      · rename_i cs hg
        split at hq
        · split at hq
          · rename_i v hv
            exact⟨_,hq,λt' _ ht hM=>by simp only[bq,e1 t' ht,hx,hM _ _ hg (by simp),hv,ν]⟩
          · exact hq.elim
        · exact⟨_,hq.2,λt' _ ht hM=>by simp only[bq,bf,e1 t' ht,hx,hM _ _ hg (by simp),ν];exact⟨hq.1,trivial⟩⟩
      · exact hq.elim
    · rename_i row off hx
      split at hq
      · split at hq
        · rename_i v hv
          exact⟨_,hq,λt' _ ht _=>by simp only[bq,e1 t' ht,hx,hv,ν]⟩
        · exact hq.elim
      · exact⟨_,hq.2,λt' _ ht _=>by simp only[bq,bf,e1 t' ht,hx,ν];exact⟨hq.1,trivial⟩⟩
    · rename_i id z i off hx
      split at hq
      · rename_i z' rs hg
        obtain⟨hz,row,hr,hq⟩:=hq
        split at hq
        · split at hq
          · rename_i v hv
            exact⟨_,hq,λt' _ ht hM=>by simp only[bq,e1 t' ht,hx,hM _ _ hg (by simp)];exact⟨hz,row,hr,by simp only[hv,ν]⟩⟩
          · exact hq.elim
        · exact⟨_,hq.2,λt' _ ht hM=>by simp only[bq,bf,e1 t' ht,hx,hM _ _ hg (by simp)];exact⟨hz,row,hr,hq.1,by simp only[ν]⟩⟩
      · rename_i z' rs i' row hg
        obtain⟨hz,hq⟩:=hq
        split at hq
        · split at hq
          · rename_i v hv
            exact⟨_,hq,λt' _ ht hM=>by simp only[bq,e1 t' ht,hx,hM _ _ hg (by simp)];exact⟨hz,by simp only[hv,ν]⟩⟩
          · exact hq.elim
        · exact hq.elim
      · exact hq.elim
    · exact hq.elim
  case fa x off=>
    have e1:∀t':T,(∀s∈bU (.fa x off),gs t' s=gs t s)->gv t' x=gv t x:=λt' ht=>eE λs hs=>ht s (by simp[bU,hs])
    simp only[bq,cZ]at hq
    revert hq
    (repeat' split)<;>intro hq<;>(try (exact hq.elim))
    all_goals exact⟨_,hq,λt' _ ht _=>by simp only[bq,cZ,e1 t' ht, *,ν]⟩
  case ia x i z=>
    have e1:∀t':T,(∀s∈bU (.ia x i z),gs t' s=gs t s)->gv t' x=gv t x:=λt' ht=>eE λs hs=>ht s (by simp[bU,hs])
    have e2:∀t':T,(∀s∈bU (.ia x i z),gs t' s=gs t s)->gv t' i=gv t i:=λt' ht=>eE λs hs=>ht s (by simp[bU,hs])
    simp only[bq]at hq
    split at hq
    · rename_i k nn hi
      split at hq
      · rename_i z' rows hx
        obtain⟨row,h1,h2⟩:=hq
        exact⟨_,h2,λt' _ ht _=>by simp only[bq,e1 t' ht,e2 t' ht,hx,hi];exact⟨row,h1,by simp only[ν]⟩⟩
      · rename_i z' rows hx
        obtain⟨row,h1,h2⟩:=hq
        exact⟨_,h2,λt' _ ht _=>by simp only[bq,e1 t' ht,e2 t' ht,hx,hi];exact⟨row,h1,by simp only[ν]⟩⟩
      · rename_i id hx
        split at hq
        · rename_i z' rs hg
          exact⟨_,hq.2,λt' _ ht hM=>by simp only[bq,e1 t' ht,e2 t' ht,hx,hi,hM _ _ hg (by simp)];exact⟨hq.1,by simp only[ν]⟩⟩
        · exact hq.elim
      · exact hq.elim
    · exact hq.elim
  case ja x i z m=>
    have e1:∀t':T,(∀s∈bU (.ja x i z m),gs t' s=gs t s)->gv t' x=gv t x:=λt' ht=>eE λs hs=>ht s (by simp[bU,hs])
    have e2:∀t':T,(∀s∈bU (.ja x i z m),gs t' s=gs t s)->gv t' i=gv t i:=λt' ht=>eE λs hs=>ht s (by simp[bU,hs])
    simp only[bq,cZ]at hq
    split at hq
    · rename_i k nn hi
      split at hq
      · rename_i row off hx
        obtain⟨sub,h1,h2⟩:=hq
        exact⟨_,h2,λt' _ ht _=>by simp only[bq,e1 t' ht,e2 t' ht,hx,hi];exact⟨sub,h1,by simp only[ν]⟩⟩
      · rename_i id off hx
        exact⟨_,hq.2,λt' _ ht _=>by simp only[bq,cZ,e1 t' ht,e2 t' ht,hx,hi];exact⟨hq.1,by simp only[ν]⟩⟩
      · exact hq.elim
    · exact hq.elim
  case ml x k ks zv ok=>
    have e1:∀t':T,(∀s∈bU (.ml x k ks zv ok),gs t' s=gs t s)->gv t' x=gv t x:=λt' ht=>eE λs hs=>ht s (by simp[bU,hs])
    have e2:∀t':T,(∀s∈bU (.ml x k ks zv ok),gs t' s=gs t s)->gv t' k=gv t k:=λt' ht=>eE λs hs=>ht s (by simp[bU,hs])
    cases hms:Qn h (gv t x)
    case true=>rw[hms]at hq;exact hq.elim
    rw[hms]at hq
    simp only[ε,bq]at hq
    split at hq
    · rename_i id hx
      split at hq
      · rename_i es hg
        obtain⟨h1,r,h2,h3⟩:=hq
        cases r with
        |none=>exact⟨_,h3,λt' _ ht hM=>by simp only[bq,e1 t' ht,e2 t' ht,hx,hM _ _ hg (by simp)];exact⟨h1,none,h2,by simp only[ν]⟩⟩
        |some p=>exact⟨_,h3.2,λt' _ ht hM=>by simp only[bq,e1 t' ht,e2 t' ht,hx,hM _ _ hg (by simp)];exact⟨h1,some p,h2,h3.1,by simp only[ν]⟩⟩
      · rename_i es hg
        obtain⟨h1,r,h2,h3⟩:=hq
        cases r with
        |none=>exact⟨_,h3,λt' _ ht hM=>by simp only[bq,e1 t' ht,e2 t' ht,hx,hM _ _ hg (by simp)];exact⟨h1,none,h2,by simp only[ν]⟩⟩
        |some p=>exact⟨_,h3.2,λt' _ ht hM=>by simp only[bq,e1 t' ht,e2 t' ht,hx,hM _ _ hg (by simp)];exact⟨h1,some p,h2,h3.1,by simp only[ν]⟩⟩
      · rename_i es r l hg
        obtain⟨h1,r,h2,h3⟩:=hq
        cases r with
        |none=>exact⟨_,h3,λt' _ ht hM=>by simp only[bq,e1 t' ht,e2 t' ht,hx,hM _ _ hg (by simp)];exact⟨h1,none,h2,by simp only[ν]⟩⟩
        |some p=>exact⟨_,h3.2,λt' _ ht hM=>by simp only[bq,e1 t' ht,e2 t' ht,hx,hM _ _ hg (by simp)];exact⟨h1,some p,h2,h3.1,by simp only[ν]⟩⟩
      · rename_i hg
        simp only[Qn,hx,hg]at hms
        cases hms
      · exact hq.elim
    · rename_i hx
      exact⟨_,hq.2,λt' _ ht _=>by simp only[bq,e1 t' ht,e2 t' ht,hx];exact⟨hq.1,by simp only[ν]⟩⟩
    · exact hq.elim
  case pu f x=>
    have e1:∀t':T,(∀s∈bU (.pu f x),gs t' s=gs t s)->gv t' x=gv t x:=λt' ht=>eE λs hs=>ht s (by simp[bU,hs])
    simp only[bq]at hq
    split at hq
    · rename_i v hv
      exact⟨_,hq,λt' _ ht _=>by simp only[bq,e1 t' ht,hv,ν]⟩
    · exact hq.elim
  case lm x=>
    have e1:∀t':T,(∀s∈bU (.lm x),gs t' s=gs t s)->gv t' x=gv t x:=λt' ht=>eE λs hs=>ht s (by simp[bU,hs])
    simp only[bq]at hq
    split at hq
    · rename_i id hx
      split at hq
      · rename_i es hg
        exact⟨_,hq,λt' _ ht hM=>by simp only[bq,e1 t' ht,hx,hM _ _ hg (by simp),ν]⟩
      · rename_i es hg
        exact⟨_,hq,λt' _ ht hM=>by simp only[bq,e1 t' ht,hx,hM _ _ hg (by simp),ν]⟩
      · rename_i hg
        exact⟨_,hq,λt' _ ht hM=>by simp only[bq,e1 t' ht,hx,hM _ _ hg (by simp),ν]⟩
      · rename_i hg
        exact⟨_,hq,λt' _ ht hM=>by simp only[bq,e1 t' ht,hx,hM _ _ hg (by simp),ν]⟩
      · exact hq.elim
    · rename_i hx
      exact⟨_,hq,λt' _ ht _=>by simp only[bq,e1 t' ht,hx,ν]⟩
    · exact hq.elim
  case bin op x y=>
    have e1:∀t':T,(∀s∈bU (.bin op x y),gs t' s=gs t s)->gv t' x=gv t x:=λt' ht=>eE λs hs=>ht s (by simp[bU,hs])
    have e2:∀t':T,(∀s∈bU (.bin op x y),gs t' s=gs t s)->gv t' y=gv t y:=λt' ht=>eE λs hs=>ht s (by simp[bU,hs])
    simp only[bq]at hq
    split at hq
    · rename_i aa bb hx hy
      split at hq
      · exact⟨_,hq.2,λt' _ ht _=>by simp only[bq,e1 t' ht,e2 t' ht,hx,hy];exact⟨hq.1,by simp only[ν]⟩⟩
      · exact hq.elim
    · rename_i k aa k' bb hx hy
      cases hsh:S5 op
      rotate_left
      · rw[hsh]at hq
        simp only[δ]at hq
        exact⟨_,hq.2,λt' _ ht _=>by simp only[bq,e1 t' ht,e2 t' ht,hx,hy,hsh,δ];exact⟨hq.1,by simp only[ν]⟩⟩
      rw[hsh]at hq
      simp only[ε]at hq
      cases hk:Nat.beq (kn k) (kn k')
      · rw[hk]at hq;exact hq.elim
      · rw[hk]at hq
        simp only[δ]at hq
        split at hq<;>(try (exact hq.elim))
        · rcases hq with hq|hq
          · exact⟨_,hq.2,λt' _ ht _=>by simp only[bq,e1 t' ht,e2 t' ht,hx,hy,hsh,ε,hk,δ,xX];exact .inl ⟨hq.1,by simp only[ν]⟩⟩
          · exact⟨_,hq,λt' _ ht _=>by simp only[bq,e1 t' ht,e2 t' ht,hx,hy,hsh,ε,hk,δ,xX];exact .inr (by simp only[ν])⟩
        · rcases hq with hq|hq
          · exact⟨_,hq.2,λt' _ ht _=>by simp only[bq,e1 t' ht,e2 t' ht,hx,hy,hsh,ε,hk,δ,xX];exact .inl ⟨hq.1,by simp only[ν]⟩⟩
          · exact⟨_,hq,λt' _ ht _=>by simp only[bq,e1 t' ht,e2 t' ht,hx,hy,hsh,ε,hk,δ,xX];exact .inr (by simp only[ν])⟩
        · rcases hq with hq|hq
          · exact⟨_,hq.2,λt' _ ht _=>by simp only[bq,e1 t' ht,e2 t' ht,hx,hy,hsh,ε,hk,δ,xX];exact .inl ⟨hq.1,by simp only[ν]⟩⟩
          · exact⟨_,hq,λt' _ ht _=>by simp only[bq,e1 t' ht,e2 t' ht,hx,hy,hsh,ε,hk,δ,xX];exact .inr (by simp only[ν])⟩
        · obtain⟨h0,hq⟩:=hq
          rcases hq with hq|hq
          · exact⟨_,hq.2,λt' _ ht _=>by simp only[bq,e1 t' ht,e2 t' ht,hx,hy,hsh,ε,hk,δ,xX];exact⟨h0,.inl ⟨hq.1,by simp only[ν]⟩⟩⟩
          · exact⟨_,hq,λt' _ ht _=>by simp only[bq,e1 t' ht,e2 t' ht,hx,hy,hsh,ε,hk,δ,xX];exact⟨h0,.inr (by simp only[ν])⟩⟩
        · exact⟨_,hq.2,λt' _ ht _=>by simp only[bq,e1 t' ht,e2 t' ht,hx,hy,hsh,ε,hk,δ];exact⟨hq.1,by simp only[ν]⟩⟩
        all_goals exact⟨_,hq,λt' _ ht _=>by simp only[bq,e1 t' ht,e2 t' ht,hx,hy,hsh,ε,hk,δ,ν]⟩
    · exact hq.elim
  case eq ne st ks x y=>
    have e1:∀t':T,(∀s∈bU (.eq ne st ks x y),gs t' s=gs t s)->gv t' x=gv t x:=λt' ht=>eE λs hs=>ht s (by simp[bU,hs])
    have e2:∀t':T,(∀s∈bU (.eq ne st ks x y),gs t' s=gs t s)->gv t' y=gv t y:=λt' ht=>eE λs hs=>ht s (by simp[bU,hs])
    simp only[bq]at hq
    obtain⟨h1,hq⟩:=hq
    unfold UK at hq
    split at hq
    · rename_i e he
      exact⟨_,hq,λt' _ ht _=>by simp only[bq,e1 t' ht,e2 t' ht,UK,he,ν,ω];exact h1⟩
    · exact hq.elim
  case un op x=>
    have e1:∀t':T,(∀s∈bU (.un op x),gs t' s=gs t s)->gv t' x=gv t x:=λt' ht=>eE λs hs=>ht s (by simp[bU,hs])
    simp only[bq]at hq
    split at hq
    · rename_i b hx
      exact⟨_,hq,λt' _ ht _=>by simp only[bq,e1 t' ht,hx,ν]⟩
    · rename_i k aa hx
      rcases hq with hq|hq
      · exact⟨_,hq.2,λt' _ ht _=>by simp only[bq,e1 t' ht,hx,xX];exact .inl ⟨hq.1,by simp only[ν]⟩⟩
      · exact⟨_,hq,λt' _ ht _=>by simp only[bq,e1 t' ht,hx,xX];exact .inr (by simp only[ν])⟩
    · exact hq.elim
  case cv k x=>
    have e1:∀t':T,(∀s∈bU (.cv k x),gs t' s=gs t s)->gv t' x=gv t x:=λt' ht=>eE λs hs=>ht s (by simp[bU,hs])
    simp only[bq]at hq
    split at hq
    · rename_i k' aa hx
      rcases hq with hq|hq
      · exact⟨_,hq.2,λt' _ ht _=>by simp only[bq,e1 t' ht,hx,xX];exact .inl ⟨hq.1,by simp only[ν]⟩⟩
      · exact⟨_,hq,λt' _ ht _=>by simp only[bq,e1 t' ht,hx,xX];exact .inr (by simp only[ν])⟩
    · exact hq.elim
  case ln x=>
    have e1:∀t':T,(∀s∈bU (.ln x),gs t' s=gs t s)->gv t' x=gv t x:=λt' ht=>eE λs hs=>ht s (by simp[bU,hs])
    split at hq
    · rename_i z r hx
      exact⟨_,hq,λt' _ ht _=>by simp only[bq,e1 t' ht,hx];exact λ_=>by simp only[ν]⟩
    · rename_i z r hx
      exact⟨_,hq,λt' _ ht _=>by simp only[bq,e1 t' ht,hx];exact λ_=>by simp only[ν]⟩
    · rename_i id hx
      split at hq
      · rename_i z r hg
        exact⟨_,hq,λt' _ ht hM=>by simp only[bq,e1 t' ht,hx,hM _ _ hg (by simp)];exact λ_=>by simp only[ν]⟩
      · exact hq.elim
    · exact hq.elim
  case ls x=>
    have e1:∀t':T,(∀s∈bU (.ls x),gs t' s=gs t s)->gv t' x=gv t x:=λt' ht=>eE λs hs=>ht s (by simp[bU,hs])
    split at hq
    · rename_i r hx
      exact⟨_,hq,λt' _ ht _=>by simp only[bq,e1 t' ht,hx];exact λ_=>by simp only[ν]⟩
    · exact hq.elim
  case mn x y=>
    have e1:∀t':T,(∀s∈bU (.mn x y),gs t' s=gs t s)->gv t' x=gv t x:=λt' ht=>eE λs hs=>ht s (by simp[bU,hs])
    have e2:∀t':T,(∀s∈bU (.mn x y),gs t' s=gs t s)->gv t' y=gv t y:=λt' ht=>eE λs hs=>ht s (by simp[bU,hs])
    simp only[bq]at hq
    split at hq
    · rename_i k aa k' bb hx hy
      exact⟨_,hq,λt' _ ht _=>by simp only[bq,e1 t' ht,e2 t' ht,hx,hy,ν]⟩
    · exact hq.elim
  case mx x y=>
    have e1:∀t':T,(∀s∈bU (.mx x y),gs t' s=gs t s)->gv t' x=gv t x:=λt' ht=>eE λs hs=>ht s (by simp[bU,hs])
    have e2:∀t':T,(∀s∈bU (.mx x y),gs t' s=gs t s)->gv t' y=gv t y:=λt' ht=>eE λs hs=>ht s (by simp[bU,hs])
    simp only[bq]at hq
    split at hq
    · rename_i k aa k' bb hx hy
      exact⟨_,hq,λt' _ ht _=>by simp only[bq,e1 t' ht,e2 t' ht,hx,hy,ν]⟩
    · exact hq.elim
  case ex x i=>
    have e1:∀t':T,(∀s∈bU (.ex x i),gs t' s=gs t s)->gv t' x=gv t x:=λt' ht=>eE λs hs=>ht s (by simp[bU,hs])
    simp only[bq]at hq
    revert hq
    (repeat' split)<;>intro hq<;>(try (exact hq.elim))
    all_goals exact⟨_,hq,λt' _ ht _=>by simp only[bq,e1 t' ht, *,ν]⟩
  case nc x=>
    have e1:∀t':T,(∀s∈bU (.nc x),gs t' s=gs t s)->gv t' x=gv t x:=λt' ht=>eE λs hs=>ht s (by simp[bU,hs])
    simp only[bq]at hq
    revert hq
    (repeat' split)<;>intro hq<;>(try (exact hq.elim))
    all_goals first
      |exact⟨_,hq,λt' _ ht _=>by simp only[bq,e1 t' ht, *,ν]⟩
      | (rename_i f c hg
         cases hb:Nat.blt f 2000000<;>rw[hb]at hq
         · exact hq.elim
         · exact⟨_,hq,λt' _ ht _=>by simp only[bq,e1 t' ht,hg,hb,δ,ν]⟩)
  case ix x i=>
    have e1:∀t':T,(∀s∈bU (.ix x i),gs t' s=gs t s)->gv t' x=gv t x:=λt' ht=>eE λs hs=>ht s (by simp[bU,hs])
    have e2:∀t':T,(∀s∈bU (.ix x i),gs t' s=gs t s)->gv t' i=gv t i:=λt' ht=>eE λs hs=>ht s (by simp[bU,hs])
    simp only[bq]at hq
    split at hq
    · rename_i s k m hx hi
      obtain⟨b,h1,h2⟩:=hq
      exact⟨_,h2,λt' _ ht _=>by simp only[bq,e1 t' ht,e2 t' ht,hx,hi];exact⟨b,h1,by simp only[ν]⟩⟩
    · exact hq.elim
  case mf f caps=>
    simp only[bq,bf]at hq
    refine⟨_,hq.2,λt' _ ht _=>?_⟩
    have hg:∀p∈caps,gv t' p=gv t p:=λp hp=>eE λs hs=>ht s (by simp only[bU,aO];exact⟨p,hp,hs⟩)
    simp only[bq,bf]
    rw[aZ hg,DR (g:=λx=>uI (gv t x)) caps (λp hp=>by rw[hg p hp])]
    exact⟨hq.1,by simp only[ν]⟩
  case cf f args=>
    simp only[bf]at hq
    obtain⟨h0,r,h2,h3⟩:=hq
    refine⟨r,h3,λt' h1 ht _=>?_⟩
    have hg:∀p∈args,cH (gv t' p)=cH (gv t p):=λp hp=>by rw[eE λs hs=>ht s (by simp only[bU,aO];exact⟨p,hp,hs⟩)]
    simp only[bq,bf]
    rw[aZ hg]
    have h4:=gD.1 h0
    have h6:qA (Sat P) f (args.map λa=>cH (gv t a)) t' h1 (λv' t'' h'=>v'=r/\t''=t'/\h'=h1) (λ_ _ _=>False):=by
      simp only[qA,h4]
      exact h2.mono λo h' ⟨g1,g2⟩=>by subst g1 g2;simp only[ν]
    cases ow f
    · simp only[px,h4,ε]
      exact h6
    · exact h6
  case ap x y z b=>
    have e1:∀t':T,(∀s∈bU (.ap x y z b),gs t' s=gs t s)->KL t' x=KL t x:=λt' ht=>by
      have:=eE (t:=t) (t':=t') (x:=x) λs hs=>ht s (by simp[bU,hs])
      cases x with
      |s i=>exact this
      |g i=>exact this
      |k v=>cases v<;>first|exact this|rfl
    have e2:∀t':T,(∀s∈bU (.ap x y z b),gs t' s=gs t s)->gv t' y=gv t y:=λt' ht=>eE λs hs=>ht s (by simp[bU,hs])
    split at hq
    · rename_i z' r hx
      have eg:KL t (.k (.cl z' r))=.cl z' r:=rfl
      simp only[bq,eg]at hq
      split at hq
      · rename_i z'' ys hy
        exact⟨_,hq.2,λt' _ ht _=>by simp only[bq,e1 t' ht,e2 t' ht,hx,hy];exact⟨hq.1,by simp only[ν]⟩⟩
      · rename_i z'' ys hy
        exact⟨_,hq.2,λt' _ ht _=>by simp only[bq,e1 t' ht,e2 t' ht,hx,hy];exact⟨hq.1,by simp only[ν]⟩⟩
      · exact hq.elim
    · rename_i z0 hx
      split at hq
      · rename_i z'' ys hy
        exact⟨_,hq.2,λt' _ ht _=>by simp only[bq,e1 t' ht,e2 t' ht,hx,hy];exact⟨hq.1,uR (by simp only[ν])⟩⟩
      · rename_i z'' ys hy
        exact⟨_,hq.2,λt' _ ht _=>by simp only[bq,e1 t' ht,e2 t' ht,hx,hy];exact⟨hq.1,uR (by simp only[ν])⟩⟩
      · exact hq.elim
    · exact hq.elim
  case ss x lo hi=>
    have e1:∀t':T,(∀s∈bU (.ss x lo hi),gs t' s=gs t s)->gv t' x=gv t x:=λt' ht=>eE λs hs=>ht s (by simp[bU,hs])
    have e2:∀t':T,(∀s∈bU (.ss x lo hi),gs t' s=gs t s)->∀u,lo=some u->gv t' u=gv t u:=λt' ht u hu=>eE λs hs=>ht s (by simp[bU,KG,hs,hu])
    have e3:∀t':T,(∀s∈bU (.ss x lo hi),gs t' s=gs t s)->∀u,hi=some u->gv t' u=gv t u:=λt' ht u hu=>eE λs hs=>ht s (by simp[bU,KG,hs,hu])
    cases lo with
    |none=>
      simp only[bq]at hq
      split at hq
      · rename_i k l hl
        cases hl
        split at hq
        · rename_i r hx
          exact⟨_,hq.2,λt' _ ht _=>by simp only[bq,e1 t' ht,hx];exact⟨hq.1,by simp only[ν]⟩⟩
        · exact hq.elim
      · rename_i k l hi hl
        cases hl
        split at hq
        · rename_i k' u hu
          split at hq
          · rename_i r hx
            exact⟨_,hq.2,λt' _ ht _=>by simp only[bq,e1 t' ht,e3 t' ht _ rfl,hu,hx];exact⟨hq.1,by simp only[ν]⟩⟩
          · exact hq.elim
        · exact hq.elim
      · exact hq.elim
    |some lo=>
      simp only[bq]at hq
      split at hq
      · rename_i k l hl
        split at hq
        · rename_i r hx
          exact⟨_,hq.2,λt' _ ht _=>by simp only[bq,e1 t' ht,e2 t' ht _ rfl,hl,hx];exact⟨hq.1,by simp only[ν]⟩⟩
        · exact hq.elim
      · rename_i k l hi hl
        split at hq
        · rename_i k' u hu
          split at hq
          · rename_i r hx
            exact⟨_,hq.2,λt' _ ht _=>by simp only[bq,e1 t' ht,e2 t' ht _ rfl,e3 t' ht _ rfl,hl,hu,hx];exact⟨hq.1,by simp only[ν]⟩⟩
          · exact hq.elim
        · exact hq.elim
      · exact hq.elim
  case s3 x lo hi m z=>
    replace hq:(∀i,gv t x≠.os i)/\bq (Sat P) ow (.s3 x lo hi m z) t h (λv _ _=>K v) λ_ _ _=>False:=by
      split at hq
      · exact hq.elim
      · rename_i hno
        exact⟨hno,hq⟩
    obtain⟨hno,hq⟩:=hq
    have hno':∀i,dv (gv t x)≠.os i:=λi hi=>by
      cases hg:gv t x<;>rw[hg]at hi<;>simp only[dv,reduceCtorEq,V.os.injEq]at hi
      subst hi
      exact hno _ hg
    have e1:∀t':T,(∀s∈bU (.s3 x lo hi m z),gs t' s=gs t s)->gv t' x=gv t x:=λt' ht=>eE λs hs=>ht s (by simp[bU,hs])
    have e2:∀t':T,(∀s∈bU (.s3 x lo hi m z),gs t' s=gs t s)->∀u,lo=some u->gv t' u=gv t u:=λt' ht u hu=>eE λs hs=>ht s (by simp[bU,KG,hs,hu])
    have e3:∀t':T,(∀s∈bU (.s3 x lo hi m z),gs t' s=gs t s)->∀u,hi=some u->gv t' u=gv t u:=λt' ht u hu=>eE λs hs=>ht s (by simp[bU,KG,hs,hu])
    have e4:∀t':T,(∀s∈bU (.s3 x lo hi m z),gs t' s=gs t s)->∀u,m=some u->gv t' u=gv t u:=λt' ht u hu=>eE λs hs=>ht s (by simp[bU,KG,hs,hu])
    cases lo with
    |none=>
      simp only[bq]at hq
      split at hq
      · rename_i k l hl
        cases hl
        split at hq
        · rename_i z' r hx
          exact⟨_,hq.2,λt' _ ht _=>by simp only[bq,e1 t' ht,hx];exact⟨hq.1,by simp only[ν]⟩⟩
        · rename_i z' r hx
          exact⟨_,hq.2,λt' _ ht _=>by simp only[bq,e1 t' ht,hx];exact⟨hq.1,by simp only[ν]⟩⟩
        · rename_i i hx;exact absurd hx (hno' i)
        · exact hq.elim
      · rename_i k l hi hl
        cases hl
        split at hq
        · rename_i k' u hu
          split at hq
          · rename_i z' r hx
            exact⟨_,hq.2,λt' _ ht _=>by simp only[bq,e1 t' ht,e3 t' ht _ rfl,hu,hx];exact⟨hq.1,by simp only[ν]⟩⟩
          · rename_i z' r hx
            exact⟨_,hq.2,λt' _ ht _=>by simp only[bq,e1 t' ht,e3 t' ht _ rfl,hu,hx];exact⟨hq.1,by simp only[ν]⟩⟩
          · rename_i i hx;exact absurd hx (hno' i)
          · exact hq.elim
        · exact hq.elim
      · rename_i k l hi m hl
        cases hl
        split at hq
        · rename_i k' u k'' u' hu hm
          split at hq
          · rename_i z' r hx
            exact⟨_,hq.2,λt' _ ht _=>by simp only[bq,e1 t' ht,e3 t' ht _ rfl,e4 t' ht _ rfl,hu,hm,hx];exact⟨hq.1,by simp only[ν]⟩⟩
          · rename_i z' r hx
            exact⟨_,hq.2,λt' _ ht _=>by simp only[bq,e1 t' ht,e3 t' ht _ rfl,e4 t' ht _ rfl,hu,hm,hx];exact⟨hq.1,by simp only[ν]⟩⟩
          · exact hq.elim
        · exact hq.elim
      · exact hq.elim
    |some lo=>
      simp only[bq]at hq
      split at hq
      · rename_i k l hl
        split at hq
        · rename_i z' r hx
          exact⟨_,hq.2,λt' _ ht _=>by simp only[bq,e1 t' ht,e2 t' ht _ rfl,hl,hx];exact⟨hq.1,by simp only[ν]⟩⟩
        · rename_i z' r hx
          exact⟨_,hq.2,λt' _ ht _=>by simp only[bq,e1 t' ht,e2 t' ht _ rfl,hl,hx];exact⟨hq.1,by simp only[ν]⟩⟩
        · rename_i i hx;exact absurd hx (hno' i)
        · exact hq.elim
      · rename_i k l hi hl
        split at hq
        · rename_i k' u hu
          split at hq
          · rename_i z' r hx
            exact⟨_,hq.2,λt' _ ht _=>by simp only[bq,e1 t' ht,e2 t' ht _ rfl,e3 t' ht _ rfl,hl,hu,hx];exact⟨hq.1,by simp only[ν]⟩⟩
          · rename_i z' r hx
            exact⟨_,hq.2,λt' _ ht _=>by simp only[bq,e1 t' ht,e2 t' ht _ rfl,e3 t' ht _ rfl,hl,hu,hx];exact⟨hq.1,by simp only[ν]⟩⟩
          · rename_i i hx;exact absurd hx (hno' i)
          · exact hq.elim
        · exact hq.elim
      · rename_i k l hi m hl
        split at hq
        · rename_i k' u k'' u' hu hm
          split at hq
          · rename_i z' r hx
            exact⟨_,hq.2,λt' _ ht _=>by simp only[bq,e1 t' ht,e2 t' ht _ rfl,e3 t' ht _ rfl,e4 t' ht _ rfl,hl,hu,hm,hx];exact⟨hq.1,by simp only[ν]⟩⟩
          · rename_i z' r hx
            exact⟨_,hq.2,λt' _ ht _=>by simp only[bq,e1 t' ht,e2 t' ht _ rfl,e3 t' ht _ rfl,e4 t' ht _ rfl,hl,hu,hm,hx];exact⟨hq.1,by simp only[ν]⟩⟩
          · exact hq.elim
        · exact hq.elim
      · exact hq.elim
end
end Go.Vx
