/- Lemmas. Conditions: none. -/
import Derived.Test.YtmigecldjbgneaaGreatDoorQKAG
namespace Go.Vx
section
variable{P:Program}{E:gG}{n:Nat}{G:Nat->Prop}{ρ:List Value}{t:T}{h:H}{a:Act}{w:World}{o:Oper}{bS:Act->World->Prop}{Q:Exit->Act->World->Prop}{K KP:V->T->H->Prop}
variable(S:Nat->List V->H->(Out->H->Prop)->Prop)(ow:Nat->Bool)
theorem PW(hC:an E n G ρ t h a w)(hn:gq E n a o K bS){ne:Bool}{ty e t1 t2:TypeId}{x:Operand}{ox:O}(ho:o.op=.binOp (bif ne then .neq else .eql) ty x (.const (.slice none 0 0)) t2)(hu:P.underlying ty=some (.slice e))(hx:cO P t1 x=some ox)
  (hk:dV S ow (.nq ne ox) t h K KP):o.wp P a w bS Q:=by
 have hv:=bG hC hx;have run:∀(ad:Option Addr)(m c:Nat),a.eval x=.slice ad m c->(execOp a.eval o).run P w=.ok (.value (.bool (bif ne then !ad.isNone else ad.isNone))) w:=by
  intro ad m c he;have e0:a.eval (.const (.slice none 0 0))=.slice none 0 0:=rfl;have heq:∀k,(Op.equalIn (k+1) ty (.slice ad m c) (.slice none 0 0)).run P w=.ok ad.isNone w:=λk=>by
   cases ad<;>simp[Op.equalIn,run_underlying hu]
  have heq:(Op.equal ty (.slice ad m c) (.slice none 0 0)).run P w=.ok ad.isNone w:=heq 9999;cases ne<;>simp only[δ,ε]at ho⊢<;>simp only[execOp,ho,he,e0]
  .refine cL ?_;simp[eqGuard,binOp,heq]
  .refine cL ?_;simp[eqGuard,binOp,heq]
 have both:∀(ad:Option Addr)(m c:Nat),a.eval x=.slice ad m c->K (.d (.bool true)) t h/\K (.d (.bool false)) t h->o.wp P a w bS Q:=by
  intro ad m c he hk;refine au hC hn (v:=.d (.bool (bif ne then !ad.isNone else ad.isNone))) (run ad m c he) (.d (.bool _)) ?_;cases(bif ne then !ad.isNone else ad.isNone)
  .exact hk.2
  .exact hk.1
 have one:∀(ad:Addr)(m c:Nat),a.eval x=.slice (some ad) m c->K (.d (.bool ne)) t h->o.wp P a w bS Q:=by
  intro ad m c he hk;have:=run (some ad) m c he;exact au hC hn this (.d (.bool _)) (by cases ne<;>exact hk)
 have data:∀(z:Nat)(r:List (List D)),bp G w (a.eval x) (.sl z r)->(match r with|[]=>K (.d (.bool true)) t h/\K (.d (.bool false)) t h|_::_=>K (.d (.bool ne)) t h)->o.wp P a w bS Q:=by
  intro z r hD hk;cases r with
  |nil=>
   obtain⟨ad,c,he,_⟩:=hD.len;exact both ad _ c he hk
  |cons r0 rs=>
   rcases hD.Q0 with⟨_,h2⟩|⟨b,o,cap,U,he,_⟩
   .cases h2
   .exact one _ _ cap he hk
 simp only[dV]at hk;split at hk
 .rename_i z r hg;rw[hg]at hv;exact data z r hv.rj hk
 .rename_i z r hg;rw[hg]at hv;obtain⟨ad,m,he,hD⟩:=hv.N6;exact data z r (he ▸ hD) hk
 .rename_i id hg;rw[hg]at hv;rw[get?_eq]at hk;split at hk
  .rename_i z r hcs;obtain⟨ad,c,he,_,hρ⟩:=xN hC hv hcs;cases r with
   |nil=>exact both ad _ c he hk
   |cons r0 rs=>
    rcases hC.ok.hr.rep id _ _ hρ hcs with⟨_,h2⟩|⟨b,cap,arr,ty',hb,_⟩
    .cases h2
    .rw[hb]at he;exact one _ _ cap he hk
  .exact hk.elim
 .exact hk.elim
theorem Tt(hC:an E n G ρ t h a w)(hn:gq E n a o K bS){ty e:TypeId}{zs:List V}(ho:o.op=.buildSlice ty 0 #[])(hu:P.underlying ty=some (.slice e))(hz:vP P e=some zs)(hk:dV S ow (.ns (P.cellsOf e)) t h K KP):o.wp P a w bS Q:=by
 obtain⟨i,z,hi,_⟩:=kv (G:=G) (w:=w) (ρ := ρ) hz;simp only[dV,bn,cP]at hk;have hC2:=hC.push (ga.alloc w (.cells #[] e)) (.slice (some ⟨w.heap.size,0,none⟩) 0 0) (.rows (P.cellsOf e) []) (by intro b hb;simp only[gB,aD]at hb;omega)
  (.inr ⟨w.heap.size,0,#[],e,rfl,heap_alloc_new w _,aL _,by simp,by simp,by simp⟩)
 refine dc (v':=.slice (some ⟨w.heap.size,0,none⟩) 0 0) ?_ (hn _ _ _ _ _ _ _ hC2 (.k (.os h.length _ 0 0 (by rw[<-hC.ok.hr.len];simp))) hk);have hrun:(Instr.buildSlice ty 0 #[]).run P w=.ok (.slice (some ⟨w.heap.size,0,none⟩) 0 0) (w.alloc (.cells #[] e)):=by
  simp[Instr.buildSlice,Instr.fill,run_underlying hu,sizeOf,typeInfo,hi,newRow];congr 2;exact gA (by simp)
 simp only[execOp,ho];exact cL (by simpa using hrun)
theorem UI(hC:an E n G ρ t h a w)(hn:gq E n a o K bS){ty t1 t2:TypeId}{x i:Operand}{ox oi:O}(ho:o.op=.index ty x i)(hu:P.underlying ty=some .string)(hx:cO P t1 x=some ox)(hi:cO P t2 i=some oi)
  (hk:dV S ow (.ix ox oi) t h K KP):o.wp P a w bS Q:=by
 have hvx:=bG hC hx;have hvi:=bG hC hi;simp only[dV,qv,qv]at hk;split at hk
 .rename_i s k m hgx hgi;rw[hgx]at hvx;rw[hgi]at hvi;obtain⟨sv,e1,rfl,_⟩:=hvx.str;have e2:=hvi.int;obtain⟨b,⟨h1,h2⟩,hk⟩:=hk;have hb:sv[m.toNat]?=some b:=by
   rw[cJ]at h2;exact h2
  refine au hC hn (v':=.int .u8 b.toNat) ?_ (.d (.int _ _)) hk;simp[execOp,ho,e1,e2,Instr.index,asIntOf,run_underlying hu,h1,hb]
 .exact hk.elim
theorem az.Y2{v:Value}{id z i:Nat}(h:az G w ρ v (.ov id z i)):∃a n c,ρ[id]?=some (.slice a n c)/\v=sliced a i n c z:=by
 cases h with|o h=>cases h with|c h=>cases h with|k h=>cases h with|ov _ _ _ _ a n c h1 h2=>exact⟨a,n,c,h1,h2⟩
theorem wC{α β:Type}{f:α->Option β}:∀{l:List α}{r:List β},l.mapM f=some r->r.length=l.length/\∀(k:Nat)(x:α)(y:β),l[k]?=some x->r[k]?=some y->f x=some y:=by
 intro l
 induction l with
 |nil=>intro r h;simp at h;subst h;simp
 |cons x l ih=>
  intro r h;simp only[iR,aK,aE,jZ,aD]at h;obtain⟨y,hy,ys,hys,rfl⟩:=h;obtain⟨h1,h2⟩:=ih hys;refine⟨by simp[h1],λk x' y' hx hy'=>?_⟩;cases k with
  |zero=>simp at hx hy';subst hx hy';exact hy
  |succ k=>exact h2 k x' y' (by simpa using hx) (by simpa using hy')
theorem KC{v:Value}{x:V}{d:D}(hv:dN G w ρ v x)(hd:Sv x=some d):bp G w v d:=by
 cases hv<;>simp only[Sv,reduceCtorEq,aD]at hd
 .subst hd;assumption
 .subst hd;exact .yv _
theorem RE (hC : an E n G ρ t h a w) (hn : gq E n a o K bS) {ty e t1 : TypeId} {zs : List V} {ds : List D} {x : Operand} {ox : O} (ho : o.op = .call { callee := .builtin .clear, args := #[x], argTypes := #[ty] }) (hu : P.underlying ty = some (.slice e)) (hz : vP P e = some zs)
    (hd:zs.mapM Sv=some ds) (hzl:zs.length=P.cellsOf e) (hz0:P.cellsOf e≠0) (hx:cO P t1 x=some ox) (hk:dV S ow (.gT ox ds (P.cellsOf e)) t h K KP):o.wp P a w bS Q:=by
  have hv:=bG hC hx
  obtain⟨it,z,hi,hz1,hzs,hst,hzr⟩:=kv (G:=G) (w:=w) (ρ := ρ) hz
  obtain⟨hdl,hdg⟩:=wC hd
  have hci:P.cellsOf e=it.size:=by simp[Program.cellsOf,hi]
  generalize hzz:P.cellsOf e=zz at *
  simp only[dV]at hk
  split at hk
  · rename_i id z' i hg
    rw[hg]at hv
    rw[get?_eq]at hk
    split at hk
    · rename_i z'' r hcs
      obtain⟨⟨k1,k2,k3⟩,hk⟩:=hk
      obtain rfl:=kA k1
      obtain rfl:=kA k2
      have k3:=bN k3
      rw[bn]at hk
      obtain⟨ad,m,c,hρ,hval⟩:=hv.Y2
      have hrep:=hC.ok.hr.rep id _ _ hρ hcs
      have hlc:m=r.length/\m<=c:=by
        rcases hrep with⟨he,rfl⟩|⟨b,cap,arr,ty,he,h1,h2,_⟩
        · simp only[Value.slice.injEq]at he
          obtain⟨rfl,rfl,rfl⟩:=he
          simp
        · simp only[Value.slice.injEq]at he
          obtain⟨rfl,rfl,rfl⟩:=he
          exact⟨rfl,h2⟩
      obtain⟨rfl,hmc⟩:=hlc
      have runs:∀(v:Value)(w':World),a.eval x=v->(Builtin.clear_ #[ty] o.type #[v]).run P w=.ok (.tuple #[]) w'->(execOp a.eval o).run P w=.ok (.value (.tuple #[])) w':=by
        intro v w' he hr
        simp[execOp,ho,resolve,invoke,builtin,he,hr]
      by_cases hil:i=r.length
      · have hsame:h.set id (.rows z'' (r.take i++List.replicate (r.length-i) ds))=h:=by
          rw[hil,cG,gM,List.replicate_zero,eI]
          exact jv hcs
        rw[hsame]at hk
        refine dc (runs _ w hval ?_) (hn _ _ _ _ _ _ _ hC (.tu #[] [] rfl (by simp)) hk)
        subst hil
        simp only[sliced,gM]
        cases(if c=r.length then ad else ad.map (·.add (r.length*z'')))<;>simp[Builtin.clear_,run_underlying hu]
      · have hil:i<r.length:=by omega
        rcases hrep with⟨_,rfl⟩|⟨b,cap,arr,ty',he,h1,h2,h3,h4,h5⟩
        · simp at hil
        simp only[Value.slice.injEq]at he
        obtain⟨rfl,_,rfl⟩:=he
        have hv2:a.eval x=.slice (some ⟨b,i*z'',none⟩) (r.length-i) (c-i):=by
          rw[hval]
          simp[sliced,show ¬c=i by omega,dk]
        have hz'':it.size=z'':=hci.symm
        have hzc:z.cells.size=z'':=by rw[hzs,hzl]
        have hzpos:0<z'':=by omega
        have hmul:(r.length-i)*z''+i*z''=r.length*z'':=by rw[<-fY];congr 1;omega
        have hle:r.length*z''<=c*z'':=bD _ h2
        have hnl:(Builtin.zeroCells z.cells (r.length-i)).toList.length=(r.length-i)*z'':=by simp[Builtin.zeroCells,hzc]
        have hng:∀k,k<(r.length-i)*z''->(Builtin.zeroCells z.cells (r.length-i)).toList[k]?=some (z.cells.getD (k % z'') undef):=by
          intro k hk
          have hml:k % z''<z.cells.size:=by rw[hzc];exact Nat.mod_lt _ hzpos
          simp only[Builtin.zeroCells,cJ,oV,hzc,Array.getElem?_range,hk,if_true,bJ,aD]
          rw[getElem!_pos z.cells _ hml,aH,aS hml]
          rfl
        have hzj:∀j,j<z''->∃x,zs[j]?=some x/\dN G w ρ (z.cells.getD j undef) x:=λj hj=>by
          have hjl:j<zs.length:=by rw[hzl];exact hj
          exact⟨zs[j],aA hjl,(hzr j _ (aA hjl)).1⟩
        have hone:∀u∈(Builtin.zeroCells z.cells (r.length-i)).toList,u.oneCell'=true:=by
          intro u hu
          obtain⟨k,hk⟩:=ao.1 hu
          have hkl:k<(r.length-i)*z'':=by rw[<-hnl];exact(aC.1 hk).1
          rw[hng k hkl]at hk
          cases hk
          obtain⟨y,hy,hr⟩:=hzj (k % z'') (Nat.mod_lt _ hzpos)
          exact BO (.k hr) (aP.1 hst y (aG hy))
        have hrun:=run_storeCells_at (P:=P) b (i*z'') ty' (Builtin.zeroCells z.cells (r.length-i)).toList 0 arr w h1 (by rw[hnl];omega) hone
        rw[eB,hnl]at hrun
        have hC':=hC.GP (w':=w.setRow b (arr.toList.take (i*z'')++(Builtin.zeroCells z.cells (r.length-i)).toList++arr.toList.drop (i*z''+(r.length-i)*z'')).toArray) (x1:=.rows z'' (r.take i++List.replicate (r.length-i) ds)) hρ hcs (by simp) (by simp)
          (λc hc=>setRow_other w b c _ (by simp only[gB,ne_eq,aD]at hc;omega)) rfl rfl rfl
          (.inr ⟨b,c,_,ty',by simp;omega,setRow_heap w b arr _ ty' _ h1,by simp;omega,h3,by
            simp only[eC,aM,a_,dt,cq,hnl];omega,λi' row hi'=>by
            have hs':∀c,G c->(w.setRow b (arr.toList.take (i*z'')++(Builtin.zeroCells z.cells (r.length-i)).toList++arr.toList.drop (i*z''+(r.length-i)*z'')).toArray).heap[c]?=w.heap[c]?:=λc hc=>setRow_other w b c _ (λe=>by
              subst e;exact hC.ok.hr.gd c hc ⟨id,_,_,hρ,hcs,by simp,bT.2 (.inl rfl)⟩)
            have hgetr:=λk=>o7 (arr:=arr) (off:=i*z'') hnl (by omega) k
            by_cases hii:i'<i
            · rw[aR (by simp;omega),bO,ζ hii]at hi'
              obtain⟨g1,g2⟩:=h5 i' row hi'
              refine⟨g1,λj x hj=>?_⟩
              have hjl:j<z'':=by rw[<-g1];exact(aC.1 hj).1
              have:i'*z''+z''<=i*z'':=by
                have:=bD z'' (show i'+1<=i by omega)
                rwa[fY,Nat.one_mul]at this
              rw[hgetr,η (by omega)]
              exact(g2 j x hj).mono (λ_ h=>h) hs'
            · rw [ae (by simp; omega)] at hi'
              have hmin:(r.take i).length=i:=by simp;omega
              rw[hmin,List.getElem?_replicate]at hi'
              split at hi'
              · rename_i hlt
                cases hi'
                refine⟨by rw[hdl,hzl],λj x hj=>?_⟩
                have hjl:j<z'':=by rw[<-hzl,<-hdl];exact(aC.1 hj).1
                have hi1:i'*z''=i*z''+(i'-i)*z'':=by rw[<-fY];congr 1;omega
                have hi2:(i'-i)*z''+z''<=(r.length-i)*z'':=by
                  have:=bD z'' (show(i'-i)+1<=r.length-i by omega)
                  rwa[fY,Nat.one_mul]at this
                rw[hgetr,ζ ⟨by omega,by omega⟩]
                have hk:i'*z''+j-i*z''=j+(i'-i)*z'':=by omega
                rw[hk,aq,hng _ (by omega),Nat.add_mul_mod_self_right,cm hjl]
                obtain⟨y,hy,hr⟩:=hzj j hjl
                exact(KC hr (hdg j y x hy hj)).mono (λ_ h=>h) hs'
              · cases hi'⟩)
        refine dc (runs _ _ hv2 ?_) (hn _ _ _ _ _ _ _ hC' (.tu #[] [] rfl (by simp)) hk)
        have hn0:¬(r.length-i=0):=by omega
        obtain⟨k,hk⟩:=Nat.exists_eq_succ_of_ne_zero hn0
        rw[hk]at hrun⊢
        simp[Builtin.clear_,run_underlying hu,zeroValue,typeInfo,hi,hz1,hrun]
    · exact hk.elim
  · exact hk.elim
end
open Go.MapKept
section
variable{P:Program}{E:gG}{n:Nat}{G:Nat->Prop}{ρ ρ':List Value}{t:T}{h:H}{a:Act}{w:World}{o:Oper}{bS:Act->World->Prop}{Q:Exit->Act->World->Prop}{K KP:V->T->H->Prop}
variable(S:Nat->List V->H->(Out->H->Prop)->Prop)(ow:Nat->Bool)
theorem Hw{v:Value}(h:bp G w v .nm):v=.map none:=by cases h;rfl
theorem B3{α β:Type}(g:α->β)(f:α->α)(hg:∀x,g (f x)=g x):∀(l:List α)(i:Nat),(l.modify i f).map g=l.map g:=by
 intro l
 induction l with
 |nil=>grind
 |cons x l ih=>
  grind
theorem ti{arr:Array MapEntry}{clk i:Nat}{f:MapEntry->MapEntry}(hf:∀e,(f e).born=e.born)(h:ord arr clk):ord (arr.modify i f) clk:=by
 have e:((arr.modify i f).toList.map (·.born))=arr.toList.map (·.born):=by
  rw[Array.toList_modify];exact B3 _ _ hf _ _
 refine⟨λx hx=>?_,by rw[e];exact h.2⟩;have:x.born∈(arr.modify i f).toList.map (·.born):=bQ.2 ⟨x,hx,rfl⟩;rw[e]at this;obtain⟨y,hy,hxy⟩:=bQ.1 this;rw[<-hxy];exact h.1 y hy
theorem zG{arr:Array MapEntry}{clk:Nat}{e:MapEntry}(he:e.born=clk)(h:ord arr clk):ord (arr.push e) (clk+1):=by
 refine⟨λx hx=>?_,?_⟩
 .rw[Array.toList_push]at hx;rcases aT.1 hx with hx|hx
  .have:=h.1 x hx;omega
  grind
 .rw[Array.toList_push,bt,List.pairwise_append];refine⟨h.2,by simp,λx hx y hy=>?_⟩;simp at hy;subst hy;obtain⟨z,hz,rfl⟩:=bQ.1 hx;have:=h.1 z hz;omega
theorem vu{arr:Array MapEntry}{clk i:Nat}(h:ord arr clk):ord (arr.eraseIdxIfInBounds i) clk:=by
 have hs:(arr.eraseIdxIfInBounds i).toList.Sublist arr.toList:=by
  unfold Array.eraseIdxIfInBounds;split
  .simp only[Array.toList_eraseIdx];grind
  grind
 exact⟨λx hx=>h.1 x (hs.subset hx),h.2.sublist (hs.map _)⟩
theorem w7{ty:TypeId}{zv:V}(hz:A8 P ty=some zv):∃z,(zeroValue ty).run P w=.ok z w/\dP G w ρ z zv/\nH zv=[]:=by
 simp only[A8,aK,aE]at hz;obtain⟨zs,hzs,i,hi,z,hz0,hm⟩:=hz;obtain⟨i',z',hi',hz',h1,hstor,h3⟩:=kv (G:=G) (w:=w) (ρ := ρ) hzs;rw[hi]at hi';cases hi';rw[hz0]at hz';cases hz';refine⟨z,by simp[zeroValue,typeInfo,hi,hz0],?_⟩;have hid:∀(v:V),lN v=[]->(∀f c,v≠.fc f c)->pQ v=[]:=λv hv hf=>by cases v<;>first|exact hv|exact absurd rfl (hf _ _)
 have hnf:∀{v:Value}{x:V},dN G w ρ v x->∀f c,x≠.fc f c:=by
  intro v x hx f c e;subst e;cases hx
 have hna:∀{v:Value}{x:V},dN G w ρ v x->∀c,x≠.ag c:=by
  intro v x hx c e;subst e;cases hx
 clear hstor;split at hm
 .cases hm;refine⟨.ag _ _ (by assumption) (λj x hx=>.k (by simpa[Value.cells]using(h3 j x hx).1)),?_⟩;simp only[nH,cK];intro x hx;obtain⟨j,hj⟩:=ao.1 hx
  grind
 .rename_i x hna';cases hm;have hx:=h3 0 _ rfl;have hc:z.cells=#[z]:=by
   cases z<;>first|rfl|exact absurd rfl (hna' _)
  rw[hc]at hx;refine⟨.c (.k hx.1),?_⟩;have h0:=hid _ hx.2 (hnf hx.1);have h1:=hna hx.1;cases zv<;>first|exact h0|exact absurd rfl (h1 _)
 grind
theorem Ok.view(hO:Ok E G w ρ h){h':H}(hp:∀(i:Nat)(v:Value),ρ[i]?=some v->ρ'[i]?=some v)(hl:ρ'.length=h'.length)(hle:h.length<=h'.length)(hlk:∀(i z:Nat)(rs:List (List D)),h[i]?=some (.lk z rs)->h'[i]?=some (.lk z rs))
  (rep:∀(i:Nat)(v:Value)(y:B),ρ'[i]?=some v->h'[i]?=some y->y≠.no->cQ G w ρ' v y)
  (src:∀(i:Nat) (v:Value) (y:B) (b:Nat),ρ'[i]? = some v→h'[i]? = some y→y≠.no→b∈fF v y→∃(j:Nat) (u:Value) (x:B),ρ[j]? = some u∧h[j]? = some x∧x≠.no∧b∈fF u x ∧
   ∀(i':Nat)(v':Value)(y':B),ρ'[i']?=some v'->h'[i']?=some y'->y'≠.no->b∈fF v' y'->i'=i):Ok E G w ρ' h':=by
 have hown:∀b,own ρ' h' b->own ρ h b:=λb ⟨i,v,y,h1,h2,h3,h4⟩=>by
  obtain⟨j,u,x,g1,g2,g3,g4,_⟩:=src i v y b h1 h2 h3 h4;exact⟨j,u,x,g1,g2,g3,g4⟩
 refine⟨⟨hl,λi v y h1 h2=>?_,λi i' v v' y y' b h1 h2 h3 h4 h5 h6 h7 h8=>?_,hO.hr.gl,λb hb ho=>hO.hr.gd b hb (hown b ho),hO.hr.vR⟩,hO.gm,hO.go,λb hb=>hO.oo b (hown b hb),hO.frame,hO.size,hO.os,hO.tape,hO.out,
  λi v hv hs=>hp i v (hO.hand i v hv hs),aX hO.hl hle,λr hr=>let⟨g1,g2,g3⟩:=hO.uB r hr;⟨g1,g2,λg4=>g3 (hown r g4)⟩,λi z rs hi=>?_⟩
 .by_cases hy:y=.no
  .subst hy;trivial
  grind
 grind
 .obtain⟨k1,k2⟩:=hO.lk i z rs hi;have hil:i<ρ.length:=by rw[hO.hr.len];exact(aC.1 k1).1
  exact⟨hlk i z rs k1,by rw[<-k2,aA hil];exact hp i _ (aA hil)⟩
theorem fX{i j:Nat}{x:Option (Option Nat×List (List D))}{es:List ME}:(eQ i x es)[j]?=if i=j then(es[j]?).map λe=>(e.1,x)else es[j]?:=by
 unfold eQ
 grind
theorem nk{i:Nat}{x:Option (Option Nat×List (List D))}{es:List ME}:(eQ i x es).length=es.length:=by simp[eQ]
theorem mI{i b:Nat}{x:Option (Option Nat×List (List D))}{es:List ME}(h:b∈Bt (eQ i x es)):(∃(j:Nat)(k:List UInt8×List UInt8)(rs:List (List D)),j≠i/\es[j]?=some (k,some (some b,rs)))\/∃rs,x=some (some b,rs):=by
 obtain⟨j,k,rs,hj⟩:=eL.1 h;rw[fX]at hj
 grind
theorem t_{i:Nat}{x:Option (Option Nat×List (List D))}{es:List ME}(hi:Hq es)(hx:∀b rs,x=some (some b,rs)->∀(j:Nat)(k:List UInt8×List UInt8)(rs':List (List D)),j≠i->es[j]?≠some (k,some (some b,rs'))) :
  Hq (eQ i x es):=by
 intro i' j k k' rs rs' b h1 h2;rw[fX]at h1 h2;split at h1<;>split at h2
 grind
 grind
 grind
 .exact hi _ _ _ _ _ _ _ h1 h2
theorem an.Qr(hC:an E n G ρ t h a w){id m z z' i:Nat}{es:List ME}{it:Option (Nat×It)}{rs:List (List D)}(hx:h[id]?=some (.ms z es (some (i,.os m)) it))(hm:h[m]?=some (.rows z' rs))(hz:z=z') :
    ∃b,an E n G ρ (mK m t) (((h.map (jP m)).set m .no).set id (.ms z (eQ i (some (b,rs)) es) none it)) a w:=by
  subst hz
  have hO:=hC.ok
  have hr:=hO.hr
  have hil:id<ρ.length:=by rw[hr.len];grind
  have hml:m<ρ.length:=by rw[hr.len];grind
  have hne:m≠id:=λe=>by grind
  have hv:=aA hil
  have hv0:=aA hml
  have hrm:=hr.rep m _ _ hv0 hm
  obtain⟨⟨r,arr,clk,e0,h1,h2,h3,h4,h5,h6,h7⟩,hit⟩:=hr.rep id _ _ hv hx
  generalize hgm:ρ[m]=v0 at *
  generalize hgi:ρ[id]=v at *
  have hsl:kZ v0=true:=by
    rcases hrm with⟨e,_⟩|⟨_,_,_,_,e,_⟩<;>rw[e]<;>rfl
  have hpb:∀b,gB v0=some b->b∉fF v (.ms z es (some (i,.os m)) it):=λb hb hb2=>hne (hr.pv m id v0 v _ _ b hv0 hm (by simp) hv hx (by simp) (bT.2 (.inl hb)) hb2)
  have hset:=jv hv0
  have get:∀(j:Nat)(y:B),(((h.map (jP m)).set m .no).set id (.ms z (eQ i (some (gB v0,rs)) es) none it))[j]?=some y->y≠.no->(j=id/\y=.ms z (eQ i (some (gB v0,rs)) es) none it)\/(j≠id/\j≠m/\∃y0,h[j]?=some y0/\y=jP m y0):=by
    grind
  have kno:∀y0:B,jP m y0≠.no->y0≠.no:=λy0 h e=>h (by rw[e];rfl)
  have new:∀b,b∈fF v (.ms z (eQ i (some (gB v0,rs)) es) none it)->b∈fF v (.ms z es (some (i,.os m)) it)\/gB v0=some b:=by
    intro b hb
    rcases bT.1 hb with hb|hb
    · exact .inl (bT.2 (.inl hb))
    · simp only[gh,aT]at hb
      rcases hb with hb|hb
      · rcases mI hb with⟨j,k,rs',_,hj⟩|⟨rs',e⟩
        · exact .inl (bT.2 (.inr (by simp only[gh,aT];exact .inl (eL.2 ⟨j,k,rs',hj⟩))))
        grind
      · exact .inl (bT.2 (.inr (by simp only[gh,aT];grind)))
  have hrep:cQ G w ρ v (.ms z (eQ i (some (gB v0,rs)) es) none it):=by
    have hgE:∀b,b∈Bt es->b∈fF v (.ms z es (some (i,.os m)) it):=λb hb=>bT.2 (.inr (by simp only[gh,aT];grind))
    refine⟨⟨r,arr,clk,e0,h1,by rw[nk];grind,h3,⟨t_ h4.1 λb rs' e j k rs2 _ hj=>?_,λhb=>?_⟩,λj e x he hj=>?_,λj v h=>(by cases h),λj v e h=>by cases h⟩,?_⟩
    · obtain⟨e,_⟩:=Prod.mk.inj (af e)
      exact hpb b e (hgE b (eL.2 ⟨j,k,rs2,hj⟩))
    · rcases mI hb with⟨j,k,rs',_,hj⟩|⟨rs',e⟩
      · exact h4.2 (eL.2 ⟨j,k,rs',hj⟩)
      · obtain⟨e,_⟩:=Prod.mk.inj (af e)
        exact hpb r e (bT.2 (.inl (by rw[e0];rfl)))
    · rw [fX] at hj
      split at hj
      · rename_i e1
        subst e1
        rw[aJ]at hj
        obtain⟨x0,hx0,rfl⟩:=hj
        refine⟨(h5 i e x0 he hx0).1,λb rs' e2=>?_⟩
        cases e2
        have h8:=h7 i _ e rfl he
        have h9:e.val=v0:=by
          generalize e.val=u at h8
          cases h8 with
          |k h8=>cases h8 with
            |os _ a n c h8=>grind
        rw[h9]
        exact⟨rfl,hrm⟩
      grind
    · match it,hit,hpb with
      |none,_,_=>trivial
      |some (q,l),hit,hpb=>
        refine⟨hit.1,λhb=>?_⟩
        rcases mI hb with⟨j,k,rs',_,hj⟩|⟨rs',e⟩
        · exact hit.2 (eL.2 ⟨j,k,rs',hj⟩)
        · obtain⟨e,_⟩:=Prod.mk.inj (af e)
          exact hpb q e (bT.2 (.inr (by simp[gh,Pb])))
  refine⟨gB v0,⟨hO.view (ρ':= ρ) (λ_ _ h=>h) (by simp[hr.len]) (by simp) (λj z' rs' hj=>by grind[jP]) (λj u y g1 g2 g3=>?_) (λj u y b g1 g2 g3 g4=>?_),hC.df,hC.sz,λj=>?_⟩⟩
  · rcases get j y g2 g3 with⟨rfl,rfl⟩|⟨_,_,y0,k1,rfl⟩
    grind
    · have:=(hr.rep j u y0 g1 k1).uQ (v1:=v0) hv0 hsl
      grind
  · rcases get j y g2 g3 with⟨rfl,rfl⟩|⟨hj1,hj2,y0,k1,rfl⟩
    · rw [hv] at g1; cases g1
      rcases new b g4 with hb|hb
      · refine⟨j,v,_,hv,hx,by simp,hb,λj' u' y' q1 q2 q3 q4=>?_⟩
        rcases get j' y' q2 q3 with⟨rfl,_⟩|⟨_,_,y1,p1,rfl⟩
        rfl
        · rw[fF,pA]at q4
          exact hr.pv j' j u' v y1 _ b q1 p1 (kno _ q3) hv hx (by simp) q4 hb
      · refine⟨m,v0,_,hv0,hm,by simp,bT.2 (.inl hb),λj' u' y' q1 q2 q3 q4=>?_⟩
        rcases get j' y' q2 q3 with⟨rfl,_⟩|⟨_,p0,y1,p1,rfl⟩
        rfl
        · rw[fF,pA]at q4
          exact absurd (hr.pv j' m u' v0 y1 _ b q1 p1 (kno _ q3) hv0 hm (by simp) q4 (bT.2 (.inl hb))) p0
    · rw[fF,pA]at g4
      refine⟨j,u,y0,g1,k1,kno _ g3,g4,λj' u' y' q1 q2 q3 q4=>?_⟩
      rcases get j' y' q2 q3 with⟨rfl,rfl⟩|⟨_,_,y1,p1,rfl⟩
      · rw[hv]at q1;cases q1
        rcases new b q4 with hb|hb
        · exact hr.pv j' j v u _ y0 b hv hx (by simp) g1 k1 (kno _ g3) hb g4
        · exact absurd (hr.pv m j v0 u _ y0 b hv0 hm (by simp) g1 k1 (kno _ g3) (bT.2 (.inl hb)) g4).symm hj2
      · rw[fF,pA]at q4
        exact hr.pv j' j u' u y1 y0 b q1 p1 (kno _ q3) g1 k1 (kno _ g3) q4 g4
  · rw[mK,uY _ rfl]
    have:=(hC.tm j).uQ (v1:=v0) hv0 hsl
    grind
theorem an.XT(hC:an E n G ρ t h a w){id:Nat}{x x1:B}(hx:h[id]?=some x)(hn:x≠.no)(h1:∀v,ρ[id]?=some v->cQ G w ρ v x->cQ G w ρ v x1)(hg:∀b∈gh x1,b∈gh x)(hnl:∀z rs,x≠.lk z rs:=by simp):an E n G ρ t (h.set id x1) a w:=by
 have hil:id<ρ.length:=by rw[hC.ok.hr.len];grind
 have hv:=aA hil;exact hC.tJ hv hx hn (aL _) (λ_ _ _=>rfl) rfl rfl rfl (h1 _ hv (hC.ok.hr.rep id _ _ hv hx)) (λb hb=>.inl (bT.2 (.inr (hg b hb)))) hnl
theorem wj{KK:T->H->Prop}(hC:an E n G ρ t h a w){id:Nat}(hk:PC id t h KK):∃t' h',an E n G ρ t' h' a w/\KK t' h':=by
 unfold PC at hk;rw[get?_eq]at hk;split at hk
 .rename_i z es i v it hx;split at hk
  .rename_i m;rw[get?_eq]at hk;split at hk
   .rename_i z' rs hm;obtain⟨hz,hk⟩:=hk;obtain⟨b,hC'⟩:=hC.Qr hx hm (fN hz);have hk:=hk b;simp only[j6,fH]at hk
    grind
   grind
  .simp only[fH]at hk;exact⟨_,_,hC.XT (x1:=.ms z es none it) hx (by simp) (λv _ hr=>⟨hr.1.drop,hr.2⟩) (λb hb=>hb),hk⟩
 grind
theorem wh{KK:T->H->Prop}:∀(l:List Nat){t:T}{h:H},an E n G ρ t h a w->Gi l t h KK->∃t' h',an E n G ρ t' h' a w/\KK t' h'
 |[],_,_,hC,hk=>⟨_,_,hC,hk⟩
 |i::l,t,h,hC,hk=>by
  rw[ET]at hk;obtain⟨t',h',hC',hk'⟩:=wj hC hk;exact wh l hC' hk'
theorem Rf{KK:T->H->Prop}{l:List Nat}{t:T}{h:H}(hC:an E n G ρ t h a w)(hk:Up l t h KK):∃t' h',an E n G ρ t' h' a w/\KK t' h':=by
 cases l with
 |nil=>exact⟨_,_,hC,hk⟩
 |cons i r=>exact hk.elim (λhk=>⟨_,_,hC,hk⟩) λhk=>wh _ hC hk
theorem an.taken(hC:an E n G ρ t h a w){id z i:Nat}{es:List ME}{it:Option (Nat×It)}{k:List UInt8×List UInt8}{b:Option Nat}{rs:List (List D)}(hx:h[id]?=some (.ms z es none it))(hi:es[i]?=some (k,some (b,rs))) :
  ∃r arr clk e,ρ[id]?=some (.map (some r))/\w.heap[r]?=some (.map arr clk)/\arr[i]?=some e/\kZ e.val=true/\an E n G (ρ++[e.val]) t (h.set id (.ms z (eQ i none es) (some (i,.os h.length)) it)++[.rows z rs]) a w:=by
 have hO:=hC.ok;have hr:=hO.hr;have hil:id<ρ.length:=by rw[hr.len];grind
 have hihl:id<h.length:=by grind
 have hv:=aA hil;obtain⟨⟨r,arr,clk,e0,h1,h2,h3,h4,h5,h6,h7⟩,hit⟩:=hr.rep id _ _ hv hx;have hia:i<arr.size:=by grind
 have he:=aS hia;generalize hge:arr[i]=e at he;obtain⟨hke,hrs⟩:=h5 i e _ he hi;obtain⟨hb,hrs⟩:=hrs b rs rfl;have hsl:kZ e.val=true:=by
  rcases hrs with⟨e,_⟩|⟨_,_,_,_,e,_⟩<;>rw[e]<;>rfl
 refine⟨r,arr,clk,e,by grind,h1,he,hsl,?_⟩;rw[e0]at hv;have hpre:∀j,j<ρ.length->(ρ++[e.val])[j]?=ρ[j]?:=λj hj=>aR hj;have hnew:(ρ++[e.val])[h.length]?=some e.val:=by rw[<-hr.len];simp
 have get:∀(j:Nat)(u:Value)(y:B),(ρ++[e.val])[j]?=some u->(h.set id (.ms z (eQ i none es) (some (i,.os h.length)) it)++[.rows z rs])[j]?=some y ->
   (j=id/\u=.map (some r)/\y=.ms z (eQ i none es) (some (i,.os h.length)) it)\/(j=h.length/\u=e.val/\y=.rows z rs)\/(j≠id/\j<h.length/\ρ[j]?=some u/\h[j]?=some y):=by
  intro j u y g1 g2
  by_cases hj:j<h.length
  grind
  grind
 have iZ:∀c,c∈fF (.map (some r)) (.ms z (eQ i none es) (some (i,.os h.length)) it)->c∈fF (.map (some r)) (.ms z es none it)/\b≠some c:=by
  intro c hc;have hib:∀k' rs' j,j≠i->es[j]?=some (k',some (some c,rs'))->b≠some c:=λk' rs' j hj h8 e1=>hj (by subst e1;exact h4.1 _ _ _ _ _ _ _ h8 hi);rcases bT.1 hc with hc|hc
  .refine⟨bT.2 (.inl hc),λe1=>?_⟩;subst e1;simp only[gB,aD]at hc;subst hc;exact h4.2 (eL.2 ⟨i,k,rs,hi⟩)
  .simp only[gh,aT]at hc;rcases hc with hc|hc
   .rcases mI hc with⟨j,k',rs',hj,h8⟩|⟨_,e1⟩
    .exact⟨bT.2 (.inr (by simp only[gh,aT];exact .inl (eL.2 ⟨j,k',rs',h8⟩))),hib k' rs' j hj h8⟩
    grind
   .refine⟨bT.2 (.inr (by simp only[gh,aT];grind)),λe1=>?_⟩;subst e1
    match it,hit,hc with
    |some (q,l),hit,hc=>
     simp only[Pb,aF]at hc;subst hc;exact hit.2 (eL.2 ⟨i,k,rs,hi⟩)
 have new:∀c,c∈fF e.val (.rows z rs)->c∈fF (.map (some r)) (.ms z es none it)/\b=some c:=by
  intro c hc;have hc:=(fT).1 hc;rw[hb]at hc;subst hc;exact⟨bT.2 (.inr (by simp only[gh,aT];exact .inl (eL.2 ⟨i,k,rs,hi⟩))),rfl⟩
 have hmono:∀(v:Value)(y:B),cQ G w ρ v y->y≠.no->cQ G w (ρ++[e.val]) v y:=λv y hy hn=>hy.mono (λ_ h=>h) (λ_ _=>rfl) (λ_ _=>rfl) (λj hj=>hpre j (hy.lt j hj));refine⟨hO.view (ρ':= ρ++[e.val]) (λj u hu=>by grind) (by simp[hr.len]) (by simp) (λj z' rs' hj=>by grind) (λj u y g1 g2 g3=>?_) (λj u y c g1 g2 g3 g4=>?_),hC.df,hC.sz,λj=>(hC.tm j).mono (λ_ h=>h) (λ_ _=>rfl) (λq hq=>hpre q ((hC.tm j).lt q hq))⟩
 .rcases get j u y g1 g2 with⟨rfl,rfl,rfl⟩|⟨rfl,rfl,rfl⟩|⟨_,_,k1,k2⟩
  .refine⟨⟨r,arr,clk,rfl,h1,by rw[nk];grind,h3,⟨t_ h4.1 λb rs' e=>(by cases e),λhb=>?_⟩,λj e' x he' hj=>?_,λj v h=>?_,λj v e' h he'=>?_⟩,?_⟩
   .rcases mI hb with⟨j,k',rs',_,hj⟩|⟨rs',e⟩
    .exact h4.2 (eL.2 ⟨j,k',rs',hj⟩)
    grind
   .rw[fX]at hj;split at hj
    grind
    grind
   .cases h;rw[nk];grind
   .cases h;rw[he]at he';cases he';refine .k ?_;generalize e.val=u at hsl hnew;cases u<;>first|(cases hsl;done)|skip
    exact .os _ _ _ _ hnew
   .match it,hit with
    |none,_=>trivial
    |some (q,l),hit=>
     refine⟨?_,λhb=>?_⟩
     .rw[<-e0];exact hit.1
     rcases mI hb with⟨j,k',rs',_,hj⟩|⟨rs',e⟩
     .exact hit.2 (eL.2 ⟨j,k',rs',hj⟩)
     grind
  .exact hrs
  .exact hmono _ _ (hr.rep j u y k1 k2) g3
 .rcases get j u y g1 g2 with⟨rfl,rfl,rfl⟩|⟨rfl,rfl,rfl⟩|⟨hj,hjl,k1,k2⟩
  .obtain⟨o1,o2⟩:=iZ c g4;refine⟨j,_,_,hv,hx,by simp,o1,λj' u' y' q1 q2 q3 q4=>?_⟩;rcases get j' u' y' q1 q2 with⟨rfl,rfl,rfl⟩|⟨rfl,rfl,rfl⟩|⟨_,_,p1,p2⟩
   rfl
   grind
   .exact hr.pv j' j u' _ y' _ c p1 p2 q3 hv hx (by simp) q4 o1
  .obtain⟨o1,o2⟩:=new c g4;refine⟨id,_,_,hv,hx,by simp,o1,λj' u' y' q1 q2 q3 q4=>?_⟩;rcases get j' u' y' q1 q2 with⟨rfl,rfl,rfl⟩|⟨rfl,rfl,rfl⟩|⟨p0,_,p1,p2⟩
   grind
   rfl
   .exact absurd (hr.pv j' id u' _ y' _ c p1 p2 q3 hv hx (by simp) q4 o1) p0
  .refine⟨j,u,y,k1,k2,g3,g4,λj' u' y' q1 q2 q3 q4=>?_⟩;rcases get j' u' y' q1 q2 with⟨rfl,rfl,rfl⟩|⟨rfl,rfl,rfl⟩|⟨_,_,p1,p2⟩
   .exact hr.pv j' j _ u _ y c hv hx (by simp) k1 k2 g3 (iZ c q4).1 g4
   .exact absurd (hr.pv id j _ u _ y c hv hx (by simp) k1 k2 g3 (new c q4).1 g4) (λe=>hj e.symm)
   .exact hr.pv j' j u' u y' y c p1 p2 q3 k1 k2 g3 q4 g4
end
section
variable{P:Program}{E:gG}{n:Nat}{G:Nat->Prop}{ρ ρ':List Value}{t:T}{h:H}{a:Act}{w:World}{o:Oper}{bS:Act->World->Prop}{Q:Exit->Act->World->Prop}{K KP:V->T->H->Prop}
variable(S:Nat->List V->H->(Out->H->Prop)->Prop)(ow:Nat->Bool)
theorem uO{x:V}{k:List UInt8×List UInt8}(h:Ew x=some k):x=vY k:=by
 unfold Ew at h;split at h
 .cases h;rfl
 grind
structure K9(P:Program)(kt:TypeId)(fs:Array Field)(f g:Field):Prop where
  fl:flat P 100 kt=some [2,2]
  un:P.underlying kt=some (.struct fs)
  ls:fs=#[f,g]
  n1:f.name ≠ "_"
  n2:g.name ≠ "_"
  o1:f.offset=0
  o2:g.offset=1
  s1:P.underlying f.type=some .string
  s2:P.underlying g.type=some .string
theorem zj{t:TypeId}(h:isStr P t=true):P.underlying t=some .string:=by
 unfold isStr at h
 grind
theorem Mn{kt:TypeId}{ks:List Nat}(h:yU P kt=some ks)(h9:Nat.beq (ks.headD 0) 9=true):∃fs f g,K9 P kt fs f g:=by
 unfold yU at h;split at h
 .cases h;cases h9
 .cases h;cases h9
 .cases h;cases h9
 .rename_i fs hu;split at h
  .rename_i f g hl;split at h
   .rename_i hc;simp only[aO,bne_iff_ne,ne_eq,ξ]at hc;obtain⟨⟨⟨⟨⟨⟨c1,c2⟩,c3⟩,c4⟩,c5⟩,c6⟩,c7⟩:=hc;exact⟨fs,f,g,c7,hu,Array.toList_inj.1 hl,c1,c2,c3,c4,zj c5,zj c6⟩
   grind
  grind
 grind
theorem qY{v:Value}{k:List UInt8×List UInt8}(hv:az G w ρ v (vY k)):∃s1 s2:ByteArray,v=.agg #[.string s1,.string s2]/\s1.data.toList=k.1/\s2.data.toList=k.2:=by
 obtain⟨cs,rfl,h1,h2⟩:=hv.Pu;have c0:=h2 0 _ rfl;have c1:=h2 1 _ rfl;obtain⟨s1,e1,e2,_⟩:=(az.c c0).str;obtain⟨s2,e3,e4,_⟩:=(az.c c1).str;refine⟨s1,s2,?_,e2,e4⟩;congr 1;apply Array.ext
 grind
 .intro i hi hi2;simp only[eC,aZ,ak]at hi2;rw[aH]at e1 e3
  grind
theorem qH{ty:TypeId}(hu:P.underlying ty=some .string){s1 s2:ByteArray}{i:Nat}{s:ByteArray}(hi : #[Value.string s1,.string s2][i]?=some (.string s)):(part ty #[.string s1,.string s2] i).run P w=.ok (.string s) w:=by
 have hag:ke P ty=some false:=by simp[ke,hu]
 have hl:i < #[Value.string s1,.string s2].size:=(aW.1 hi).1;have : #[Value.string s1,.string s2][i]=.string s:=(aW.1 hi).2;simp[part,iw hag,hi]
theorem mD{kt:TypeId}{fs:Array Field}{f g:Field}(h9:K9 P kt fs f g)(s1 s2:ByteArray)(b:Bool)(m:Nat):(Instr.checkKey b (m+2) kt (.agg #[.string s1,.string s2])).run P w=.ok () w:=by
 obtain⟨h1,h2,rfl,h4,h5,h6,h7,h8,h9⟩:=h9;have p1:(part f.type #[.string s1,.string s2] f.offset).run P w=.ok (.string s1) w:=by rw[h6];exact qH h8 rfl
 have p2:(part g.type #[.string s1,.string s2] g.offset).run P w=.ok (.string s2) w:=by rw[h7];exact qH h9 rfl
 have q:∀(ty:TypeId)(s:ByteArray),P.underlying ty=some .string->(Instr.checkKey b (m+1) ty (.string s)).run P w=.ok () w:=λty s hu=>by
  simp[Instr.checkKey,run_underlying hu]
 rw[Instr.checkKey];simp only[Sem.run_bind,run_underlying h2,Result.andThen_ok];simp_all
theorem Lx{kt:TypeId}{fs:Array Field}{f g:Field}(h9:K9 P kt fs f g){v u:Value}{x y:List UInt8×List UInt8}(hv:dP G w ρ v (vY x))(hu:dP G w ρ u (vY y)):(Op.equal kt v u).run P w=.ok (y==x) w:=by
 have ag:ke P kt=some true:=by simp[ke,h9.un]
 have st:∀z:List UInt8×List UInt8,(vY z).cs.all fP=true:=λz=>rfl;have hs1:=qd h9.fl ag (x:=vY x) rfl (.o hv) (st x);have hs2:=qd h9.fl ag (x:=vY y) rfl (.o hu) (st y);have he:sA [2,2] (vY x).cs (vY y).cs=some (x.1==y.1&&(x.2==y.2&&true)):=rfl;have:=uc 100 kt [2,2] _ _ _ _ _ 10000 h9.fl hs1 hs2 he (by decide);have e:(y==x)=(x.1==y.1&&(x.2==y.2&&true)):=by
  grind
 rw[e];exact this
theorem yz{kt:TypeId}{fs:Array Field}{f g:Field}(h9:K9 P kt fs f g){v:Value}{x:List UInt8×List UInt8}(hv:dP G w ρ v (vY x)):∀(es:List ME)(l:List MapEntry)(i:Nat),l.length=es.length->(∀(j:Nat)(e:MapEntry)(y:ME),l[j]?=some e->es[j]?=some y->dP G w ρ e.key (vY y.1)) ->
    (Instr.findAsking kt v l i).run P w=.ok ((lW x es).bind λm=>(l[m]?).map λe=>(i+m,e.val)) w
  |[],l,i,hl,_=>by
    cases l with
    |nil=>rfl
    |cons=>grind
  |y::es,l,i,hl,hr=>by
    cases l with
    |nil=>grind
    |cons e l=>
      have h1:=Lx h9 hv (hr 0 e y rfl rfl)
      have ih:=yz h9 hv es l (i+1) (by grind) (λj e' y' a b=>hr (j+1) e' y' (by grind) (by grind))
      have e1:lW x (y::es)=if(y.1==x)=true then some 0 else(lW x es).map (· + 1):=by
        simp only[lW,gQ]
      rw[Instr.findAsking,Sem.run_bind,h1,e1,Result.andThen_ok]
      cases hb:(y.1==x) with
      |true=>simp
      |false=>
        simp only[cg,ψ,ih]
        cases lW x es with
        |none=>rfl
        |some m=>grind
theorem oZ{kt:TypeId}{fs:Array Field}{f g:Field}(h9:K9 P kt fs f g){v:Value}{x:List UInt8×List UInt8}(hv:dP G w ρ v (vY x)){es:List ME}{l:List MapEntry}(hl:l.length=es.length)(hr:∀(j:Nat)(e:MapEntry)(y:ME),l[j]?=some e->es[j]?=some y->dP G w ρ e.key (vY y.1)) :
  (Instr.findKey kt v l).run P w=.ok ((lW x es).bind λm=>(l[m]?).map λe=>(m,e.val)) w:=by
 have h1:=yz h9 hv es l 0 hl hr;simp only[cE]at h1;unfold Instr.findKey;rw[Sem.run_bind,run_underlying h9.un,Result.andThen_ok];cases l with
 |nil=>
  assumption
 |cons e l=>
  assumption
theorem xX(hC:an E n G ρ t h a w){v:Value}{id z:Nat}{es:List ME}{out:Option (Nat×V)}{it:Option (Nat×It)}(hv:az G w ρ v (.mp id))(hx:h[id]?=some (.ms z es out it)) :
  ∃r arr clk,v=.map (some r)/\ρ[id]?=some (.map (some r))/\w.heap[r]?=some (.map arr clk)/\arr.size=es.length/\ord arr clk/\(∀(j:Nat)(e:MapEntry)(y:ME),arr.toList[j]?=some e->es[j]?=some y->dP G w ρ e.key (vY y.1)):=by
 cases hv with|o hv=>cases hv with|c hv=>cases hv with|k hv=>cases hv with|mp _ r hρ =>
 obtain⟨⟨r',arr,clk,e,h1,h2,h3,h4,h5,_⟩,_⟩:=hC.ok.hr.rep id _ _ hρ hx;cases e;exact⟨r,arr,clk,rfl,hρ,h1,h2,h3,λj e y a b=>(h5 j e y (by grind) b).1.mono (λ_ h=>h) (λ_ _=>rfl) (λi hi=>by contradiction)⟩
theorem JR{v:Value}{k:List UInt8×List UInt8}(hv:az G w ρ v (vY k)):dP G w ρ v (vY k):=by
 cases hv with
 |o h=>exact h
theorem Hl(hC:an E n G ρ t h a w)(hn:gq E n a o K bS){ty kt e t2:TypeId}{x k:Operand}{ok':O}{ks:List Nat}{zv:V}{ok:Bool}{id:Nat}(ho:o.op=.lookup ty x k ok)(hu:P.underlying ty=some (.map kt e))(hvx:az G w ρ (a.eval x) (.mp id))(hkk:cO P t2 k=some ok')
    (hks:yU P kt=some ks) (hz:A8 P e=some zv) (hok:ok=false) (hk:PC id t h λt h=>(match get? h id,Ew (gv t ok') with
        |some (.ms z es none it),some key=>Nat.beq (ks.headD 0) 9=true /\
          ((∃ i b rs, (lW key es = some i ∧ (es[i]?).map (·.2) = some (some (b, rs))) ∧ fl (h.set id (.ms z (eQ i none es) (some (i, .os h.length)) it) ++ [.rows z rs]) fun h' => iO h.length fun n => K (.os n) t h') ∨
           ((lW key es=none/\Uy zv=true)/\fl (h++[.rows z []]) λh'=>iO h.length λn=>K (.os n) t h'))
        |_,_=>False)):o.wp P a w bS Q:=by
  subst hok
  obtain⟨t,h,hC,hk⟩:=wj hC hk
  rw[get?_eq]at hk
  split at hk
  · rename_i z es it key hx hkey
    obtain⟨h9,hk⟩:=hk
    obtain⟨fs,f,g,h9⟩:=Mn hks h9
    have hvk:=bG hC hkk
    rw[uO hkey]at hvk
    obtain⟨r,arr,clk,he,hρ,hb,hsz,hor,hr⟩:=xX hC hvx hx
    have hf:=oZ h9 (JR hvk) (by grind) hr
    obtain⟨s1,s2,hs,_⟩:=qY hvk
    have hck:=mD (w:=w) h9 s1 s2 arr.isEmpty 9998
    rw[<-hs]at hck
    have hl:=hC.ok.hr.len
    rcases hk with⟨i,b,rs,⟨hi,hes⟩,hk⟩|⟨⟨hi,hnl⟩,hk⟩
    · simp only[bn,cP]at hk
      rw[aJ]at hes
      obtain⟨⟨k',y⟩,he1,he2⟩:=hes
      subst he2
      obtain⟨r',arr',clk',e',q1,q2,q3,q4,hC'⟩:=hC.taken hx he1
      rw[hρ]at q1
      cases q1
      rw[hb]at q2
      cases q2
      have hft:(Instr.findKey kt (a.eval k) arr.toList).run P w=.ok (some (i,e'.val)) w:=by
        grind
      refine dc (v':=e'.val) (w':=w) ?_ (hn _ _ _ _ _ _ _ hC' ?_ hk)
      · simp only[execOp,ho]
        refine cL ?_
        simp[Instr.lookup,run_underlying hu,he,MapKept.run_getObj_map hb,hck,hft]
      · generalize e'.val=u at q4⊢
        cases u<;>first|(cases q4;done)|skip
        exact .k (.os _ _ _ _ (by grind))
    · simp only[bn,cP]at hk
      obtain⟨zz,hz1,hz2,_⟩:=w7 (P:=P) (G:=G) (w:=w) (ρ := ρ) hz
      have hzz:zz=.slice none 0 0:=by
        cases zv<;>first|(cases hnl;done)|skip
        cases hz2 with
        |c h=>cases h with
          |k h=>cases h;rfl
      subst hzz
      have hft:(Instr.findKey kt (a.eval k) arr.toList).run P w=.ok none w:=by
        grind
      have hC':=hC.push (ga.refl w) (.slice none 0 0) (.rows z []) (by simp[gB]) (.inl ⟨rfl,rfl⟩)
      refine dc (v':=.slice none 0 0) (w':=w) ?_ (hn _ _ _ _ _ _ _ hC' (.k (.os _ _ _ _ (by grind))) hk)
      simp only[execOp,ho]
      refine cL ?_
      simp[Instr.lookup,run_underlying hu,he,MapKept.run_getObj_map hb,hck,hft,hz1]
  grind
theorem an.QG(hC:an E n G ρ t h a w){id r z:Nat}{es es':List ME}{out out':Option (Nat×V)}{it it':Option (Nat×It)}{arr arr':Array MapEntry}{clk clk':Nat}(hρ:ρ[id]?=some (.map (some r)))(hx:h[id]?=some (.ms z es out it))(hb:w.heap[r]?=some (.map arr clk))
    (hs:arr'.size=es'.length) (ho:ord arr' clk') (hg:∀b,b∈Bt es'->b∈Bt es) (hi:Hq es')
    (hr:∀(i:Nat)(e:MapEntry)(x:ME),arr'[i]?=some e->es'[i]?=some x->dP G w [] e.key (vY x.1)/\∀b rs,x.2=some (b,rs)->gB e.val=b/\v8 G w e.val z rs)
    (hol:∀(i:Nat)(v:V),out'=some (i,v)->i<es'.length) (hov:∀(i:Nat)(v:V)(e:MapEntry),out'=some (i,v)->arr'[i]?=some e->dO G w ρ e.val v)
    (hit:it'=none\/(it'=it/\clk'=clk/\∀i:Nat,(arr'[i]?).map (·.born)=(arr[i]?).map (·.born))) :
    an E n G ρ t (h.set id (.ms z es' out' it')) a {w with heap:=w.heap.setIfInBounds r (.map arr' clk')}:=by
  have hh:=MapKept.heap_set (o':=.map arr' clk') hb
  have hG:∀b,G b->(w.heap.setIfInBounds r (.map arr' clk'))[b]?=w.heap[b]?:=λb hbG=>hh.2 b (λe=>hC.ok.hr.gd b hbG ⟨id,_,_,hρ,hx,by simp,by rw[e];exact bT.2 (.inl rfl)⟩)
  obtain⟨⟨r',arr0,clk0,e0,h1,h2,h3,h4,h5,h6,h7⟩,hit0⟩:=hC.ok.hr.rep id _ _ hρ hx
  cases e0
  rw[hb]at h1
  cases h1
  have hne:∀b,b∈Bt es->(w.heap.setIfInBounds r (.map arr' clk'))[b]?=w.heap[b]?:=λb hb2=>hh.2 b (λe=>h4.2 (e ▸ hb2))
  refine hC.tJ (w':={w with heap:=w.heap.setIfInBounds r (.map arr' clk')}) hρ hx (by simp) (by simp) (λb _ hbk=>hh.2 b (λe=>hbk (by rw[e];exact bT.2 (.inl rfl)))) rfl rfl rfl ?_ (λb hb2=>.inl ?_)
  · refine ⟨⟨r, arr', clk', rfl, hh.1, hs, ho, ⟨hi, fun h => h4.2 (hg r h)⟩, fun i e x he hx => ⟨(hr i e x he hx).1.mono (fun _ h => h) hG (fun _ _ => rfl), fun b rs hv => ?_⟩, hol, fun i v e hv he => (hov i v e hv he).mono (fun _ h => h) hG (fun _ _ => rfl)⟩, ?_⟩
    · obtain⟨g1,g2⟩:=(hr i e x he hx).2 b rs hv
      refine⟨g1,g2.mono (λ_ h=>h) hG λc hc=>hne c (hg c (eL.2 ⟨i,x.1,rs,?_⟩))⟩
      grind
    · rcases hit with rfl|⟨rfl,rfl,hbn⟩
      · trivial
      · match it',hit0 with
        |none,_=>trivial
        |some (q,l),hit0=>
          refine⟨?_,λhb2=>hit0.2 (hg q hb2)⟩
          obtain⟨m,arr1,clk1,seen,e0,g1,g2,g3,g6,g7,g8⟩:=hit0.1
          cases e0
          rw[hb]at g1
          cases g1
          have tr:∀(i:Nat){e:MapEntry},arr'[i]?=some e->∃e',arr[i]?=some e'/\e'.born=e.born:=λi e h1=>by
            grind
          have tr':∀(i:Nat){e:MapEntry},arr[i]?=some e->∃e',arr'[i]?=some e'/\e'.born=e.born:=λi e h1=>by
            grind
          refine⟨r,arr',clk',seen,rfl,hh.1,g2,(hh.2 q (λe=>g2 e.symm)).trans g3,g6,λi=>(g7 i).trans ?_,λi hi=>?_⟩
          grind
          grind
  · simp only[gh,aT]at hb2
    refine bT.2 (.inr ?_)
    simp only[gh,aT]
    rcases hb2 with hb2|hb2
    grind
    · rcases hit with rfl|⟨rfl,_⟩
      · cases hb2
      grind
theorem xD(s1 s2:ByteArray):Instr.sameBits 10000 (.agg #[.string s1,.string s2]) (.agg #[.string s1,.string s2])=true:=by
 simp[Instr.sameBits,bytes_beq]
theorem Hk (hC:an E n G ρ t h a w) (hn:gq E n a o K bS) {ty kt e t2 t3:TypeId} {x k v:Operand} {ok' ov:O} {ks:List Nat} {id z:Nat} {es:List ME} {out:Option (Nat×V)} {it:Option (Nat×It)} (ho:o.op = .mapUpdate ty x k v∨o.op = .insert ty x k v) (hu:P.underlying ty=some (.map kt e)) (hvx:az G w ρ (a.eval x) (.mp id)) (hkk:cO P t2 k=some ok') (hv:cO P t3 v=some ov)
    (hks:yU P kt=some ks) (hx:h[id]?=some (.ms z es out it)) (hk:(match Ew (gv t ok'),Sm t ov with
        |some key,.os m=>(match get? h m with
          |some (.rows z' rs)=>(Nat.beq z z'=true/\Nat.beq (ks.headD 0) 9=true) /\
            ((∃ i, (lW key es = some i ∧ ∀ j v, out = some (j, v) → j = i) ∧ ∀ b, pB (mK m t) fun t => flb (((h.map (jP m)).set m .no).set id (.ms z (eQ i (some (b, rs)) es) none it)) fun h => K .ud t h) ∨
             ((lW key es=none/\out=none/\it=none)/\∀b,pB (mK m t) λt=>flb (((h.map (jP m)).set m .no).set id (.ms z (es++[(key,some (b,rs))]) none none)) λh=>K .ud t h))
          |_=>False)
        |some key,.nl z'=>(Nat.beq z z'=true/\Nat.beq (ks.headD 0) 9=true) /\
            ((∃ i, (lW key es = some i ∧ ∀ j v, out = some (j, v) → j = i) ∧ K .ud t (h.set id (.ms z (eQ i (some (none, [])) es) none it))) ∨
             ((lW key es=none/\out=none/\it=none)/\K .ud t (h.set id (.ms z (es++[(key,some (none,[]))]) none none))))
        |_,_=>False)):o.wp P a w bS Q:=by
  have hexec:∀w',(Instr.mapUpdate ty (a.eval x) (a.eval k) (a.eval v)).run P w=.ok () w'->(execOp a.eval o).run P w=.ok .skip w':=by
    intro w' hw
    rcases ho with ho|ho<;>simp[execOp,ho,hw]
  have hvk:=bG hC hkk
  have hvv:=Hy hC hv
  obtain⟨r,arr,clk,he,hρ,hb,hsz,hor,hr⟩:=xX hC hvx hx
  obtain⟨⟨r',arr0,clk0,e0,h1,h2,h3,h4,h5,h6,h7⟩,hit0⟩:=hC.ok.hr.rep id _ _ hρ hx
  cases e0
  rw[hb]at h1
  cases h1
  have found:∀{key:List UInt8×List UInt8}{i:Nat},Ew (gv t ok')=some key->Nat.beq (ks.headD 0) 9=true->lW key es=some i->(Instr.mapUpdate ty (a.eval x) (a.eval k) (a.eval v)).run P w=.ok () {w with heap:=w.heap.setIfInBounds r (.map (arr.modify i λe=>{e with key:=a.eval k,val:=a.eval v}) clk)}/\(es[i]?).map (·.1)=some key:=by
    intro key i hkey h9 hi
    obtain⟨fs,f,g,h9⟩:=Mn hks h9
    rw[uO hkey]at hvk
    have hf:=oZ h9 (JR hvk) (by grind) hr
    obtain⟨s1,s2,hs,e1,e2⟩:=qY hvk
    have hck:=mD (w:=w) h9 s1 s2 false 9998
    rw[<-hs]at hck
    obtain⟨hil,hp,_⟩:=List.findIdx?_eq_some_iff_getElem.1 hi
    have hia:i<arr.size:=by grind
    have hkk:(es[i]).1=key:=by grind
    have hft:(Instr.findKey kt (a.eval k) arr.toList).run P w=.ok (some (i,arr[i].val)) w:=by
      grind
    have hold:arr[i].key=a.eval k:=by
      have:=hr i arr[i] es[i] (by grind) (by grind)
      rw[hkk]at this
      obtain⟨u1,u2,hu0,g1,g2⟩:=qY (.o this)
      rw[hu0,hs]
      have sA:∀p q:ByteArray,p.data.toList=q.data.toList->p=q:=by
        rintro ⟨⟨p⟩⟩ ⟨⟨q⟩⟩ h
        grind
      grind
    have hks':(Instr.keyThatStays arr[i].key (a.eval k)).run P w=.ok (a.eval k) w:=by
      rw[hold]
      unfold Instr.keyThatStays
      rw[hs,xD]
      rfl
    refine⟨?_,by grind⟩
    simp[Instr.mapUpdate,run_underlying hu,he,MapKept.run_getObj_map hb,hck,hft,hia,hks',MapKept.run_setObj_map _ hb]
  have fresh:∀{key:List UInt8×List UInt8},Ew (gv t ok')=some key->Nat.beq (ks.headD 0) 9=true->lW key es=none->(Instr.mapUpdate ty (a.eval x) (a.eval k) (a.eval v)).run P w=.ok () {w with heap:=w.heap.setIfInBounds r (.map (arr.push {key:=a.eval k,val:=a.eval v,born:=clk}) (clk+1))}:=by
    intro key hkey h9 hi
    obtain⟨fs,f,g,h9⟩:=Mn hks h9
    rw[uO hkey]at hvk
    have hf:=oZ h9 (JR hvk) (by grind) hr
    obtain⟨s1,s2,hs,e1,e2⟩:=qY hvk
    have hck:=mD (w:=w) h9 s1 s2 false 9998
    rw[<-hs]at hck
    have hft:(Instr.findKey kt (a.eval k) arr.toList).run P w=.ok none w:=by
      grind
    simp[Instr.mapUpdate,run_underlying hu,he,MapKept.run_getObj_map hb,hck,hft,MapKept.run_setObj_map _ hb]
  have keyR:∀{key:List UInt8×List UInt8},Ew (gv t ok')=some key->dP G w [] (a.eval k) (vY key):=λhkey=>by
    rw[uO hkey]at hvk
    exact(JR hvk).mono (λ_ h=>h) (λ_ _=>rfl) (λi hi=>by contradiction)
  have setF:∀{key:List UInt8×List UInt8}{i:Nat}(ex:Option (Option Nat×List (List D)))(out':Option (Nat×V)),Ew (gv t ok')=some key->(es[i]?).map (·.1)=some key->(∀b rs,ex=some (b,rs)->b=none/\gB (a.eval v)=none/\v8 G w (a.eval v) z rs)->(∀j u,out'=some (j,u)->j=i/\dO G w ρ (a.eval v) u) ->
      an E n G ρ t (h.set id (.ms z (eQ i ex es) out' it)) a {w with heap:=w.heap.setIfInBounds r (.map (arr.modify i λe=>{e with key:=a.eval k,val:=a.eval v}) clk)}:=by
    intro key i ex out' hkey hik hex hout
    refine hC.QG hρ hx hb (by rw[nk];grind) (ti (λ_=>rfl) hor) (λb hb2=>?_) (t_ h4.1 λb rs e=>by grind) (λj e' y he' hj=>?_) (λj u hj=>?_) (λj u e' hj he'=>?_) (.inr ⟨rfl,rfl,λj=>?_⟩)
    · rcases mI hb2 with⟨j,k',rs',_,hj⟩|⟨rs',e⟩
      · exact eL.2 ⟨j,k',rs',hj⟩
      grind
    · rw[Array.getElem?_modify]at he'
      rw[fX]at hj
      grind
    · obtain⟨rfl,_⟩:=hout j u hj
      rw[nk]
      grind
    grind
    grind
  have setN:∀{key:List UInt8×List UInt8}(ex:Option (Option Nat×List (List D)))(out':Option (Nat×V)),Ew (gv t ok')=some key->(∀b rs,ex=some (b,rs)->b=none/\gB (a.eval v)=none/\v8 G w (a.eval v) z rs)->(∀j u,out'=some (j,u)->j=es.length/\dO G w ρ (a.eval v) u) ->
      an E n G ρ t (h.set id (.ms z (es++[(key,ex)]) out' none)) a {w with heap:=w.heap.setIfInBounds r (.map (arr.push {key:=a.eval k,val:=a.eval v,born:=clk}) (clk+1))}:=by
    intro key ex out' hkey hex hout
    have hnb:∀(j:Nat)(k':List UInt8×List UInt8)(b:Nat)(rs:List (List D)),(es++[(key,ex)])[j]?=some (k',some (some b,rs))->es[j]?=some (k',some (some b,rs)):=by
      grind
    refine hC.QG hρ hx hb (by grind) (zG rfl hor) (λb hb2=>?_) (λi j k1 k2 rs1 rs2 b g1 g2=>h4.1 i j k1 k2 rs1 rs2 b (hnb _ _ _ _ g1) (hnb _ _ _ _ g2)) (λj e' y he' hj=>?_) (λj u hj=>?_) (λj u e' hj he'=>?_) (.inl rfl)
    · obtain⟨j,k',rs',hj⟩:=eL.1 hb2
      exact eL.2 ⟨j,k',rs',hnb _ _ _ _ hj⟩
    · rw[Array.getElem?_push]at he'
      grind
    grind
    grind
  split at hk
  · rename_i key m hkey hval
    rw[get?_eq]at hk
    split at hk
    · rename_i z' rs hm
      obtain⟨⟨hz,h9⟩,hk⟩:=hk
      have hne:m≠id:=λe=>by grind
      have hihl:id<h.length:=(aC.1 hx).1
      rw[hval]at hvv
      have hvc:dO G w ρ (a.eval v) (.os m):=by
        generalize a.eval v=u at hvv⊢
        cases hvv with
        |o h=>cases h with
          |c h=>exact h
      rcases hk with⟨i,⟨hi,_⟩,hk⟩|⟨⟨hi,_,rfl⟩,hk⟩
      · obtain⟨hrun,hik⟩:=found hkey h9 hi
        have hC1:=setF none (some (i,.os m)) hkey hik (λb rs e=>by cases e) (λj u e=>by grind)
        obtain⟨b,hC2⟩:=hC1.Qr (by rw[bZ hihl]) (by rw[bq (kP hne)];exact hm) (fN hz)
        have hk:=hk b
        simp only[j6,fH]at hk
        refine ji (hexec _ hrun) (hn _ _ _ _ _ _ _ hC2 (.k .ud) ?_)
        have e1:eQ i (some (b,rs)) (eQ i none es)=eQ i (some (b,rs)) es:=by
          apply bz
          intro j
          simp only[fX]
          grind
        have e2:(((List.map (jP m) (List.set h id (B.ms z (eQ i none es) (some (i,.os m)) it))).set m B.no).set id (B.ms z (eQ i (some (b,rs)) (eQ i none es)) none it))=(((List.map (jP m) h).set m .no).set id (.ms z (eQ i (some (b,rs)) es) none it)):=by
          rw[e1,eR,List.set_comm _ _ (kP hne),List.set_set]
        grind
      · have hC1:=setN none (some (es.length,.os m)) hkey (λb rs e=>by cases e) (λj u e=>by grind)
        obtain⟨b,hC2⟩:=hC1.Qr (by rw[bZ hihl]) (by rw[bq (kP hne)];exact hm) (fN hz)
        have hk:=hk b
        simp only[j6,fH]at hk
        refine ji (hexec _ (fresh hkey h9 hi)) (hn _ _ _ _ _ _ _ hC2 (.k .ud) ?_)
        have e1:eQ es.length (some (b,rs)) (es++[(key,none)])=es++[(key,some (b,rs))]:=by
          apply bz
          intro j
          rw[fX,List.getElem?_append,List.getElem?_append]
          grind
        have e2:(((List.map (jP m) (List.set h id (B.ms z (es++[(key,none)]) (some (es.length,.os m)) none))).set m B.no).set id (B.ms z (eQ es.length (some (b,rs)) (es++[(key,none)])) none none))=(((List.map (jP m) h).set m .no).set id (.ms z (es++[(key,some (b,rs))]) none none)):=by
          rw[e1,eR,List.set_comm _ _ (kP hne),List.set_set]
        grind
    grind
  · rename_i key z' hkey hval
    obtain⟨⟨hz,h9⟩,hk⟩:=hk
    rw[hval]at hvv
    have hvn:a.eval v=.slice none 0 0:=by
      generalize a.eval v=u at hvv
      cases hvv with
      |o h=>cases h with
        |c h=>cases h with
          |k h=>cases h;rfl
    have hex:∀b rs,(some (none,[]):Option (Option Nat×List (List D)))=some (b,rs)->b=none/\gB (a.eval v)=none/\v8 G w (a.eval v) z rs:=λb rs e=>by
      cases e
      rw[hvn]
      exact⟨rfl,rfl,.inl ⟨rfl,rfl⟩⟩
    rcases hk with⟨i,⟨hi,_⟩,hk⟩|⟨⟨hi,_,rfl⟩,hk⟩
    · obtain⟨hrun,hik⟩:=found hkey h9 hi
      exact ji (hexec _ hrun) (hn _ _ _ _ _ _ _ (setF (some (none,[])) none hkey hik hex (λj u e=>by cases e)) (.k .ud) hk)
    · exact ji (hexec _ (fresh hkey h9 hi)) (hn _ _ _ _ _ _ _ (setN (some (none,[])) none hkey hex (λj u e=>by cases e)) (.k .ud) hk)
  grind
end
end Go.Vx
