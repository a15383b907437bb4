/- Lemmas. Conditions: none. -/
import Derived.Test.YtjpgfgajkjhonaaGreatDoorQRAH
namespace Go.Vx
open Go.MapKept
section
variable{P:Program}{E:gL}{n:Nat}{G:Nat->Prop}{ρ ρ':List Value}{t:T}{h:H}{a:Act}{w:World}{o:Oper}{bV:Act->World->Prop}{Q:Exit->Act->World->Prop}{K KP:V->T->H->Prop}
variable(S:Nat->List V->H->(Out->H->Prop)->Prop)(ow:Nat->Bool)
theorem tV{x:V}{k:List UInt8×List UInt8}(h:ES x=some k):x=ua k:=by
 unfold ES at h;split at h
 .cases h;rfl
 grind
structure K9(P:Program)(kt:TypeId)(fs:Array Field)(f g:Field):Prop where
  fl:flat P 100 kt=some [2,2]
  un:P.underlying kt=some (.struct fs)
  ls:fs=#[f,g]
  n1:f.name ≠ "_"
  n2:g.name ≠ "_"
  o1:f.offset=0
  o2:g.offset=1
  s1:P.underlying f.type=some .string
  s2:P.underlying g.type=some .string
theorem yn{t:TypeId}(h:isStr P t=true):P.underlying t=some .string:=by
 unfold isStr at h
 grind
theorem Lv{y:TypeId}{ks:List Nat}(h:xh P y=some ks)(x:Nat.beq (ks.headD 0) 9=true):∃fs f g,K9 P y fs f g:=by
 unfold xh at h;split at h
 .cases h;cases x
 .cases h;cases x
 .cases h;cases x
 .rename_i fs u;split at h
  .rename_i f g hl;split at h
   .rename_i z;simp only[aP,bne_iff_ne,ne_eq,ξ]at z;have⟨⟨⟨⟨⟨⟨v,c2⟩,c3⟩,c4⟩,c5⟩,b⟩,c⟩:=z;exact⟨fs,f,g,c,u,Array.toList_inj.1 hl,v,c2,c3,c4,yn c5,yn b⟩
   grind
  grind
 grind
theorem pd{v:Value}{k:List UInt8×List UInt8}(z:au G w ρ v (ua k)):∃s1 s2:ByteArray,v=.agg #[.string s1,.string s2]/\s1.data.toList=k.1/\s2.data.toList=k.2:=by
 obtain⟨cs,rfl,j,y⟩:=z.R9;have u:=y 0 _ rfl;have b:=y 1 _ rfl;have⟨s1,d,e,_⟩:=(au.c u).str;have⟨s2,f,g,_⟩:=(au.c b).str;refine⟨s1,s2,?_,e,g⟩;congr 1;apply Array.ext
 grind
 .intro i l x;simp only[eX,aX,ah]at x;rw[aF]at d f
  grind
theorem pS{ty:TypeId}(z:P.underlying ty=some .string){s1 s2:ByteArray}{i:Nat}{s:ByteArray}(x : #[Value.string s1,.string s2][i]?=some (.string s)):(part ty #[.string s1,.string s2] i).run P w=.ok (.string s) w:=by
 have y:kO P ty=some false:=by simp[kO,z]
 have hl:i < #[Value.string s1,.string s2].size:=(aQ.1 x).1;have : #[Value.string s1,.string s2][i]=.string s:=(aQ.1 x).2;simp[part,ib y,x]
theorem lh{y:TypeId}{fs:Array Field}{f g:Field}(x:K9 P y fs f g)(s1 s2:ByteArray)(b:Bool)(m:Nat):(Instr.checkKey b (m+2) y (.agg #[.string s1,.string s2])).run P w=.ok () w:=by
 obtain⟨e,z,rfl,i,j,u,v,c,x⟩:=x;have k:(part f.type #[.string s1,.string s2] f.offset).run P w=.ok (.string s1) w:=by rw[u];exact pS c rfl
 have l:(part g.type #[.string s1,.string s2] g.offset).run P w=.ok (.string s2) w:=by rw[v];exact pS x rfl
 have q:∀(ty:TypeId)(s:ByteArray),P.underlying ty=some .string->(Instr.checkKey b (m+1) ty (.string s)).run P w=.ok () w:=λty s d=>by
  simp[Instr.checkKey,run_underlying d]
 rw[Instr.checkKey];simp only[Sem.run_bind,run_underlying z,Result.andThen_ok];simp_all
theorem LI{b:TypeId}{fs:Array Field}{f g:Field}(c:K9 P b fs f g){v u:Value}{x y:List UInt8×List UInt8}(j:dM G w ρ v (ua x))(k:dM G w ρ u (ua y)):(Op.equal b v u).run P w=.ok (y==x) w:=by
 have ag:kO P b=some true:=by simp[kO,c.un]
 have st:∀z:List UInt8×List UInt8,(ua z).cs.all fA=true:=λz=>rfl;have d:=py c.fl ag (x:=ua x) rfl (.o j) (st x);have i:=py c.fl ag (x:=ua y) rfl (.o k) (st y);have he:rH [2,2] (ua x).cs (ua y).cs=some (x.1==y.1&&(x.2==y.2&&true)):=rfl;have:=uC 100 b [2,2] _ _ _ _ _ 10000 c.fl d i he (by decide);have e:(y==x)=(x.1==y.1&&(x.2==y.2&&true)):=by
  grind
 rw[e];exact this
theorem yF{kt:TypeId}{fs:Array Field}{f g:Field}(h9:K9 P kt fs f g){v:Value}{x:List UInt8×List UInt8}(hv:dM G w ρ v (ua x)):∀(es:List ME)(l:List MapEntry)(i:Nat),l.length=es.length->(∀(j:Nat)(e:MapEntry)(y:ME),l[j]?=some e->es[j]?=some y->dM G w ρ e.key (ua y.1)) ->
    (Instr.findAsking kt v l i).run P w=.ok ((lJ x es).bind λm=>(l[m]?).map λe=>(i+m,e.val)) w
  |[],l,i,hl,_=>by
    cases l with
    |nil=>rfl
    |cons=>grind
  |y::es,l,i,hl,hr=>by
    cases l with
    |nil=>grind
    |cons e l=>
      have h1:=LI h9 hv (hr 0 e y rfl rfl)
      have ih:=yF h9 hv es l (i+1) (by grind) (λj e' y' a b=>hr (j+1) e' y' (by grind) (by grind))
      have e1:lJ x (y::es)=if(y.1==x)=true then some 0 else(lJ x es).map (· + 1):=by
        simp only[lJ,gP]
      rw[Instr.findAsking,Sem.run_bind,h1,e1,Result.andThen_ok]
      cases hb:(y.1==x) with
      |true=>simp
      |false=>
        simp only[cj,ψ,ih]
        cases lJ x es with
        |none=>rfl
        |some m=>grind
theorem nZ{z:TypeId}{fs:Array Field}{f g:Field}(u:K9 P z fs f g){v:Value}{x:List UInt8×List UInt8}(b:dM G w ρ v (ua x)){es:List ME}{l:List MapEntry}(hl:l.length=es.length)(hr:∀(j:Nat)(e:MapEntry)(y:ME),l[j]?=some e->es[j]?=some y->dM G w ρ e.key (ua y.1)) :
  (Instr.findKey z v l).run P w=.ok ((lJ x es).bind λm=>(l[m]?).map λe=>(m,e.val)) w:=by
 have c:=yF u b es l 0 hl hr;simp only[cF]at c;unfold Instr.findKey;rw[Sem.run_bind,run_underlying u.un,Result.andThen_ok];cases l with
 |nil=>
  assumption
 |cons e l=>
  assumption
theorem wo(d:ak E n G ρ t h a w){v:Value}{id z:Nat}{es:List ME}{out:Option (Nat×V)}{it:Option (Nat×It)}(x:au G w ρ v (.mp id))(f:h[id]?=some (.ms z es out it)) :
  ∃r arr clk,v=.map (some r)/\ρ[id]?=some (.map (some r))/\w.heap[r]?=some (.map arr clk)/\arr.size=es.length/\ord arr clk/\(∀(j:Nat)(e:MapEntry)(y:ME),arr.toList[j]?=some e->es[j]?=some y->dM G w ρ e.key (ua y.1)):=by
 cases x with|o x=>cases x with|c x=>cases x with|k x=>cases x with|mp _ r u =>
 have⟨⟨r',arr,clk,e,g,l,m,q,p,_⟩,_⟩:=d.ok.hr.rep id _ _ u f;cases e;exact⟨r,arr,clk,rfl,u,g,l,m,λj e y a b=>(p j e y (by grind) b).1.mono (λ_ h=>h) (λ_ _=>rfl) (λi s=>by contradiction)⟩
theorem H6{v:Value}{k:List UInt8×List UInt8}(x:au G w ρ v (ua k)):dM G w ρ v (ua k):=by
 cases x with
 |o h=>exact h
theorem Gi(hC:ak E n G ρ t h a w)(hn:iQ E n a o K bV){ty kt e t2:TypeId}{x k:Operand}{ok':O}{ks:List Nat}{zv:V}{ok:Bool}{id:Nat}(ho:o.op=.lookup ty x k ok)(hu:P.underlying ty=some (.map kt e))(hvx:au G w ρ (a.eval x) (.mp id))(hkk:cX P t2 k=some ok')
    (hks:xh P kt=some ks) (hz:zk P e=some zv) (hok:ok=false) (hk:NQ id t h λt h=>(match get? h id,ES (gv t ok') with
        |some (.ms z es none it),some key=>Nat.beq (ks.headD 0) 9=true /\
          ((∃ i b rs, (lJ key es = some i ∧ (es[i]?).map (·.2) = some (some (b, rs))) ∧ fl (h.set id (.ms z (eM i none es) (some (i, .os h.length)) it) ++ [.rows z rs]) fun h' => iX h.length fun n => K (.os n) t h') ∨
           ((lJ key es=none/\UC zv=true)/\fl (h++[.rows z []]) λh'=>iX h.length λn=>K (.os n) t h'))
        |_,_=>False)):o.wp P a w bV Q:=by
  subst hok
  have⟨t,h,hC,hk⟩:=wC hC hk
  rw[get?_eq]at hk
  split at hk
  · rename_i z es it key hx hkey
    have⟨h9,hk⟩:=hk
    have⟨fs,f,g,h9⟩:=Lv hks h9
    have hvk:=bG hC hkk
    rw[tV hkey]at hvk
    have⟨r,arr,clk,he,hρ,hb,hsz,hor,hr⟩:=wo hC hvx hx
    have hf:=nZ h9 (H6 hvk) (by grind) hr
    have⟨s1,s2,hs,_⟩:=pd hvk
    have hck:=lh (w:=w) h9 s1 s2 arr.isEmpty 9998
    rw[<-hs]at hck
    have hl:=hC.ok.hr.len
    rcases hk with⟨i,b,rs,⟨hi,hes⟩,hk⟩|⟨⟨hi,hnl⟩,hk⟩
    · simp only[bf,cZ]at hk
      rw[aG]at hes
      have⟨⟨k',y⟩,he1,he2⟩:=hes
      subst he2
      have⟨r',arr',clk',e',q1,q2,q3,q4,hC'⟩:=hC.taken hx he1
      rw[hρ]at q1
      cases q1
      rw[hb]at q2
      cases q2
      have hft:(Instr.findKey kt (a.eval k) arr.toList).run P w=.ok (some (i,e'.val)) w:=by
        grind
      refine dU (v':=e'.val) (w':=w) ?_ (hn _ _ _ _ _ _ _ hC' ?_ hk)
      · simp only[execOp,ho]
        refine cT ?_
        simp[Instr.lookup,run_underlying hu,he,MapKept.run_getObj_map hb,hck,hft]
      · generalize e'.val=u at q4⊢
        cases u<;>first|(cases q4;done)|skip
        exact .k (.os _ _ _ _ (by grind))
    · simp only[bf,cZ]at hk
      have⟨zz,hz1,hz2,_⟩:=vu (P:=P) (G:=G) (w:=w) (ρ := ρ) hz
      have hzz:zz=.slice none 0 0:=by
        cases zv<;>first|(cases hnl;done)|skip
        cases hz2 with
        |c h=>cases h with
          |k h=>cases h;rfl
      subst hzz
      have hft:(Instr.findKey kt (a.eval k) arr.toList).run P w=.ok none w:=by
        grind
      have hC':=hC.push (gK.refl w) (.slice none 0 0) (.rows z []) (by simp[fO]) (.inl ⟨rfl,rfl⟩)
      refine dU (v':=.slice none 0 0) (w':=w) ?_ (hn _ _ _ _ _ _ _ hC' (.k (.os _ _ _ _ (by grind))) hk)
      simp only[execOp,ho]
      refine cT ?_
      simp[Instr.lookup,run_underlying hu,he,MapKept.run_getObj_map hb,hck,hft,hz1]
  grind
theorem ak.PT(hC:ak E n G ρ t h a w){id r z:Nat}{es es':List ME}{out out':Option (Nat×V)}{it it':Option (Nat×It)}{arr arr':Array MapEntry}{clk clk':Nat}(hρ:ρ[id]?=some (.map (some r)))(hx:h[id]?=some (.ms z es out it))(hb:w.heap[r]?=some (.map arr clk))
    (hs:arr'.size=es'.length) (ho:ord arr' clk') (hg:∀b,b∈BM es'->b∈BM es) (hi:Gm es')
    (hr:∀(i:Nat)(e:MapEntry)(x:ME),arr'[i]?=some e->es'[i]?=some x->dM G w [] e.key (ua x.1)/\∀b rs,x.2=some (b,rs)->fO e.val=b/\zY G w e.val z rs)
    (hol:∀(i:Nat)(v:V),out'=some (i,v)->i<es'.length) (hov:∀(i:Nat)(v:V)(e:MapEntry),out'=some (i,v)->arr'[i]?=some e->dI G w ρ e.val v)
    (hit:it'=none\/(it'=it/\clk'=clk/\∀i:Nat,(arr'[i]?).map (·.born)=(arr[i]?).map (·.born))) :
    ak E n G ρ t (h.set id (.ms z es' out' it')) a {w with heap:=w.heap.setIfInBounds r (.map arr' clk')}:=by
  have hh:=MapKept.heap_set (o':=.map arr' clk') hb
  have hG:∀b,G b->(w.heap.setIfInBounds r (.map arr' clk'))[b]?=w.heap[b]?:=λb hbG=>hh.2 b (λe=>hC.ok.hr.gd b hbG ⟨id,_,_,hρ,hx,by simp,by rw[e];exact bR.2 (.inl rfl)⟩)
  have⟨⟨r',arr0,clk0,e0,h1,h2,h3,h4,h5,h6,h7⟩,hit0⟩:=hC.ok.hr.rep id _ _ hρ hx
  cases e0
  rw[hb]at h1
  cases h1
  have hne:∀b,b∈BM es->(w.heap.setIfInBounds r (.map arr' clk'))[b]?=w.heap[b]?:=λb hb2=>hh.2 b (λe=>h4.2 (e ▸ hb2))
  refine hC.sP (w':={w with heap:=w.heap.setIfInBounds r (.map arr' clk')}) hρ hx (by simp) (by simp) (λb _ hbk=>hh.2 b (λe=>hbk (by rw[e];exact bR.2 (.inl rfl)))) rfl rfl rfl ?_ (λb hb2=>.inl ?_)
  · refine ⟨⟨r, arr', clk', rfl, hh.1, hs, ho, ⟨hi, fun h => h4.2 (hg r h)⟩, fun i e x he hx => ⟨(hr i e x he hx).1.mono (fun _ h => h) hG (fun _ _ => rfl), fun b rs hv => ?_⟩, hol, fun i v e hv he => (hov i v e hv he).mono (fun _ h => h) hG (fun _ _ => rfl)⟩, ?_⟩
    · have⟨g1,g2⟩:=(hr i e x he hx).2 b rs hv
      refine⟨g1,g2.mono (λ_ h=>h) hG λc hc=>hne c (hg c (eI.2 ⟨i,x.1,rs,?_⟩))⟩
      grind
    · rcases hit with rfl|⟨rfl,rfl,hbn⟩
      · trivial
      · match it',hit0 with
        |none,_=>trivial
        |some (q,l),hit0=>
          refine⟨?_,λhb2=>hit0.2 (hg q hb2)⟩
          have⟨m,arr1,clk1,seen,e0,g1,g2,g3,g6,g7,g8⟩:=hit0.1
          cases e0
          rw[hb]at g1
          cases g1
          have tr:∀(i:Nat){e:MapEntry},arr'[i]?=some e->∃e',arr[i]?=some e'/\e'.born=e.born:=λi e h1=>by
            grind
          have tr':∀(i:Nat){e:MapEntry},arr[i]?=some e->∃e',arr'[i]?=some e'/\e'.born=e.born:=λi e h1=>by
            grind
          refine⟨r,arr',clk',seen,rfl,hh.1,g2,(hh.2 q (λe=>g2 e.symm)).trans g3,g6,λi=>(g7 i).trans ?_,λi hi=>?_⟩
          grind
          grind
  · simp only[gh,aR]at hb2
    refine bR.2 (.inr ?_)
    simp only[gh,aR]
    rcases hb2 with hb2|hb2
    grind
    · rcases hit with rfl|⟨rfl,_⟩
      · cases hb2
      grind
theorem wQ(s1 s2:ByteArray):Instr.sameBits 10000 (.agg #[.string s1,.string s2]) (.agg #[.string s1,.string s2])=true:=by
 simp[Instr.sameBits,bytes_beq]
theorem Gh (hC:ak E n G ρ t h a w) (hn:iQ E n a o K bV) {ty kt e t2 t3:TypeId} {x k v:Operand} {ok' ov:O} {ks:List Nat} {id z:Nat} {es:List ME} {out:Option (Nat×V)} {it:Option (Nat×It)} (ho:o.op = .mapUpdate ty x k v∨o.op = .insert ty x k v) (hu:P.underlying ty=some (.map kt e)) (hvx:au G w ρ (a.eval x) (.mp id)) (hkk:cX P t2 k=some ok') (hv:cX P t3 v=some ov)
    (hks:xh P kt=some ks) (hx:h[id]?=some (.ms z es out it)) (hk:(match ES (gv t ok'),KL t ov with
        |some key,.os m=>(match get? h m with
          |some (.rows z' rs)=>(Nat.beq z z'=true/\Nat.beq (ks.headD 0) 9=true) /\
            ((∃ i, (lJ key es = some i ∧ ∀ j v, out = some (j, v) → j = i) ∧ ∀ b, BS (ju m t) fun t => flb (((h.map (gV m)).set m .no).set id (.ms z (eM i (some (b, rs)) es) none it)) fun h => K .ud t h) ∨
             ((lJ key es=none/\out=none/\it=none)/\∀b,BS (ju m t) λt=>flb (((h.map (gV m)).set m .no).set id (.ms z (es++[(key,some (b,rs))]) none none)) λh=>K .ud t h))
          |_=>False)
        |some key,.nl z'=>(Nat.beq z z'=true/\Nat.beq (ks.headD 0) 9=true) /\
            ((∃ i, (lJ key es = some i ∧ ∀ j v, out = some (j, v) → j = i) ∧ K .ud t (h.set id (.ms z (eM i (some (none, [])) es) none it))) ∨
             ((lJ key es=none/\out=none/\it=none)/\K .ud t (h.set id (.ms z (es++[(key,some (none,[]))]) none none))))
        |_,_=>False)):o.wp P a w bV Q:=by
  have hexec:∀w',(Instr.mapUpdate ty (a.eval x) (a.eval k) (a.eval v)).run P w=.ok () w'->(execOp a.eval o).run P w=.ok .skip w':=by
    intro w' hw
    rcases ho with ho|ho<;>simp[execOp,ho,hw]
  have hvk:=bG hC hkk
  have hvv:=Gu hC hv
  obtain⟨r,arr,clk,he,hρ,hb,hsz,hor,hr⟩:=wo hC hvx hx
  obtain⟨⟨r',arr0,clk0,e0,h1,h2,h3,h4,h5,h6,h7⟩,hit0⟩:=hC.ok.hr.rep id _ _ hρ hx
  cases e0
  rw[hb]at h1
  cases h1
  have found:∀{key:List UInt8×List UInt8}{i:Nat},ES (gv t ok')=some key->Nat.beq (ks.headD 0) 9=true->lJ key es=some i->(Instr.mapUpdate ty (a.eval x) (a.eval k) (a.eval v)).run P w=.ok () {w with heap:=w.heap.setIfInBounds r (.map (arr.modify i λe=>{e with key:=a.eval k,val:=a.eval v}) clk)}/\(es[i]?).map (·.1)=some key:=by
    intro key i hkey h9 hi
    obtain⟨fs,f,g,h9⟩:=Lv hks h9
    rw[tV hkey]at hvk
    have hf:=nZ h9 (H6 hvk) (by grind) hr
    obtain⟨s1,s2,hs,e1,e2⟩:=pd hvk
    have hck:=lh (w:=w) h9 s1 s2 false 9998
    rw[<-hs]at hck
    obtain⟨hil,hp,_⟩:=List.findIdx?_eq_some_iff_getElem.1 hi
    have hia:i<arr.size:=by grind
    have hkk:(es[i]).1=key:=by grind
    have hft:(Instr.findKey kt (a.eval k) arr.toList).run P w=.ok (some (i,arr[i].val)) w:=by
      grind
    have hold:arr[i].key=a.eval k:=by
      have:=hr i arr[i] es[i] (by grind) (by grind)
      rw[hkk]at this
      obtain⟨u1,u2,hu0,g1,g2⟩:=pd (.o this)
      rw[hu0,hs]
      have rH:∀p q:ByteArray,p.data.toList=q.data.toList->p=q:=by
        rintro ⟨⟨p⟩⟩ ⟨⟨q⟩⟩ h
        grind
      grind
    have hks':(Instr.keyThatStays arr[i].key (a.eval k)).run P w=.ok (a.eval k) w:=by
      rw[hold]
      unfold Instr.keyThatStays
      rw[hs,wQ]
      rfl
    refine⟨?_,by grind⟩
    simp[Instr.mapUpdate,run_underlying hu,he,MapKept.run_getObj_map hb,hck,hft,hia,hks',MapKept.run_setObj_map _ hb]
  have fresh:∀{key:List UInt8×List UInt8},ES (gv t ok')=some key->Nat.beq (ks.headD 0) 9=true->lJ key es=none->(Instr.mapUpdate ty (a.eval x) (a.eval k) (a.eval v)).run P w=.ok () {w with heap:=w.heap.setIfInBounds r (.map (arr.push {key:=a.eval k,val:=a.eval v,born:=clk}) (clk+1))}:=by
    intro key hkey h9 hi
    obtain⟨fs,f,g,h9⟩:=Lv hks h9
    rw[tV hkey]at hvk
    have hf:=nZ h9 (H6 hvk) (by grind) hr
    obtain⟨s1,s2,hs,e1,e2⟩:=pd hvk
    have hck:=lh (w:=w) h9 s1 s2 false 9998
    rw[<-hs]at hck
    have hft:(Instr.findKey kt (a.eval k) arr.toList).run P w=.ok none w:=by
      grind
    simp[Instr.mapUpdate,run_underlying hu,he,MapKept.run_getObj_map hb,hck,hft,MapKept.run_setObj_map _ hb]
  have keyR:∀{key:List UInt8×List UInt8},ES (gv t ok')=some key->dM G w [] (a.eval k) (ua key):=λhkey=>by
    rw[tV hkey]at hvk
    exact(H6 hvk).mono (λ_ h=>h) (λ_ _=>rfl) (λi hi=>by contradiction)
  have setF:∀{key:List UInt8×List UInt8}{i:Nat}(ex:Option (Option Nat×List (List D)))(out':Option (Nat×V)),ES (gv t ok')=some key->(es[i]?).map (·.1)=some key->(∀b rs,ex=some (b,rs)->b=none/\fO (a.eval v)=none/\zY G w (a.eval v) z rs)->(∀j u,out'=some (j,u)->j=i/\dI G w ρ (a.eval v) u) ->
      ak E n G ρ t (h.set id (.ms z (eM i ex es) out' it)) a {w with heap:=w.heap.setIfInBounds r (.map (arr.modify i λe=>{e with key:=a.eval k,val:=a.eval v}) clk)}:=by
    intro key i ex out' hkey hik hex hout
    refine hC.PT hρ hx hb (by rw[my];grind) (s_ (λ_=>rfl) hor) (λb hb2=>?_) (tE h4.1 λb rs e=>by grind) (λj e' y he' hj=>?_) (λj u hj=>?_) (λj u e' hj he'=>?_) (.inr ⟨rfl,rfl,λj=>?_⟩)
    · rcases ly hb2 with⟨j,k',rs',_,hj⟩|⟨rs',e⟩
      · exact eI.2 ⟨j,k',rs',hj⟩
      grind
    · rw[Array.getElem?_modify]at he'
      rw[fT]at hj
      grind
    · obtain⟨rfl,_⟩:=hout j u hj
      rw[my]
      grind
    grind
    grind
  have setN:∀{key:List UInt8×List UInt8}(ex:Option (Option Nat×List (List D)))(out':Option (Nat×V)),ES (gv t ok')=some key->(∀b rs,ex=some (b,rs)->b=none/\fO (a.eval v)=none/\zY G w (a.eval v) z rs)->(∀j u,out'=some (j,u)->j=es.length/\dI G w ρ (a.eval v) u) ->
      ak E n G ρ t (h.set id (.ms z (es++[(key,ex)]) out' none)) a {w with heap:=w.heap.setIfInBounds r (.map (arr.push {key:=a.eval k,val:=a.eval v,born:=clk}) (clk+1))}:=by
    intro key ex out' hkey hex hout
    have hnb:∀(j:Nat)(k':List UInt8×List UInt8)(b:Nat)(rs:List (List D)),(es++[(key,ex)])[j]?=some (k',some (some b,rs))->es[j]?=some (k',some (some b,rs)):=by
      grind
    refine hC.PT hρ hx hb (by grind) (yQ rfl hor) (λb hb2=>?_) (λi j k1 k2 rs1 rs2 b g1 g2=>h4.1 i j k1 k2 rs1 rs2 b (hnb _ _ _ _ g1) (hnb _ _ _ _ g2)) (λj e' y he' hj=>?_) (λj u hj=>?_) (λj u e' hj he'=>?_) (.inl rfl)
    · obtain⟨j,k',rs',hj⟩:=eI.1 hb2
      exact eI.2 ⟨j,k',rs',hnb _ _ _ _ hj⟩
    grind
    grind
    grind
  split at hk
  · rename_i key m hkey hval
    rw[get?_eq]at hk
    split at hk
    · rename_i z' rs hm
      obtain⟨⟨hz,h9⟩,hk⟩:=hk
      have hne:m≠id:=λe=>by grind
      have hihl:id<h.length:=(aC.1 hx).1
      rw[hval]at hvv
      have hvc:dI G w ρ (a.eval v) (.os m):=by
        generalize a.eval v=u at hvv⊢
        cases hvv with
        |o h=>cases h with
          |c h=>exact h
      rcases hk with⟨i,⟨hi,_⟩,hk⟩|⟨⟨hi,_,rfl⟩,hk⟩
      · obtain⟨hrun,hik⟩:=found hkey h9 hi
        have hC1:=setF none (some (i,.os m)) hkey hik (λb rs e=>by cases e) (λj u e=>by grind)
        obtain⟨b,hC2⟩:=hC1.Pz (by rw[b_ hihl]) (by rw[dt (k_ hne)];exact hm) (eH hz)
        have hk:=hk b
        simp only[jR,f_]at hk
        refine jZ (hexec _ hrun) (hn _ _ _ _ _ _ _ hC2 (.k .ud) ?_)
        have e1:eM i (some (b,rs)) (eM i none es)=eM i (some (b,rs)) es:=by
          apply cR
          intro j
          simp only[fT]
          grind
        have e2:(((List.map (gV m) (List.set h id (B.ms z (eM i none es) (some (i,.os m)) it))).set m B.no).set id (B.ms z (eM i (some (b,rs)) (eM i none es)) none it))=(((List.map (gV m) h).set m .no).set id (.ms z (eM i (some (b,rs)) es) none it)):=by
          rw[e1,fX,List.set_comm _ _ (k_ hne),List.set_set]
        grind
      · have hC1:=setN none (some (es.length,.os m)) hkey (λb rs e=>by cases e) (λj u e=>by grind)
        obtain⟨b,hC2⟩:=hC1.Pz (by rw[b_ hihl]) (by rw[dt (k_ hne)];exact hm) (eH hz)
        have hk:=hk b
        simp only[jR,f_]at hk
        refine jZ (hexec _ (fresh hkey h9 hi)) (hn _ _ _ _ _ _ _ hC2 (.k .ud) ?_)
        have e1:eM es.length (some (b,rs)) (es++[(key,none)])=es++[(key,some (b,rs))]:=by
          apply cR
          intro j
          rw[fT,List.getElem?_append,List.getElem?_append]
          grind
        have e2:(((List.map (gV m) (List.set h id (B.ms z (es++[(key,none)]) (some (es.length,.os m)) none))).set m B.no).set id (B.ms z (eM es.length (some (b,rs)) (es++[(key,none)])) none none))=(((List.map (gV m) h).set m .no).set id (.ms z (es++[(key,some (b,rs))]) none none)):=by
          rw[e1,fX,List.set_comm _ _ (k_ hne),List.set_set]
        grind
    grind
  · rename_i key z' hkey hval
    obtain⟨⟨hz,h9⟩,hk⟩:=hk
    rw[hval]at hvv
    have hvn:a.eval v=.slice none 0 0:=by
      generalize a.eval v=u at hvv
      cases hvv with
      |o h=>cases h with
        |c h=>cases h with
          |k h=>cases h;rfl
    have hex:∀b rs,(some (none,[]):Option (Option Nat×List (List D)))=some (b,rs)->b=none/\fO (a.eval v)=none/\zY G w (a.eval v) z rs:=λb rs e=>by
      cases e
      rw[hvn]
      exact⟨rfl,rfl,.inl ⟨rfl,rfl⟩⟩
    rcases hk with⟨i,⟨hi,_⟩,hk⟩|⟨⟨hi,_,rfl⟩,hk⟩
    · obtain⟨hrun,hik⟩:=found hkey h9 hi
      exact jZ (hexec _ hrun) (hn _ _ _ _ _ _ _ (setF (some (none,[])) none hkey hik hex (λj u e=>by cases e)) (.k .ud) hk)
    · exact jZ (hexec _ (fresh hkey h9 hi)) (hn _ _ _ _ _ _ _ (setN (some (none,[])) none hkey hex (λj u e=>by cases e)) (.k .ud) hk)
  grind
end
section
variable{P:Program}{E:gL}{n:Nat}{G:Nat->Prop}{ρ ρ':List Value}{t:T}{h:H}{a:Act}{w:World}{o:Oper}{bV:Act->World->Prop}{Q:Exit->Act->World->Prop}{K KP:V->T->H->Prop}
variable(S:Nat->List V->H->(Out->H->Prop)->Prop)(ow:Nat->Bool)
theorem Gj(s:ak E n G ρ t h a w)(hn:iQ E n a o K bV){ty I e A t2:TypeId}{x k:Operand}{B:O}{ks:List Nat}{id z:Nat}{es:List ME}(ho:o.op=.call {callee:=.builtin .delete,args:= #[x,k],argTypes:= #[ty,A]})(hu:P.underlying ty=some (.map I e))(L:au G w ρ (a.eval x) (.mp id))(M:cX P t2 k=some B)
  (N:xh P I=some ks) (R:h[id]?=some (.ms z es none none)) (c:match ES (gv t B) with
    |some key=>Nat.beq (ks.headD 0) 9=true/\∃r,lJ key es=r/\(match r with
     |some i=>K (.tu []) t (h.set id (.ms z (es.eraseIdx i) none none))
     |none=>K (.tu []) t h)
    |none=>False):o.wp P a w bV Q:=by
 have d:=bG s M;have v:∀w',(Builtin.delete_ #[ty,A] o.type #[a.eval x,a.eval k]).run P w=.ok (.tuple #[]) w'->(execOp a.eval o).run P w=.ok (.value (.tuple #[])) w':=by
  intro w' hw;simp[execOp,ho,resolve,invoke,builtin,hw]
 have⟨r,arr,clk,he,hρ,q,hsz,U,hr⟩:=wo s L R;have⟨⟨r',arr0,clk0,e0,h1,h2,h3,h4,h5,h6,h7⟩,hit0⟩:=s.ok.hr.rep id _ _ hρ R;cases e0;rw[q]at h1;cases h1;split at c
 .rename_i key C;have⟨J,rr,D,c⟩:=c;subst D;have⟨fs,f,g,J⟩:=Lv N J;rw[tV C]at d;have l:=nZ J (H6 d) (by grind) hr;have⟨s1,s2,hs,e1,e2⟩:=pd d;have m:=λb=>lh (w:=w) J s1 s2 b 9998;rw[<-hs]at m;cases D:lJ key es with
  |none=>
   rw[D]at c l
   replace l:(Instr.findKey I (a.eval k) arr.toList).run P w=.ok none w:=l
   refine an s hn (v':=.tuple #[]) (v _ ?_) (.tu #[] [] rfl (by simp)) c;have F:w.heap.setIfInBounds r (.map arr clk)=w.heap:=by
    grind
   simp[Builtin.delete_,run_underlying hu,he,MapKept.run_getObj_map q,m,l,MapKept.run_setObj_map _ q,F]
  |some i=>
   rw[D]at c l;have⟨hil,_,_⟩:=List.findIdx?_eq_some_iff_getElem.1 D;have hia:i<arr.size:=by grind
   replace l:(Instr.findKey I (a.eval k) arr.toList).run P w=.ok (some (i,arr[i].val)) w:=by
    grind
   have p:∀(j:Nat)(y:ME),(es.eraseIdx i)[j]?=some y->es[if j<i then j else j+1]?=some y:=by
    grind
   have W:=s.PT (es':=es.eraseIdx i) (out':=none) (it':=none) (arr':=arr.eraseIdxIfInBounds i) (clk':=clk) hρ R q (by
     grind) (vP U) (λb X=>by
     have⟨j,k',Y,hj⟩:=eI.1 X;exact eI.2 ⟨_,k',Y,p _ _ hj⟩) (λi' j k1 k2 Z rs2 b g1 g2=>by
     have:=h4.1 _ _ k1 k2 Z rs2 b (p _ _ g1) (p _ _ g2)
     grind) (λj e' y he' hj=>by
     grind) (λj u h=>by cases h) (λj u e h=>by cases h) (.inl rfl)
   refine dU (v _ ?_) (hn _ _ _ _ _ _ _ W (.tu #[] [] rfl (by simp)) c);simp[Builtin.delete_,run_underlying hu,he,MapKept.run_getObj_map q,m,l,MapKept.run_setObj_map _ q]
 grind
theorem yJ{arr:Array MapEntry}{clk m r:Nat}{w:World}(y:w.heap[m]?=some (.map arr clk))(hr:w.heap[r]?=some (.mapIter (some m) clk #[] clk))(x:m≠r){k:Nat}(z:arr.size=k):oZ w (.map (some m)) r (List.range k,none):=by
 refine⟨m,arr,clk,#[],rfl,y,x,hr,qF,λi=>?_,λi h=>by cases h⟩;subst z;constructor;simp_all
 grind
theorem Sz(hC:ak E n G ρ t h a w)(hn:iQ E n a o K bV){ty kt e t1:TypeId}{x:Operand}{ox:O}(ho:o.op=.range ty x)(hu:P.underlying ty=some (.map kt e))(hx:cX P t1 x=some ox)(hk:bq S ow (.rg ox) t h K KP):o.wp P a w bV Q:=by
 have hvx:=bG hC hx;have run:∀{m clk:Nat}{arr:Array MapEntry},a.eval x=.map (some m)->w.heap[m]?=some (.map arr clk)->(execOp a.eval o).run P w=.ok (.value (.pointer (some ⟨w.heap.size,0,none⟩))) (w.alloc (.mapIter (some m) clk #[] clk)):=by
  intro m clk arr he hb;simp only[execOp,ho];refine cT ?_;simp[Instr.range,run_underlying hu,he,MapKept.run_getObj_map hb]
 simp only[bq]at hk;split at hk
 .rename_i id hg;rw[hg]at hvx;rw[get?_eq]at hk;split at hk
  .rename_i es hes;generalize hax:a.eval x=v at hvx;cases hvx with|o hv=>cases hv with|c hv=>cases hv with|k hv=>cases hv with|mp _ m hρ =>
   have⟨m',arr,clk,e0,h1,h2,h3,h4⟩:=hC.ok.hr.rep id _ _ hρ hes;cases e0;have hk:=hk w.heap.size;simp only[bf,cZ]at hk;have hg:=gK.alloc w (.mapIter (some m) clk #[] clk);have hlt:=(aQ.1 h1).1;have hrep:mQ G w ρ (.map (some m)) (fz es):=⟨m,arr,clk,rfl,h1,h2,h3,h4⟩
   have hC':=hC.sP (w':=w.alloc (.mapIter (some m) clk #[] clk)) (x1:=.di es w.heap.size (List.range es.length,none)) hρ hes (by simp) hg.size (λb hb _=>hg.iE b hb) hg.os hg.tape hg.out
    ⟨hrep.mono (λ_ h=>h) (λb hb=>hg.iE b (hC.ok.hr.gl b hb)) (λb hb=>by cases hb;exact hg.iE _ hlt) (λ_ _=>rfl),yJ ((hg.iE m hlt).trans h1) (heap_alloc_new w _) (by omega) (by rw[h2];exact aH _)⟩
    (λb hb=>by simp only[gh,aL]at hb;grind)
   exact dU (run hax h1) (hn _ _ _ _ _ _ _ hC' (.k (.it id _ m hρ)) hk)
  .have⟨t,h,hC,hk⟩:=wC hC hk;rw[get?_eq]at hk;split at hk
   .rename_i z es hes;generalize hax:a.eval x=v at hvx;cases hvx with|o hv=>cases hv with|c hv=>cases hv with|k hv=>cases hv with|mp _ m hρ =>
    have⟨hms,_⟩:=hC.ok.hr.rep id _ _ hρ hes;have⟨m',arr,clk,e0,h1,h2,h3,h4⟩:=have:=hms;this;cases e0;have hk:=hk w.heap.size;simp only[bf,cZ]at hk;have hg:=gK.alloc w (.mapIter (some m) clk #[] clk);have hlt:=(aQ.1 h1).1;have hgl:∀b,b∈BM es->b<w.heap.size:=λb hb=>hC.ok.hr.lt hρ hes (by simp) (bR.2 (.inr (by simp only[gh,aR];grind)));have hC':=hC.sP (w':=w.alloc (.mapIter (some m) clk #[] clk)) (x1:=.ms z es none (some (w.heap.size,List.range es.length,none))) hρ hes (by simp) hg.size (λb hb _=>hg.iE b hb) hg.os hg.tape hg.out
     ⟨hms.mono (λ_ h=>h) (λb hb=>hg.iE b (hC.ok.hr.gl b hb)) (λb hb=>by cases hb;exact hg.iE _ hlt) (λb hb=>hg.iE b (hgl b hb)) (λi v h=>by simp),yJ ((hg.iE m hlt).trans h1) (heap_alloc_new w _) (by omega) h2,λhb=>by grind⟩
     (λb hb=>by
      simp only[gh,Np,aR,aL]at hb;rcases hb with hb|rfl
      .exact .inl (bR.2 (.inr (by simp only[gh,aR];grind)))
      grind)
    exact dU (run hax h1) (hn _ _ _ _ _ _ _ hC' (.k (.it id _ m hρ)) hk)
   grind
  grind
 grind
theorem Ce{v:Value}{r:Nat}{l:List Nat}{c:Option Nat}{m clk:Nat}{arr:Array MapEntry}(k:oZ w v r (l,c))(R:v=.map (some m))(g:w.heap[m]?=some (.map arr clk))(u:ord arr clk)(ty:TypeId) :
  (l=[]/\(Instr.next (.pointer (some ⟨r,0,none⟩)) false ty).run P w=.ok (.tuple #[.bool false]) w) \/
  ∃i e w',i∈l/\arr[i]?=some e/\(Instr.next (.pointer (some ⟨r,0,none⟩)) false ty).run P w=.ok (.tuple #[.bool true,e.key,e.val]) w'/\w'.heap.size=w.heap.size/\(∀b,b≠r->w'.heap[b]?=w.heap[b]?)/\w'.os=w.os/\w'.tape=w.tape/\w'.output=w.output/\oZ w' v r (l.erase i,some i):=by
 subst R;have⟨m',arr',clk',seen,U,g1,A,g3,B,p,_⟩:=k;cases U;rw[g]at g1;cases g1;have hold:∀x∈arr.toList,x.born<clk:=λx W=>u.1 x W;rcases run_next_at (P:=P) w ty r m clk clk seen arr clk g3 g hold (aM _)with⟨C,D⟩|⟨e,he,w1,q,d⟩
 .left;refine⟨?_,D⟩;cases l with
  |nil=>rfl
  |cons i l=>
   have⟨e,F,I⟩:=(p i).1 (by simp);have:e∈leftOf arr seen:=by
    unfold leftOf
    grind
   grind
 .right;have y:e∈leftOf arr seen:=by grind
  unfold leftOf at y;rw[Array.mem_filter]at y;have⟨C,D⟩:=y;have⟨i,J⟩:=Array.getElem?_of_mem C;have hs:seen.contains e.born=false:=by grind
  have X:w1.heap=w.heap/\w1.os=w.os/\w1.tape=w.tape/\w1.output=w.output:=by
   rcases q with rfl|rfl<;>exact⟨rfl,rfl,rfl,rfl⟩
  have⟨s,Y,Z,q4⟩:=X;have hrl:r<w.heap.size:=(aQ.1 g3).1;have f:∀b,b≠r->(ChangeMaps.setBlock w1 r (.mapIter (some m) clk (seen.push e.born) clk)).heap[b]?=w.heap[b]?:=λb g=>by
   simp only[ChangeMaps.setBlock,s]
   grind
  refine⟨i,e,_,(p i).2 ⟨e,J,hs⟩,J,d,by simp[ChangeMaps.setBlock,s],f,Y,Z,q4,?_⟩;refine⟨m,arr,clk,seen.push e.born,rfl,(f m A).trans g,A,?_,B.erase _,λj=>?_,λj L=>⟨e,seen,by grind,rfl⟩⟩
  .simp only[ChangeMaps.setBlock,s]
   grind
  .show j∈l.erase i<->_;rw[B.mem_erase_iff,p j];constructor
   .rintro ⟨L,e',F,I⟩
    refine⟨e',F,?_⟩;rw[Array.contains_push,I,Bool.false_or,beq_eq_false_iff_ne];intro hbn;refine L ?_;have M:=u.2;have N:(arr.toList.map (·.born))[j]?=some e'.born:=by grind
    have O:(arr.toList.map (·.born))[i]?=some e.born:=by grind
    rcases eB i j with z|rfl|z
    .have:=List.pairwise_iff_getElem.1 M i j (aC.1 O).1 (aC.1 N).1 z
     grind
    rfl
    .have:=List.pairwise_iff_getElem.1 M j i (aC.1 N).1 (aC.1 O).1 z
     grind
   grind
theorem TB(A:ak E n G ρ t h a w)(Z:iQ E n a o K bV){t1:TypeId}{x:Operand}{ox:O}(ho:o.op=.next x false)(hx:cX P t1 x=some ox)(p:bq S ow (.nx ox) t h K KP):o.wp P a w bV Q:=by
 have s:=bG A hx;have run:∀{v':Value}{w':World}{r:Nat},a.eval x=.pointer (some ⟨r,0,none⟩)->(Instr.next (.pointer (some ⟨r,0,none⟩)) false o.type).run P w=.ok v' w'->(execOp a.eval o).run P w=.ok (.value v') w':=by
  intro v' w' r he hr;simp only[execOp,ho];simp_all
 simp only[bq]at p;split at p
 .rename_i id r R;rw[R]at s;have s:a.eval x=.pointer (some ⟨r,0,none⟩):=by
   generalize a.eval x=v at s;cases s with|o B=>cases B with|c B=>cases B with|k B=>cases B;rfl
  rw[get?_eq]at p;split at p
  .rename_i es r' l c q;obtain⟨rfl,C,D⟩:=p;have F:id<ρ.length:=by rw[A.ok.hr.len];grind
   have I :=aA F;have⟨U,hI⟩:=A.ok.hr.rep id _ _ I q;have⟨m,arr,clk,W,h1,h2,h3,h4⟩:=have:=U;this;have hmr:m≠r:=by
    have⟨m',_,_,_,e1,_,e2,_⟩:=hI
    grind
   rcases Ce (P:=P) hI W h1 h3 o.type with⟨hl,hr⟩|⟨i,e,w',hi,he,hr,hs,u,h5,h6,h7,J⟩
   .have p:=C hl;simp only[bf]at p;exact dU (run s hr) (Z _ _ _ _ _ _ _ (A.WA (x1:=.dm es) q (by simp) (λv _ B=>B.1) (λb f=>by cases f)) (.tu #[.bool false] _ rfl (λj y g=>by
     match j,g with
     |0,g=>cases g;exact .c (.k (.d (.bool false))))) p)
   .have p:=D i hi;simp only[bf]at p;have L:¬G r:=λR=>A.ok.hr.gd r R ⟨id,_,_,I,q,by simp,bR.2 (.inr (aL.2 rfl))⟩;have M:∀b,G b->w'.heap[b]?=w.heap[b]?:=λb f=>u b (λe=>L (e ▸ f));have N:=A.sP (w':=w') (x1:=.di es r (l.erase i,some i)) I q (by simp) (by omega) (λb _ f=>u b (λe=>f (bR.2 (.inr (aL.2 e))))) h5 h6 h7
     ⟨U.mono (λ_ h=>h) M (λb f=>by rw[W]at f;cases f;grind) (λ_ _=>rfl),J⟩ (λb f=>.inl (bR.2 (.inr f)))
    refine dU (run s hr) (Z _ _ _ _ _ _ _ N (.tu #[.bool true,e.key,e.val] _ rfl (λj y g=>?_)) p)
    match j,g with
    |0,g=>cases g;exact .c (.k (.d (.bool true)))
    |1,g=>cases g;exact .c (.k (.un _))
    |2,g=>cases g;exact .c (.k (.un _))
  .have⟨t,h,A,p⟩:=wC A p;rw[get?_eq]at p;split at p
   .rename_i z es r' l c q;obtain⟨rfl,C,D⟩:=p;have F:id<ρ.length:=by rw[A.ok.hr.len];grind
    have hihl:id<h.length:=(aC.1 q).1;have I :=aA F;have⟨U,hI,X⟩:=A.ok.hr.rep id _ _ I q;have⟨m,arr,clk,W,h1,h2,h3,h4,hent,_⟩:=have:=U;this;have hmr:m≠r:=by
     have⟨m',_,_,_,e1,_,e2,_⟩:=hI
     grind
    rcases Ce (P:=P) hI W h1 h3 o.type with⟨hl,hr⟩|⟨i,e,w',hi,he,hr,hs,u,h5,h6,h7,J⟩
    .have p:=C hl;simp only[bf]at p;exact dU (run s hr) (Z _ _ _ _ _ _ _ (A.WA (x1:=.ms z es none none) q (by simp) (λv _ B=>⟨B.1,trivial⟩) (λb f=>by simp only[gh,Np,cV]at f;simp only[gh,aR];grind)) (.tu #[.bool false] _ rfl (λj y g=>by
      match j,g with
      |0,g=>cases g;exact .c (.k (.d (.bool false))))) p)
    .have p:=D i hi;simp only[bf]at p;have Y:r∈eU ρ[id] (.ms z es none (some (r,l,c))):=bR.2 (.inr (by simp[gh,Np]));have L:¬G r:=λR=>A.ok.hr.gd r R ⟨id,_,_,I,q,by simp,Y⟩;have M:∀b,G b->w'.heap[b]?=w.heap[b]?:=λb f=>u b (λe=>L (e ▸ f));have N:=A.sP (w':=w') (x1:=.ms z es none (some (r,l.erase i,some i))) I q (by simp) (by omega) (λb _ f=>u b (λe=>f (e ▸ Y))) h5 h6 h7
      ⟨U.mono (λ_ h=>h) M (λb f=>by rw[W]at f;cases f;grind) (λb f=>u b (λe=>X (e ▸ f))) (λi v h=>by simp),J,X⟩ (λb f=>.inl (bR.2 (.inr f)))
     refine dU (run s hr) (Z _ _ _ _ _ _ _ N (.tu #[.bool true,e.key,e.val] _ rfl (λj y g=>?_)) p)
     match j,g with
     |0,g=>cases g;exact .c (.k (.d (.bool true)))
     |1,g=>cases g;exact .c (.k (.un _))
     |2,g=>cases g;exact .c (.k (.un _))
   grind
  grind
 grind
theorem Nn{v:Value}{r i:Nat}{l:List Nat}{m clk:Nat}{arr:Array MapEntry}(x:oZ w v r (l,some i))(u:v=.map (some m))(z:w.heap[m]?=some (.map arr clk))(y:ord arr clk) :
  ∃e,arr[i]?=some e/\(Instr.entry (.pointer (some ⟨r,0,none⟩))).run P w=.ok (.tuple #[e.key,e.val]) w:=by
 subst u;have⟨f,arr',clk',seen,b,g1,g,g3,j,k,c⟩:=x;cases b;rw[z]at g1;cases g1;obtain⟨e,s,d,rfl⟩:=c i rfl;exact⟨e,d,run_entry_at w r m clk s arr clk e g3 z (by grind) (y.2.imp λh=>Nat.ne_of_lt h)⟩
theorem TW(s:ak E n G ρ t h a w)(N:iQ E n a o K bV){t1:TypeId}{x:Operand}{ox:O}(Y:o.op=.entry x)(Z:cX P t1 x=some ox)(g:bq S ow (.en ox) t h K KP):o.wp P a w bV Q:=by
 have f:=bG s Z;have run:∀{v':Value}{r:Nat},a.eval x=.pointer (some ⟨r,0,none⟩)->(Instr.entry (.pointer (some ⟨r,0,none⟩))).run P w=.ok v' w->(execOp a.eval o).run P w=.ok (.value v') w:=by
  intro v' r he hr;simp only[execOp,Y];simp_all
 simp only[bq]at g;split at g
 .rename_i id r hg;rw[hg]at f;have f:a.eval x=.pointer (some ⟨r,0,none⟩):=by
   generalize a.eval x=v at f;cases f with|o A=>cases A with|c A=>cases A with|k A=>cases A;rfl
  rw[get?_eq]at g;split at g
  .rename_i es r' l i p;obtain⟨e,⟨rfl,B⟩,g⟩:=g;have F:id<ρ.length:=by rw[s.ok.hr.len];grind
   have hρ :=aA F;have⟨hM,hI⟩:=s.ok.hr.rep id _ _ hρ p;have⟨m,arr,clk,I,D,h2,J,R⟩:=hM;have⟨u,he,hr⟩:=Nn (P:=P) hI I D J;have hm:(fz es)[i]?=some (.d e.1,NM e.2):=by simp[fz,B]
   have⟨k1,k2⟩:=R i u _ he hm;refine an s N (run f hr) (.tu #[u.key,u.val] _ rfl (λj y q=>?_)) g
   match j,q with
   |0,q=>simp_all
   |1,q=>simp_all
  .rename_i z es r' l i p;obtain⟨k,b,rs,⟨rfl,B⟩,g⟩:=g;simp only[bf,cZ]at g;have⟨m,arr,clk,e,q1,U,W,X,L⟩:=s.taken p B;have⟨⟨m',arr',clk',I,D,h2,J,R,C,_⟩,hI,hrE⟩:=s.ok.hr.rep id _ _ q1 p;cases I;rw[U]at D;cases D;have⟨u,he,hr⟩:=Nn (P:=P) hI rfl U J;rw[W]at he;cases he;have M:=(C i e _ W B).1;have hl:=s.ok.hr.len;refine dU (w':=w) (run f hr) (N _ _ _ _ _ _ _ L (.tu #[e.key,e.val] _ rfl (λj y q=>?_)) g)
   match j,q with
   |0,q=>cases q;exact M.mono (λ_ h=>h) (λ_ _=>rfl) (λi B=>by contradiction)
   |1,q=>
    cases q;generalize e.val=u at X⊢;cases u<;>first|(cases X;done)|skip
    exact .c (.k (.os _ _ _ _ (by grind)))
  grind
 grind
end
end Go.Vx
