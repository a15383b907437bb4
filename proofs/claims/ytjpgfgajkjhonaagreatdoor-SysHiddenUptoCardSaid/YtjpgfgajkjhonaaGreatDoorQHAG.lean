/- Lemmas. Conditions: none. -/
import Derived.Test.YtjpgfgajkjhonaaGreatDoorQHAF
import Derived.RangeFuncSeq
namespace Go.Vx
section
variable {P:Program} {E:gR} {n:Nat} {G:Nat→Prop} {ρ:List Value} {t:T} {h:H} {a:Act} {w:World} {o:Oper} {b7:Act→World→Prop} {Q:Exit→Act→World→Prop} {K KP:V→T→H→Prop}
theorem EH {ty uy ty' e:TypeId} {i:TypeInfo} (ht:P.underlying ty=some (.slice e)) (hu:∃e',P.underlying uy=some (.slice e')) (hi:P.info? e=some i) {b sLen sCap m:Nat} {cur:Array Value} {ty0:TypeId} (hg:w.heap[b]? = some (.cells cur ty0 (0,0)))
  {y:Value} {news:List Value} (hl:(Builtin.lenOf y).run P w = .ok m w) (hf:(Builtin.firstCells i.size m y).run P w = .ok news.toArray w) (h1:∀u∈news,u.oneCell'=true)
  (hroom:sLen+m≤sCap) (hfit:sLen*i.size+news.length≤cur.size) :
  (Builtin.append_ #[ty,uy] ty' #[.slice (some ⟨b,0,none⟩) sLen sCap,y]).run P w =
   .ok (.slice (some ⟨b,0,none⟩) (sLen+m) sCap) (w.setRow b (cur.toList.take (sLen*i.size)++news++cur.toList.drop (sLen*i.size+news.length)).toArray):=by
 obtain ⟨e',hu⟩:=hu;have hst:=run_storeCells_at (P:=P) b (sLen*i.size) ty0 news 0 cur w hg (by simpa using hfit) h1;simp only [dz] at hst;simp [Builtin.append_,run_underlying ht,run_underlying hu,sizeOf,typeInfo,hi,hl,hf,hroom,Addr.add_lit,hst]
theorem sw {ty uy ty' e:TypeId} {i:TypeInfo} (ht:P.underlying ty=some (.slice e)) (hu:∃e',P.underlying uy=some (.slice e')) (hi:P.info? e=some i)
  {y:Value} (hl:(Builtin.lenOf y).run P w = .ok 0 w) (hf:(Builtin.firstCells i.size 0 y).run P w = .ok #[] w) :
  (Builtin.append_ #[ty,uy] ty' #[.slice none 0 0,y]).run P w = .ok (.slice none 0 0) w:=by
 obtain ⟨e',hu⟩:=hu;simp [Builtin.append_,run_underlying ht,run_underlying hu,sizeOf,typeInfo,hi,hl,hf]
theorem pA {ty uy ty' e:TypeId} {i:TypeInfo} {z:Value} (ht:P.underlying ty=some (.slice e)) (hu:∃e',P.underlying uy=some (.slice e')) (hi:P.info? e=some i) (hz:i.zero=some z) {base:Option Addr} {sLen sCap m:Nat}
  {x y:Value} {olds news:List Value} (hx:x = .slice base sLen sCap) (hfo:(Builtin.firstCells i.size sLen x).run P w.drew = .ok olds.toArray w.drew) (hl:(Builtin.lenOf y).run P w = .ok m w) (hf:(Builtin.firstCells i.size m y).run P w.drew = .ok news.toArray w.drew)
  (hg:sCap<sLen+m) (h63:sLen+m≤9223372036854775807) (hb:(sLen+m)*i.bytes≤140737488355328) :
  (Builtin.append_ #[ty,uy] ty' #[x,y]).run P w =
   .ok (.slice (some ⟨w.heap.size,0,none⟩) (sLen+m) (grownCap w (sLen+m) sCap e))
    (w.drew.alloc (.cells (olds++news++(Builtin.zeroCells z.cells (grownCap w (sLen+m) sCap e - (sLen+m))).toList).toArray e)):=by
 obtain ⟨e',hu⟩:=hu;subst hx;have hn:¬(sLen+m≤sCap):=by omega
 have h63':¬(9223372036854775807<((sLen:Int)+(m:Int))):=by omega
 have h48':¬(281474976710656<Builtin.nextslicecap (sLen+m) sCap*i.bytes):=by have:=growslice_fits hg hb;omega
 simp [Builtin.append_,run_underlying ht,run_underlying hu,sizeOf,typeInfo,zeroValue,hi,hz,hl,hn,h63',h48',Question.forced,hf,hfo,newRow,grownCap];congr 2;apply Array.ext';simp
theorem GL {y:Value} {z:Nat} {ys:List (List D)} (hD:bw G w y (.sl z ys)):(Builtin.lenOf y).run P w = .ok ys.length w∧∃news:List Value,(∀w',w'.heap=w.heap→(Builtin.firstCells z ys.length y).run P w' = .ok news.toArray w')∧news.length=ys.length*z ∧
  (∀u∈news,u.oneCell'=true)∧∀(i:Nat) (row:List D),ys[i]? = some row→row.length=z∧∀(j:Nat) (x:D),row[j]? = some x→bw G w (news.getD (i*z+j) undef) x:=by
 rcases hD.R9 with ⟨⟨a0,rfl⟩,rfl⟩ | ⟨b,oo,c,U,rfl,g1,g2,g3,g4,g5,g6⟩
 ·refine ⟨by simp [Builtin.lenOf],[],λw' _=>by cases a0<;>simp [Builtin.firstCells,loadCells,loadCellsFrom],by simp,by simp,by simp⟩
 ·by_cases hz:z=0
  ·subst hz;refine ⟨by simp [Builtin.lenOf],[],λw' _=>by simp [Builtin.firstCells,loadCells,loadCellsFrom],by simp,by simp,λi row hr=>⟨g4 i row hr,λj x hx=>?_⟩⟩;have:=(aA.1 hx).1;rw [g4 i row hr] at this;omega
  ·have hzp:0<z:=Nat.pos_of_ne_zero hz
   let f:Nat→Value:=λk=>U (k / z) (k % z)
   have hcell:∀k,k<ys.length*z→w.cell? ⟨b,oo+k,none⟩=some (f k)∧(f k).oneCell'=true:=by
    intro k hk;have hkz:k / z<ys.length:=(Nat.div_lt_iff_lt_mul hzp).2 hk;have hr:=aB hkz;have hml:k % z<(ys[k / z]).length:=by rw [g4 _ _ hr];exact Nat.mod_lt _ hzp
    have hx:=aB hml;have h5:=g5 _ _ _ _ hr hx;have h6:=g6 _ _ _ _ hr hx;have he:k / z*z+k % z=k:=by rw [Nat.mul_comm];exact Nat.div_add_mod k z
    rw [he] at h5;exact ⟨h5,h6.one⟩
   refine ⟨by simp [Builtin.lenOf],(List.range (ys.length*z)).map f,λw' hw'=>?_,by simp,λu hu=>?_,λi row hr=>⟨g4 i row hr,λj x hx=>?_⟩⟩
   ·refine run_firstCells_some (P:=P) w' z ys.length ⟨b,oo,none⟩ _ c _ (by simp) (λj v hv=>?_);rw [eI];simp only [aC,aG] at hv;obtain ⟨j',hj',rfl⟩:=hv;have hjl:j<ys.length*z:=by
     have:=(aA.1 hj').1;simpa using this
    rw [cG hjl] at hj';cases hj';rw [World.cell?_of_block (w:=w) (w':=w') (by rw [hw'])];exact (hcell j hjl).1
   ·simp only [bF,cV] at hu;obtain ⟨k,hk,rfl⟩:=hu;exact (hcell k hk).2
   ·have hil:i<ys.length:=(aA.1 hr).1;have hjl:j<z:=by rw [←g4 i row hr];exact (aA.1 hx).1
    have hlt:i*z+j<ys.length*z:=by
     have:(i+1)*z≤ys.length*z:=bC _ hil;rw [bq] at this;omega
    have he:((List.range (ys.length*z)).map f).getD (i*z+j) undef=U i j:=by
     rw [aW,aC,cG hlt];simp only [bA,bf,f];rw [Nat.mul_comm i z,Nat.mul_add_div hzp,Nat.mul_add_mod,Nat.div_eq_of_lt hjl,cX hjl,dz]
    rw [he];exact g6 _ _ _ _ hr hx
theorem sG {rs ys:List (List D)} {z:Nat} {olds news rest:List Value} (ho:olds.length=rs.length*z) (hn:news.length=ys.length*z)
  (h1:∀(i:Nat) (row:List D),rs[i]? = some row→row.length=z∧∀(j:Nat) (x:D),row[j]? = some x→bw G w (olds.getD (i*z+j) undef) x)
  (h2:∀(i:Nat) (row:List D),ys[i]? = some row→row.length=z∧∀(j:Nat) (x:D),row[j]? = some x→bw G w (news.getD (i*z+j) undef) x) :
  ∀(i:Nat) (row:List D),(rs++ys)[i]? = some row→row.length=z∧∀(j:Nat) (x:D),row[j]? = some x→bw G w ((olds++news++rest).toArray.getD (i*z+j) undef) x:=by
 intro i row hr
 by_cases hi:i<rs.length
 ·rw [aO hi] at hr;obtain ⟨hz,hx⟩:=h1 i row hr;refine ⟨hz,λj x hj=>?_⟩;have hjl:j<z:=by rw [←hz];exact (aA.1 hj).1
  have hlt:i*z+j<olds.length:=by
   have:(i+1)*z≤rs.length*z:=bC _ hi;rw [bq] at this;omega
  have:=hx j x hj;rw [aW] at this;rw [aF,fR,bO,aO hlt];exact this
 ·rw [aY (by omega)] at hr;obtain ⟨hz,hx⟩:=h2 _ row hr;refine ⟨hz,λj x hj=>?_⟩;have hjl:j<z:=by rw [←hz];exact (aA.1 hj).1
  have hil:i - rs.length<ys.length:=(aA.1 hr).1;have hi2:i*z=rs.length*z+(i - rs.length)*z:=by rw [←bq];congr 1;omega
  have hlt:(i - rs.length)*z+j<news.length:=by
   have:(i - rs.length+1)*z≤ys.length*z:=bC _ hil;rw [bq] at this;omega
  have:=hx j x hj;rw [aW] at this;rw [aF,fR,bO,aY (by omega),aO (by omega)];rw [show i*z+j - olds.length=(i - rs.length)*z+j by omega];exact this
theorem ET {hd:Value} {z:Nat} {rs:List (List D)} (hr:cm G w ρ hd (.rows z rs)):∃base cap,hd = .slice base rs.length cap∧rs.length≤cap∧∃olds:List Value,(∀w',w'.heap=w.heap→(Builtin.firstCells z rs.length hd).run P w' = .ok olds.toArray w')∧olds.length=rs.length*z ∧
  ∀(i:Nat) (row:List D),rs[i]? = some row→row.length=z∧∀(j:Nat) (x:D),row[j]? = some x→bw G w (olds.getD (i*z+j) undef) x:=by
 rcases hr with ⟨rfl,rfl⟩ | ⟨b,cap,arr,ty,rfl,h1,h2,h3,h4,h5⟩
 ·exact ⟨none,0,rfl,by simp,[],λw' _=>by simp [Builtin.firstCells],by simp,by simp⟩
 ·have hle:rs.length*z≤arr.size:=by rw [h4];exact bC _ h2
  refine ⟨some ⟨b,0,none⟩,cap,rfl,h2,arr.toList.take (rs.length*z),λw' hw'=>?_,by simp;omega,λi row hr=>⟨(h5 i row hr).1,λj x hx=>?_⟩⟩
  ·refine run_firstCells_some (P:=P) w' z rs.length ⟨b,0,none⟩ _ cap _ (by simp;omega) (λj v hv=>?_);rw [eI,bh,World.cell?_of_block (w:=w) (w':=w') (by rw [hw']),dO h1];rw [ae] at hv;split at hv
   ·simpa using hv
   ·cases hv
  ·have hil:i<rs.length:=(aA.1 hr).1;have hjl:j<z:=by rw [←(h5 i row hr).1];exact (aA.1 hx).1
   have hlt:i*z+j<rs.length*z:=by
    have:(i+1)*z≤rs.length*z:=bC _ hil;rw [bq] at this;omega
   have:=(h5 i row hr).2 j x hx;rw [aF,←bQ] at this;rw [aW,ae,ζ hlt];exact this
variable (S:Nat→List V→H→(Out→H→Prop)→Prop) (ow:Nat→Bool)
theorem HU {v:Value} {z:Nat} (h:bB G w ρ v (.nl z)):v = .slice none 0 0:=by
 cases h with | o h=>cases h with | c h=>cases h with | k h=>cases h;rfl
theorem TL (hC:au E n G ρ t h a w) (hn:iX E n a o K b7) {ty uy e e' t1 t2:TypeId} {i:TypeInfo} {zs:List V} {x y:Operand} {ox oy:O} (ho:o.op = .call { callee:=.builtin .append,args:= #[x,y],argTypes:= #[ty,uy] })
    (ht:P.underlying ty=some (.slice e)) (hu:P.underlying uy=some (.slice e')) (hi:P.info? e=some i) (hz:rZ P e=some zs) (hzl:zs.length=i.size) (hx:ck P t1 x=some ox) (hy:ck P t2 y=some oy)
    (hk:bz S ow (.ap ox oy i.size i.bytes) t h K KP):o.wp P a w b7 Q:=by
  have hvx:=HT hC hx
  have hvy:=DP (bJ hC hy)
  obtain ⟨i',z,hi',hz0,hzs,_,_⟩:=js (G:=G) (w:=w) (ρ := ρ) hz
  rw [hi] at hi'
  cases hi'
  have hue:∃e',P.underlying uy=some (.slice e'):=⟨e',hu⟩
  have hexec:∀{v' w'},(Builtin.append_ #[ty,uy] o.type #[a.eval x,a.eval y]).run P w = .ok v' w'→(execOp a.eval o).run P w = .ok (.value v') w':=by
    intro v' w' hr
    simp [execOp,ho,resolve,invoke,builtin,hr]
  have hgrow:∀c:Obj,gY w (w.drew.alloc c):=λc=>(gY.drew w).trans (gY.alloc w.drew c)
  have hzc:∀k,(Builtin.zeroCells z.cells k).size=k*i.size:=by intro k;rw [size_zeroCells,hzs,hzl]
  have body:∀(xv:V),bB G w ρ (a.eval x) xv→∀(ys:List (List D)),bw G w (a.eval y) (.sl i.size ys) →
      (match xv with
        |.os id=>(match get? h id with
          |some (.rows z'' rs)=>(Nat.beq i.size z''=true∧rs.length+ys.length≤9223372036854775807∧(rs.length+ys.length)*i.bytes≤140737488355328) ∧
              K (.os id) (kF id t) ((h.map (gi id)).set id (.rows i.size (rs++ys)))
          |_=>False)
        |.nl _=>(ys.length≤9223372036854775807∧ys.length*i.bytes≤140737488355328)∧K (.os h.length) t (h ++ [.rows i.size ys])
        |.cl z'' rs=>(Nat.beq i.size z''=true∧rs.length+ys.length≤9223372036854775807∧(rs.length+ys.length)*i.bytes≤140737488355328)∧K (.d (.sl i.size (rs++ys))) t h
        |_=>False)→o.wp P a w b7 Q:=by
    intro xv hvx ys hDy hk
    obtain ⟨hly,news,hfy,hnl,hn1,hnr⟩:=GL (P:=P) hDy
    split at hk
    · rename_i id
      rw [get?_eq] at hk
      split at hk
      · rename_i z'' rs hrs
        obtain ⟨⟨hzz,hb1,hb2⟩,hk⟩:=hk
        obtain rfl:=jf hzz
        obtain ⟨ad,nn,c,hv,hρ⟩:=hvx.QA
        have hrep:=hC.ok.hr.rep id _ _ hρ hrs
        obtain ⟨base,cap,hhd,hcap,olds,hfo,hol,hor⟩:=ET (P:=P) hrep
        cases hhd
        have hidl:id<ρ.length:=(aA.1 hρ).1
        by_cases hroom:rs.length+ys.length≤c
        · skip
          rcases hrep with ⟨he,rfl⟩ | ⟨b,cap',arr,ty0,he,h1,h2,h3,h4,h5⟩
          · cases he
            have hys:ys = []:=br (by simpa using hroom)
            subst hys
            have hnn:news = []:=br (by simpa using hnl)
            subst hnn
            have hr:=sw (ty':=o.type) ht hue hi (by simpa using hly) (by simpa using hfy w rfl)
            have hv':a.eval x = .slice none 0 0:=hv
            rw [←hv'] at hr
            have hC':=hC.PO (w':=w) (v1:=.slice none 0 0) (x1:=.rows i.size []) hρ hrs (by simp) rfl (aR _) (λ_ _ _=>rfl) rfl rfl rfl (.inl ⟨rfl,rfl⟩) (λb hb=>.inl hb)
            refine dh (hexec hr) (hn _ _ _ _ _ _ _ hC' (.k (by rw [hv'];exact .os id none 0 0 (bm hidl))) (by simpa using hk))
          · cases he
            have hr:=EH (ty':=o.type) (w:=w) (sLen:=rs.length) (sCap:=c) ht hue hi h1 hly (hfy w rfl) hn1 hroom (by
              rw [h4,hnl,←bq];exact bC _ hroom)
            rw [←hv] at hr
            have holds:olds=arr.toList.take (rs.length*i.size):=by
              have h6:=hfo w rfl
              have h7:=run_firstCells_some (P:=P) w i.size rs.length ⟨b,0,none⟩ rs.length c (arr.toList.take (rs.length*i.size)) (by
                simp only [af,bn,h4];exact fW (bC _ h2)) (λj v hv=>by
                  rw [eI,bh,dO h1]
                  rw [ae] at hv
                  split at hv
                  · simpa using hv
                  · cases hv)
              rw [h7] at h6
              simp only [Result.ok.injEq,ω] at h6
              simpa using h6.symm
            have hsame:∀k,k≠b→(w.setRow b (arr.toList.take (rs.length*i.size)++news++arr.toList.drop (rs.length*i.size+news.length)).toArray).heap[k]? = w.heap[k]?:=λk hk=>setRow_other w b k _ hk
            have hGs:∀k,G k→(w.setRow b (arr.toList.take (rs.length*i.size)++news++arr.toList.drop (rs.length*i.size+news.length)).toArray).heap[k]? = w.heap[k]?:=λk hk=>hsame k (λe=>by
              subst e;exact hC.ok.hr.gd k hk ⟨id,_,_,hρ,hrs,by simp,bT.2 (.inl rfl)⟩)
            have hC':=hC.PO (w':=w.setRow b (arr.toList.take (rs.length*i.size)++news++arr.toList.drop (rs.length*i.size+news.length)).toArray) (v1:=.slice (some ⟨b,0,none⟩) (rs.length+ys.length) c) (x1:=.rows i.size (rs++ys))
              hρ hrs (by simp) rfl (by simp) (λk _ hk=>hsame k (by simp only [f_,ne_eq,aE] at hk;omega)) rfl rfl rfl
              (.inr ⟨b,c,_,ty0,by simp,setRow_heap w b arr _ ty0 _ h1,by simpa using hroom,h3,by
                have h9:(rs.length+ys.length)*i.size≤c*i.size:=bC _ hroom
                rw [bq] at h9
                simp only [dA,aL,af,cE,bn,hnl];omega,by
                have:=sG (rest:=arr.toList.drop (rs.length*i.size+news.length)) hol hnl hor hnr
                rw [←holds]
                intro k row hr
                obtain ⟨e1,e2⟩:=this k row hr
                exact ⟨e1,λj x hx=>(e2 j x hx).mono (λ_ h=>h) (by rw [holds];exact hGs)⟩⟩) (λk hk=>.inl hk)
            refine dh (hexec hr) (hn _ _ _ _ _ _ _ hC' (.k (.os id _ _ _ (bm hidl))) hk)
        · skip
          have hr:=pA (ty':=o.type) (w:=w) ht hue hi hz0 rfl (hfo w.drew rfl) hly (hfy w.drew rfl) (by omega) hb1 hb2
          rw [←hv] at hr
          have hge:=grownCap_ge w (rs.length+ys.length) c e
          have hC':=hC.PO (w':=w.drew.alloc (.cells (olds++news++(Builtin.zeroCells z.cells (grownCap w (rs.length+ys.length) c e - (rs.length+ys.length))).toList).toArray e)) (v1:=.slice (some ⟨w.heap.size,0,none⟩) (rs.length+ys.length) (grownCap w (rs.length+ys.length) c e)) (x1:=.rows i.size (rs++ys))
            hρ hrs (by simp) rfl (hgrow _).size (λk hk _=>(hgrow _).h_ k hk) rfl rfl rfl
            (.inr ⟨w.heap.size,grownCap w (rs.length+ys.length) c e,(olds++news++(Builtin.zeroCells z.cells (grownCap w (rs.length+ys.length) c e - (rs.length+ys.length))).toList).toArray,e,by simp,heap_alloc_new w.drew _,by simpa using hge,grownCap_le_maxLen w _ _ e hb1,by
              simp only [dA,aL,bn,hzc,hol,hnl,←bq]
              congr 1;omega,by
              have:=sG (rest:=(Builtin.zeroCells z.cells (grownCap w (rs.length+ys.length) c e - (rs.length+ys.length))).toList) hol hnl hor hnr
              intro k row hr
              obtain ⟨e1,e2⟩:=this k row hr
              exact ⟨e1,λj x hx=>(e2 j x hx).mono (λ_ h=>h) (λb hb=>(hgrow _).h_ b (hC.ok.hr.gl b hb))⟩⟩) (λk hk=>by simp only [f_,aE] at hk;exact .inr (by omega))
          refine dh (hexec hr) (hn _ _ _ _ _ _ _ hC' (.k (.os id _ _ _ (bm hidl))) hk)
      · exact hk.elim
    · rename_i z0
      obtain ⟨⟨hb1,hb2⟩,hk⟩:=hk
      have hv:a.eval x = .slice none 0 0:=HU hvx
      by_cases hys:ys.length=0
      · have hys':ys = []:=br hys
        subst hys'
        have hnn:news = []:=br (by simpa using hnl)
        subst hnn
        have hr:=sw (ty':=o.type) ht hue hi (by simpa using hly) (by simpa using hfy w rfl)
        have hC':=hC.push (gY.refl w) (.slice none 0 0) (.rows i.size []) (by simp [f_]) (.inl ⟨rfl,rfl⟩)
        rw [←hv] at hr hC'
        refine dh (hexec hr) (hn _ _ _ _ _ _ _ hC' (.k ?_) hk)
        rw [hv]
        exact .os h.length none 0 0 (by rw [←hC.ok.hr.len];simp)
      · have hr:=pA (ty':=o.type) (w:=w) (sLen:=0) (sCap:=0) (olds:=[]) ht hue hi hz0 rfl (run_firstCells_none w.drew _ _ _ _) hly (hfy w.drew rfl) (by omega) (by omega) (by simpa using hb2)
        rw [←hv] at hr
        simp only [bh,List.nil_append] at hr
        have hge:=grownCap_ge w ys.length 0 e
        have hC':=hC.push (hgrow (.cells (news++(Builtin.zeroCells z.cells (grownCap w ys.length 0 e - ys.length)).toList).toArray e)) (.slice (some ⟨w.heap.size,0,none⟩) ys.length (grownCap w ys.length 0 e)) (.rows i.size ys)
          (λb hb=>by simp only [f_,aE] at hb;omega)
          (.inr ⟨w.heap.size,grownCap w ys.length 0 e,(news++(Builtin.zeroCells z.cells (grownCap w ys.length 0 e - ys.length)).toList).toArray,e,rfl,heap_alloc_new w.drew _,hge,grownCap_le_maxLen w _ _ e hb1,by
            simp only [dA,aL,bn,hzc,hnl,←bq]
            congr 1;omega,by
            have:=sG (G:=G) (w:=w) (rs:=[]) (olds:=[]) (rest:=(Builtin.zeroCells z.cells (grownCap w ys.length 0 e - ys.length)).toList) (by simp) hnl (by simp) hnr
            intro k row hr
            obtain ⟨e1,e2⟩:=this k row (by simpa using hr)
            exact ⟨e1,λj x hx=>(e2 j x hx).mono (λ_ h=>h) (λb hb=>(hgrow _).h_ b (hC.ok.hr.gl b hb))⟩⟩)
        refine dh (hexec hr) (hn _ _ _ _ _ _ _ hC' (.k (.os h.length _ _ _ ?_)) hk)
        rw [←hC.ok.hr.len];simp
    · rename_i z'' rs
      obtain ⟨⟨hzz,hb1,hb2⟩,hk⟩:=hk
      obtain rfl:=jf hzz
      obtain ⟨ad,nn,hv,hD⟩:=hvx.Nu
      have hlen:=hD.len
      obtain ⟨ad',c',he,_⟩:=hlen
      cases he
      obtain ⟨hlx,olds,hfx,hol,_,hor⟩:=GL (P:=P) hD
      by_cases hys:ys.length=0
      · skip
        have hys':ys = []:=br hys
        subst hys'
        have hnn:news = []:=br (by simpa using hnl)
        subst hnn
        have hr:(Builtin.append_ #[ty,uy] o.type #[.slice ad rs.length rs.length,a.eval y]).run P w = .ok (.slice ad rs.length rs.length) w:=by
          have hfy0:=hfy w rfl
          simp only [ak] at hfy0 hly
          cases ad<;>simp [Builtin.append_,run_underlying ht,run_underlying hu,sizeOf,typeInfo,hi,hly,hfy0,storeCells]
        rw [←hv] at hr
        refine az hC hn (hexec hr) (.d ?_) hk
        rw [hv,cU]
        exact hD
      · have hr:=pA (ty':=o.type) (w:=w) ht hue hi hz0 rfl (hfx w.drew rfl) hly (hfy w.drew rfl) (by omega) hb1 hb2
        rw [←hv] at hr
        have hge:=grownCap_ge w (rs.length+ys.length) rs.length e
        have hC':=hC.grow (w':=w.drew.alloc (.cells (olds++news++(Builtin.zeroCells z.cells (grownCap w (rs.length+ys.length) rs.length e - (rs.length+ys.length))).toList).toArray e)) (G':=λb=>G b∨b=w.heap.size) (hgrow _) (λb hb=>.inl hb) (λb hb=>by
          rcases hb with hb | rfl
          · exact .inl hb
          · exact .inr ⟨aR _,by simp,_,_,_,heap_alloc_new w.drew _⟩)
        refine dh (hexec hr) (hn _ _ _ _ _ _ _ hC' (.d ?_) hk)
        have hb:cm G (w.drew.alloc (.cells (olds++news++(Builtin.zeroCells z.cells (grownCap w (rs.length+ys.length) rs.length e - (rs.length+ys.length))).toList).toArray e)) ρ (.slice (some ⟨w.heap.size,0,none⟩) (rs.length+ys.length) (grownCap w (rs.length+ys.length) rs.length e)) (.rows i.size (rs++ys)):=
          .inr ⟨w.heap.size,grownCap w (rs.length+ys.length) rs.length e,_,e,by simp,heap_alloc_new w.drew _,by simpa using hge,grownCap_le_maxLen w _ _ e hb1,by
            simp only [dA,aL,bn,hzc,hol,hnl,←bq]
            congr 1;omega,by
            have:=sG (rest:=(Builtin.zeroCells z.cells (grownCap w (rs.length+ys.length) rs.length e - (rs.length+ys.length))).toList) hol hnl hor hnr
            intro k row hr
            obtain ⟨e1,e2⟩:=this k row hr
            exact ⟨e1,λj x hx=>(e2 j x hx).mono (λ_ h=>h) (λb hb=>(hgrow _).h_ b (hC.ok.hr.gl b hb))⟩⟩
        exact hb.data.mono (λb hb=>by
          rcases hb with hb | hb
          · exact .inl hb
          · simp only [f_,aE] at hb;exact .inr hb.symm) (λ_ _=>rfl)
    · exact hk.elim
  have fin:∀(z':Nat) (ys:List (List D)),bw G w (a.eval y) (.sl z' ys) →
      (match K0 t ox with
        |.os id=>(match get? h id with
          |some (.rows z'' rs)=>(Nat.beq i.size z''=true∧Nat.beq i.size z'=true∧rs.length+ys.length≤9223372036854775807∧(rs.length+ys.length)*i.bytes≤140737488355328) ∧
              Bj (kF id t) λt=>flb ((h.map (gi id)).set id (.rows i.size (rs++ys))) λh=>K (.os id) t h
          |_=>False)
        |.nl _=>(Nat.beq i.size z'=true∧ys.length≤9223372036854775807∧ys.length*i.bytes≤140737488355328)∧Nx (fl (h ++ [.rows i.size ys]) λh'=>ij h.length λn=>K (.os n) t h') (K (.d (.sl i.size ys)) t h)
        |.cl z'' rs=>(Nat.beq i.size z''=true∧Nat.beq i.size z'=true∧rs.length+ys.length≤9223372036854775807∧(rs.length+ys.length)*i.bytes≤140737488355328)∧K (.d (.sl i.size (rs++ys))) t h
        |_=>False)→o.wp P a w b7 Q:=by
    intro z' ys hD hk
    split at hk
    · rename_i id hg
      split at hk
      · rename_i h4
        simp only [j2,gE] at hk
        obtain rfl:=jf hk.1.2.1
        refine body (.os id) (hg ▸ hvx) ys hD ?_
        simp only [h4]
        exact ⟨⟨hk.1.1,hk.1.2.2.1,hk.1.2.2.2⟩,hk.2⟩
      · exact hk.elim
    · rename_i z0 hg
      simp only [bo,cn] at hk
      obtain rfl:=jf hk.1.1
      have hk2:=hk.2
      unfold Nx at hk2
      rcases hk2 with hk2 | hk2
      · exact body (.nl z0) (hg ▸ hvx) ys hD ⟨hk.1.2,hk2⟩
      · have hv:a.eval x = .slice none 0 0:=HU (hg ▸ hvx)
        exact body (.cl i.size []) (by rw [hv];exact .o (.c (.k (.cl none 0 _ [] (.yA _))))) ys hD ⟨⟨fG _,by simpa using hk.1.2.1,by simpa using hk.1.2.2⟩,by simpa using hk2⟩
    · rename_i z'' rs hg
      obtain rfl:=jf hk.1.2.1
      exact body (.cl z'' rs) (hg ▸ hvx) ys hD ⟨⟨hk.1.1,hk.1.2.2.1,hk.1.2.2.2⟩,hk.2⟩
    · exact hk.elim
  simp only [bz] at hk
  split at hk
  · rename_i z' ys hg
    rw [hg] at hvy
    exact fin z' ys hvy.ra hk
  · rename_i z' ys hg
    rw [hg] at hvy
    obtain ⟨ad,nn,hv,hD⟩:=hvy.Nu
    exact fin z' ys (by rw [hv];exact hD) hk
  · exact hk.elim
end
section pT
variable {G:Nat→Prop} {w:World} {ρ ρ':List Value} {f:Nat→Nat}
theorem dV.pT {v:Value} {x:V} (h:dV G w ρ v x) (hf:∀i∈ir x,ρ'[f i]? = ρ[i]?):dV G w ρ' v (wj f x):=by
 cases h with
 |un=>exact .un _
 |ud=>exact .ud
 |d h=>exact .d h
 |p id off b h=>exact .p _ off b ((hf id (by simp [ir])).trans h)
 |e b o off row U h1 h2 h3=>exact .e b o off row U h1 h2 h3
 |os id a n c h=>exact .os _ a n c ((hf id (by simp [ir])).trans h)
 |q id z i off b n c h=>exact .q _ z i off b n c ((hf id (by simp [ir])).trans h)
 |cl a n z rows h=>exact .cl a n z rows h
 |nl z=>exact .nl z
 |mp id r h=>exact .mp _ r ((hf id (by simp [ir])).trans h)
 |ov id z i _ a n c h hv=>exact .ov _ z i _ a n c ((hf id (by simp [ir])).trans h) hv
 |it id r m h=>exact .it _ r m ((hf id (by simp [ir])).trans h)
theorem dP.pT {v:Value} {x:V} (h:dP G w ρ v x) (hf:∀i∈kG x,ρ'[f i]? = ρ[i]?):dP G w ρ' v (tB f x):=by
 cases h with
 |k h=>
  have e1:tB f x=wj f x:=by cases h<;>rfl
  have e2:kG x=ir x:=by cases h<;>rfl
  rw [e1];exact .k (h.pT (by rw [←e2];exact hf))
 |fc g u cs caps h0 h1 h2=>
  refine .fc g _ cs _ h0 (by simpa using h1) (λi x hx=>?_);rw [aC] at hx;cases hc:caps[i]? with
  |none=>rw [hc] at hx;cases hx
  |some x0=>
   rw [hc] at hx;cases hx;exact (h2 i x0 hc).pT (λj hj=>hf j (by simp only [kG,aQ];exact ⟨x0,aH hc,hj⟩))
theorem dW.pT {v:Value} {x:V} (h:dW G w ρ v x) (hf:∀i∈jC x,ρ'[f i]? = ρ[i]?):dW G w ρ' v (pS f x):=by
 cases h with
 |c h=>
  have e1:pS f x=tB f x:=by
   cases h with
   |k h=>cases h<;>rfl
   |fc=>rfl
  have e2:jC x=kG x:=by
   cases h with
   |k h=>cases h<;>rfl
   |fc=>rfl
  rw [e1];exact .c (h.pT (by rw [←e2];exact hf))
 |ag cs vs h1 h2=>
  refine .ag cs _ (by simpa using h1) (λi x hx=>?_);rw [aC] at hx;cases hc:vs[i]? with
  |none=>rw [hc] at hx;cases hx
  |some x0=>
   rw [hc] at hx;cases hx;exact (h2 i x0 hc).pT (λj hj=>hf j (by simp only [jC,aQ];exact ⟨x0,aH hc,hj⟩))
theorem bB.pT {v:Value} {x:V} (h:bB G w ρ v x) (hf:∀i∈eR x,ρ'[f i]? = ρ[i]?):bB G w ρ' v (gb f x):=by
 cases h with
 |o h=>
  have e1:gb f x=pS f x:=by
   cases h with
   |c h=>cases h with
    |k h=>cases h<;>rfl
    |fc=>rfl
   |ag=>rfl
  have e2:eR x=jC x:=by
   cases h with
   |c h=>cases h with
    |k h=>cases h<;>rfl
    |fc=>rfl
   |ag=>rfl
  rw [e1];exact .o (h.pT (by rw [←e2];exact hf))
 |tu cs vs h1 h2=>
  refine .tu cs _ (by simpa using h1) (λi x hx=>?_);rw [aC] at hx;cases hc:vs[i]? with
  |none=>rw [hc] at hx;cases hx
  |some x0=>
   rw [hc] at hx;cases hx;exact (h2 i x0 hc).pT (λj hj=>hf j (by simp only [eR,aQ];exact ⟨x0,aH hc,hj⟩))
theorem cm.pT {v:Value} {x:B} (h:cm G w ρ v x) (hf:∀i∈et x,ρ'[f i]? = ρ[i]?):cm G w ρ' v (eb f x):=by
 cases x with
 |no=>trivial
 |nw=>exact h
 |cells cs=>
  obtain ⟨b,arr,ty,rfl,h1,h2,h3⟩:=h;refine ⟨b,arr,ty,rfl,h1,by simpa using h2,λi x hx=>?_⟩;rw [aC] at hx;cases hc:cs[i]? with
  |none=>rw [hc] at hx;cases hx
  |some x0=>
   rw [hc] at hx;cases hx;exact (h3 i x0 hc).pT (λj hj=>hf j (by simp only [et,aQ];exact ⟨x0,aH hc,hj⟩))
 |mp es=>
  obtain ⟨r,arr,clk,rfl,h1,h2,h3,h4⟩:=h;refine ⟨r,arr,clk,rfl,h1,by simpa using h2,h3,λi e x he hx=>?_⟩;rw [aC] at hx;cases hc:es[i]? with
  |none=>rw [hc] at hx;cases hx
  |some x0=>
   rw [hc] at hx;cases hx;exact ⟨(h4 i e x0 he hc).1.pT (λj hj=>hf j (by simp only [et,aQ];exact ⟨x0,aH hc,eC _ hj⟩)),
    (h4 i e x0 he hc).2.pT (λj hj=>hf j (by simp only [et,aQ];exact ⟨x0,aH hc,dq _ hj⟩))⟩
 |dm es=>exact cm.mono (x:=.dm es) h (λ_ h=>h) (λ_ _=>rfl) (λ_ _=>rfl) (λi hi=>by cases hi)
 |di es r l=>exact cm.mono (x:=.di es r l) h (λ_ h=>h) (λ_ _=>rfl) (λ_ _=>rfl) (λi hi=>by cases hi)
 |ms z es out it=>
  have h1:=cm.mono (x:=.ms z es none it) (w':=w) (ρ':= ρ') ⟨kP.drop h.1,h.2⟩ (λ_ h=>h) (λ_ _=>rfl) (λ_ _=>rfl) (λi hi=>by cases hi);exact ⟨h1.1.outs h.1 (λi v u ho hr=>hr.pT (λj hj=>hf j (by subst ho;exact hj))),h.2⟩
 |rows z rs=>exact h
 |rx z rs k r=>
  obtain ⟨b,cap,arr,ty,rfl,h1,h2,h3,h4,h0,h5,h6⟩:=h;refine ⟨b,cap,arr,ty,rfl,h1,h2,h3,h4,by simpa using h0,h5,λi x hx=>?_⟩;rw [aC] at hx;cases hc:r[i]? with
  |none=>rw [hc] at hx;cases hx
  |some x0=>
   rw [hc] at hx;cases hx;exact (h6 i x0 hc).pT (λj hj=>hf j (by simp only [et,aQ];exact ⟨x0,aH hc,hj⟩))
theorem nR (f:Nat→Nat) (x:B):gh (eb f x)=gh x:=by cases x<;>rfl
theorem k_ (f:Nat→Nat) (x:B):eb f x = .no↔x = .no:=by cases x<;>simp [eb]
theorem Ph {f:Nat→Nat} {x:V} (h:ir x = []):wj f x=x:=by cases x<;>simp [ir] at h<;>rfl
theorem fM {α:Type} {f:α→α} {l:List α} (h:∀x∈l,f x=x):l.map f=l:=by
 induction l with
 |nil=>rfl
 |cons x l ih=>rw [cH,h x (by simp),ih (λy hy=>h y (by simp [hy]))]
theorem Al {f:Nat→Nat} {x:V} (h:kG x = []):tB f x=x:=by
 cases x with
 |fc g c=>
  simp only [kG,cA] at h;simp only [tB,fM (λx hx=>Ph (h x hx))]
 |p | os | q | mp | ov | it=>simp [kG,ir] at h
 |_=>rfl
theorem G5 {f:Nat→Nat} {x:V} (h:jC x = []):pS f x=x:=by
 cases x with
 |ag c=>
  simp only [jC,cA] at h;simp only [pS,fM (λx hx=>Al (h x hx))]
 |fc g c=>exact Al (x:=.fc g c) h
 |p | os | q | mp | ov | it=>simp [jC,kG,ir] at h
 |_=>rfl
theorem Ak {f:Nat→Nat} {x:V} (h:eR x = []):gb f x=x:=by
 cases x with
 |tu c=>
  simp only [eR,cA] at h;simp only [gb,fM (λx hx=>G5 (h x hx))]
 |ag c=>exact G5 (x:=.ag c) h
 |fc g c=>exact Al (x:=.fc g c) h
 |p | os | q | mp | ov | it=>simp [eR,jC,kG,ir] at h
 |_=>rfl
end pT
def NB (G:Nat→Prop) (w:World) (ρ:List Value) (e:Ending):Out→Prop
 |.ret r=>∃v,e = .returned v∧bB G w ρ v r
 |.fm r=>∃v,e = .panicked [{ v:=v,recovered:=false }]∧bB G w ρ v r
def fF (P:Program) (f:Nat):Bool:=
 match P.funcs[f]? with
 | some fn=>fn.name != "runtime.NumGoroutine" && fn.body.isSome
 |none=>false
structure vI (P:Program) (f:Nat) (vs:List V) (h:H) (K:Out→H→Prop):Prop where
  ok:fF P f=true
  run:∀(G:Nat→Prop) (w:World) (ρ as:List Value),HR G w ρ h→as.length=vs.length→(∀(i:Nat) (x:V),vs[i]? = some x→bB G w ρ (as.getD i undef) x) →
    Calls P f as.toArray w λe w'=>∃(G':Nat→Prop) (ρ':List Value) (h':H) (out:Out),Ok ⟨w,G,ρ,h,[],[]⟩ G' w' ρ' h'∧NB G' w' ρ' e out∧K out h'
def Fw (r:Option Nat):Fence:={ Fence.wide with round:=r }
def qt:D→Value
 |.int k n=>.int k n
 |.bool b=>.bool b
 |.str s=>.string ⟨s.toArray⟩
 |_=>undef
structure AD (P:Program) (g:Nat) (caps:List V) (hb:H) (xs:List (List D)):Prop where
  ok:fF P g=true
  run:∀(ρ as:List Value) (l:Nat) (J:Nat→World→Prop) (Jx:World→Prop),as.length=caps.length →
    (∀i W W',J i W→gY W W'→J i W')→(∀W W',Jx W→gY W W'→Jx W') →
    (∀i W,J i W→∃G,HR G W ρ hb∧∀(j:Nat) (x:V),caps[j]? = some x→bB G W ρ (as.getD j undef) x) →
    (∀(i:Nat) (r:List D) (W1:World),xs[i]? = some r→J i W1→YieldAt (Fw none) 0 P l (r.map qt).toArray W1 λe W2=>(e = .returned (.bool true)∧J (i+1) W2)∨(e = .returned (.bool false)∧Jx W2)) →
    ∀W,J 0 W→CallsIn (Fw none) 0 P g (#[.func (.yield l) #[] #[]]++as.toArray) W λe W'=>(∃v,e = .returned v)∧(J xs.length W'∨Jx W')
def Sat (P:Program) (f:Nat) (vs:List V) (h:H) (K:Out→H→Prop):Prop:=
 vI P f vs h K∨(5000000≤f∧∃(z:Nat) (xs:List (List D)),AD P (f - 5000000) vs h xs∧K (.ret (.d (.sl z xs))) [])
theorem vI.mono {P:Program} {f:Nat} {vs:List V} {h:H} {K K':Out→H→Prop} (hs:vI P f vs h K) (hk:∀o h,K o h→K' o h):vI P f vs h K':=
 ⟨hs.1,λG w ρ as h1 h2 h3=>(hs.2 G w ρ as h1 h2 h3).mono λ_ _ ⟨G',ρ',h',out,a,b,c⟩=>⟨G',ρ',h',out,a,b,hk _ _ c⟩⟩
theorem Sat.mono {P:Program} {f:Nat} {vs:List V} {h:H} {K K':Out→H→Prop} (hs:Sat P f vs h K) (hk:∀o h,K o h→K' o h):Sat P f vs h K':=
 hs.imp (λh=>h.mono hk) λ⟨h1,z,xs,h2,h3⟩=>⟨h1,z,xs,h2,hk _ _ h3⟩
theorem Sat.fn {P:Program} {f:Nat} {vs:List V} {h:H} {K:KT} (hs:Sat P f vs h K) (hf:f<5000000):vI P f vs h K:=
 hs.resolve_right λh=>absurd h.1 (by omega)
def bM (P:Program) (f:Nat) (vs:List V) (r:V):Prop:=Sat P f vs [] λout h=>out = .ret r∧h = []
theorem bM.use {P:Program} {f:Nat} {vs:List V} {r:V} {K:KT} (hs:bM P f vs r) (hk:K (.ret r) []):Sat P f vs [] K:=
 hs.mono λo h ⟨e1,e2⟩=>by rw [e1,e2];exact hk
section back
theorem cO {l:List Nat} {i:Nat}:has l i=true↔i∈l:=by
 simp only [has,cw];constructor
 ·rintro ⟨x,hx,he⟩;rw [jf he];exact hx
 ·intro h;exact ⟨i,h,fG i⟩
theorem iQ {l:List Nat} (h:mD l=true):l.Nodup:=by
 induction l with
 |nil=>exact n6
 |cons x l ih=>
  simp only [mD,aP,dL] at h;refine cr.2 ⟨λhm=>?_,ih h.2⟩;have:=cO.2 hm;rw [h.1] at this;cases this
theorem tJ {ids:List Nat} {i:Nat} (h:i∈ids):pos ids i<ids.length:=
 List.findIdx_lt_length_of_exists ⟨i,h,fG i⟩
theorem iO {ids:List Nat} {i:Nat} (h:i∈ids):ids[pos ids i]? = some i:=by
 have hl:=tJ h;rw [aB hl];have:=List.findIdx_getElem (p:=Nat.beq i) (w:=hl);exact κ some (jf this).symm
theorem MJ {ids:List Nat} (hn:ids.Nodup) {k i:Nat} (h:ids[k]? = some i):pos ids i=k:=by
 have hi:=aH h;have h1:=iO hi;have hl:=(aA.1 h).1;exact (List.getElem?_inj (tJ hi) hn).1 (h1.trans h.symm)
theorem sR {n k i:Nat} {ids:List Nat} (h:ids[k]? = some i):home n ids k=i:=by simp [home,get?_eq,h]
theorem xP {n k:Nat} {ids:List Nat} (h:ids.length≤k):home n ids k=n+k - ids.length:=by simp [home,get?_eq,eP h]
theorem KG {ids:List Nat} {g:Nat→Nat} {h h':H}:(back ids g h h').length=h.length+(h'.length - ids.length):=by simp [back]
theorem zp {ids:List Nat} {g:Nat→Nat} {h h':H} {i:Nat} (hi:i∉ids) (hl:i<h.length):(back ids g h h')[i]? = h[i]?:=by
 have hb:has ids i=false:=by
  cases hb:has ids i
  ·rfl
  ·exact absurd (cO.1 hb) hi
 simp only [back];rw [aO (by simpa using hl)];simp [aB hl,hb]
theorem zr {ids:List Nat} {g:Nat→Nat} {h h':H} {i:Nat} (hi:i∈ids) (hl:i<h.length) (hll:ids.length≤h'.length):(back ids g h h')[i]? = (h'[pos ids i]?).map (eb g):=by
 have hb:=cO.2 hi;have hp:=tJ hi;simp only [back];rw [aO (by simpa using hl)];simp [aB hl,hb,get?_eq,aB (show pos ids i<h'.length by omega)]
theorem zq {ids:List Nat} {g:Nat→Nat} {h h':H} {i:Nat} (hl:h.length≤i):(back ids g h h')[i]? = (h'[ids.length+(i - h.length)]?).map (eb g):=by
 simp only [back];rw [aY (by simpa using hl)];simp []
def fO (ids:List Nat) (ρ ρ':List Value):List Value:=
 (ρ.zipIdx.map λp=>bif has ids p.2 then (ρ'[pos ids p.2]?).getD undef else p.1)++ρ'.drop ids.length
theorem u4 {ids:List Nat} {ρ ρ':List Value}:(fO ids ρ ρ').length=ρ.length+(ρ'.length - ids.length):=by simp [fO]
theorem u0 {ids:List Nat} {ρ ρ':List Value} {i:Nat} (hi:i∉ids) (hl:i<ρ.length):(fO ids ρ ρ')[i]? = ρ[i]?:=by
 have hb:has ids i=false:=by
  cases hb:has ids i
  ·rfl
  ·exact absurd (cO.1 hb) hi
 simp only [fO];rw [aO (by simpa using hl)];simp [aB hl,hb]
theorem pN {ids:List Nat} {ρ ρ':List Value} {i:Nat} (hi:i∈ids) (hl:i<ρ.length) (hll:ids.length≤ρ'.length):(fO ids ρ ρ')[i]? = ρ'[pos ids i]?:=by
 have hb:=cO.2 hi;have hp:=tJ hi;simp only [fO];rw [aO (by simpa using hl)];simp [aB hl,hb,aB (show pos ids i<ρ'.length by omega)]
theorem u3 {ids:List Nat} {ρ ρ':List Value} {i:Nat} (hl:ρ.length≤i):(fO ids ρ ρ')[i]? = ρ'[ids.length+(i - ρ.length)]?:=by
 simp only [fO];rw [aY (by simpa using hl)];simp []
theorem zo {ids:List Nat} (hn:ids.Nodup) {ρ ρ':List Value} (hlt:∀i∈ids,i<ρ.length) (hll:ids.length≤ρ'.length) (k:Nat):(fO ids ρ ρ')[home ρ.length ids k]? = ρ'[k]?:=by
 by_cases hk:k<ids.length
 ·have hg:=aB hk;rw [sR hg,pN (cL hk) (hlt _ (cL hk)) hll,MJ hn hg]
 ·rw [xP (by omega),u3 (by omega)];congr 1;omega
end back
section
variable {P:Program} {E:gR} {n:Nat} {G:Nat→Prop} {ρ:List Value} {t:T} {h:H} {a:Act} {w:World} {o:Oper} {b7:Act→World→Prop} {Q:Exit→Act→World→Prop} {K KP:V→T→H→Prop}
theorem sQ:∀(os:List Nat) (t:T) (K:T→Prop),Hk os t K=K (os.foldl (λt i=>kF i t) t)
 |[],_,_=>rfl
 |i :: os,t,K=>by simp [Ee,j2,sQ os]
theorem Lx (os:List Nat) (t:T) (i:Nat):∃f:V→V,gs (os.foldl (λt i=>kF i t) t) i=f (gs t i) ∧
  ∀(G:Nat→Prop) (w:World) (ρ ρ2:List Value) (v:Value) (x:V),bB G w ρ v x→(∀j∈os,∃v0,ρ[j]? = some v0∧j1 v0=true)→(∀j,j∉os→ρ2[j]? = ρ[j]?)→ρ2.length=ρ.length→bB G w ρ2 v (f x):=by
 induction os generalizing t with
 |nil=>
  refine ⟨id,rfl,λG w ρ ρ2 v x hr _ h2 _=>hr.mono (λ_ h=>h) (λ_ _=>rfl) (λj _=>h2 j (by simp))⟩
 |cons j os ih=>
  obtain ⟨f,hf,hr⟩:=ih (kF j t);refine ⟨λx=>f (BV j x),?_,λG w ρ ρ2 v x hv h1 h2 hl=>?_⟩
  ·rw [cN,hf,kF,qn _ rfl]
  ·obtain ⟨v0,hv0,hs0⟩:=h1 j (by simp);have hjl:j<ρ.length:=(aA.1 hv0).1;have hj2:j<ρ2.length:=by omega
   by_cases hjo:j∈os
   ·refine hr G w ρ ρ2 v _ ?_ (λk hk=>h1 k (by simp [hk])) (λk hk=>h2 k (by
     simp only [a8,not_or];exact ⟨λe=>hk (by rw [e];exact hjo),hk⟩)) hl
    have:=hv.tt (v1:=v0) hv0 hs0;rwa [nE hv0] at this
   ·refine hr G w (ρ.set j ρ2[j]) ρ2 v _ (hv.tt hv0 hs0) (λk hk=>?_) (λk hk=>?_) (by simpa using hl)
    ·obtain ⟨vk,hk1,hk2⟩:=h1 k (by simp [hk]);exact ⟨vk,by rw [bK,η (λe=>hjo (by rw [e];exact hk))];exact hk1,hk2⟩
    ·by_cases hkj:k=j
     ·subst hkj;rw [bm hjl,aB hj2]
     ·rw [bK,η (λe=>hkj e.symm)];exact h2 k (by simp only [a8,not_or];exact ⟨hkj,hk⟩)
theorem Hm (os:List Nat) (h:H) (i:Nat):∃f:B→B,(mW os h)[i]? = (h[i]?).map f∧(∀x,f x = .no↔x = .no)∧(∀x,gh (f x)=gh x) ∧
  ∀(G:Nat→Prop) (w:World) (ρ ρ2:List Value) (v:Value) (x:B),cm G w ρ v x→(∀j∈os,∃v0,ρ[j]? = some v0∧j1 v0=true)→(∀j,j∉os→ρ2[j]? = ρ[j]?)→ρ2.length=ρ.length→cm G w ρ2 v (f x):=by
 induction os generalizing h with
 |nil=>
  refine ⟨id,by simp [mW],λx=>Iff.rfl,λx=>rfl,λG w ρ ρ2 v x hr _ h2 _=>?_⟩
  by_cases hx:x = .no
  ·subst hx;trivial
  ·exact hr.mono (λ_ h=>h) (λ_ _=>rfl) (λ_ _=>rfl) (λj _=>h2 j (by simp))
 |cons j os ih=>
  obtain ⟨f,hf,hno,hgf,hr⟩:=ih (h.map (gi j));refine ⟨λx=>f (gi j x),?_,λx=>(hno _).trans (by cases x<;>simp [gi]),λx=>(hgf _).trans (oG _ _),λG w ρ ρ2 v x hv h1 h2 hl=>?_⟩
  ·rw [mW,hf,aC,Option.map_map];rfl
  ·obtain ⟨v0,hv0,hs0⟩:=h1 j (by simp);have hjl:j<ρ.length:=(aA.1 hv0).1;have hj2:j<ρ2.length:=by omega
   by_cases hjo:j∈os
   ·refine hr G w ρ ρ2 v _ ?_ (λk hk=>h1 k (by simp [hk])) (λk hk=>h2 k (by
     simp only [a8,not_or];exact ⟨λe=>hk (by rw [e];exact hjo),hk⟩)) hl
    have:=hv.tt (v1:=v0) hv0 hs0;rwa [nE hv0] at this
   ·refine hr G w (ρ.set j ρ2[j]) ρ2 v _ (hv.tt hv0 hs0) (λk hk=>?_) (λk hk=>?_) (by simpa using hl)
    ·obtain ⟨vk,hk1,hk2⟩:=h1 k (by simp [hk]);exact ⟨vk,by rw [bK,η (λe=>hjo (by rw [e];exact hk))];exact hk1,hk2⟩
    ·by_cases hkj:k=j
     ·subst hkj;rw [bm hjl,aB hj2]
     ·rw [bK,η (λe=>hkj e.symm)];exact h2 k (by simp only [a8,not_or];exact ⟨hkj,hk⟩)
theorem lW (os:List Nat) (h:H):(mW os h).length=h.length:=by
 induction os generalizing h with
 |nil=>rfl
 |cons j os ih=>rw [mW,ih];simp
theorem HR.part (hr:HR G w ρ h) {ids:List Nat} (hn:ids.Nodup) (hlt:∀i∈ids,i<h.length) (ib:∀i∈ids,∀x,h[i]? = some x→∀j∈et x,j∈ids) :
  HR G w (ids.map λi=>(ρ[i]?).getD undef) (ids.map λi=>eb (pos ids) ((get? h i).getD .no)) ∧
  (∀b,own (ids.map λi=>(ρ[i]?).getD undef) (ids.map λi=>eb (pos ids) ((get? h i).getD .no)) b→∃i v x,i∈ids∧ρ[i]? = some v∧h[i]? = some x∧x≠.no∧b∈e9 v x):=by
 have hρl:=hr.len;have get:∀(k:Nat) (v:Value) (y:B),(ids.map λi=>(ρ[i]?).getD undef)[k]? = some v→(ids.map λi=>eb (pos ids) ((get? h i).getD .no))[k]? = some y →
   ∃i x,ids[k]? = some i∧i∈ids∧ρ[i]? = some v∧h[i]? = some x∧y=eb (pos ids) x:=by
  intro k v y h1 h2;simp only [aC,aG] at h1 h2;obtain ⟨i,hi,rfl⟩:=h1;obtain ⟨i',hi',rfl⟩:=h2;rw [hi] at hi';cases hi';have hm:=aH hi;have hl:=hlt i hm;refine ⟨i,h[i],hi,hm,?_,aB hl,?_⟩
  ·rw [aB (by omega)];rfl
  ·rw [get?_eq,aB hl];rfl
 have hown:∀b,own (ids.map λi=>(ρ[i]?).getD undef) (ids.map λi=>eb (pos ids) ((get? h i).getD .no)) b→∃i v x,i∈ids∧ρ[i]? = some v∧h[i]? = some x∧x≠.no∧b∈e9 v x:=by
  rintro b ⟨k,v,y,h1,h2,h3,h4⟩
  obtain ⟨i,x,_,hm,g1,g2,rfl⟩:=get k v y h1 h2;exact ⟨i,v,x,hm,g1,g2,λe=>h3 ((k_ _ _).2 e),by rw [e9,nR] at h4;exact h4⟩
 refine ⟨⟨by simp,λk v y h1 h2=>?_,λk k' v v' y y' b h1 h2 h3 h4 h5 h6 h7 h8=>?_,hr.gl,λb hb ho=>?_,hr.uH⟩,hown⟩
 ·obtain ⟨i,x,_,hm,g1,g2,rfl⟩:=get k v y h1 h2;refine (hr.rep i v x g1 g2).pT (λj hj=>?_);have hjm:=ib i hm x g2 j hj;rw [aC,iO hjm];have:=hlt j hjm;rw [bA,aB (by omega)];rfl
 ·obtain ⟨i,x,e1,hm,g1,g2,rfl⟩:=get k v y h1 h2;obtain ⟨i',x',e2,hm',g1',g2',rfl⟩:=get k' v' y' h4 h5;rw [e9,nR] at h7 h8;have:=hr.nW i i' v v' x x' b g1 g2 (λe=>h3 ((k_ _ _).2 e)) g1' g2' (λe=>h6 ((k_ _ _).2 e)) h7 h8;subst this;exact (List.getElem?_inj (aA.1 e1).1 hn).1 (e1.trans e2.symm)
 ·obtain ⟨i,v,x,_,g1,g2,g3,g4⟩:=hown b ho;exact hr.gd b hb ⟨i,v,x,g1,g2,g3,g4⟩
theorem au.back (hC:au E n G ρ t h a w) {ids:List Nat} (hn:ids.Nodup) (hlt:∀i∈ids,i<h.length) (hnn:∀i∈ids,h[i]?≠some B.no) (ib:∀i∈ids,∀x,h[i]? = some x→∀j∈et x,j∈ids)
    {G':Nat→Prop} {w':World} {ρ':List Value} {h':H} (hO:Ok ⟨w,G,ids.map λi=>(ρ[i]?).getD undef,ids.map λi=>eb (pos ids) ((get? h i).getD .no),[],[]⟩ G' w' ρ' h') :
    au E n G' (fO ids ρ ρ') ((rowsOf h ids).foldl (λt i=>kF i t) t) (Vx.back ids (home h.length ids) (mW (rowsOf h ids) h) h') a w' ∧
      ∀(v:Value) (x:V),bB G' w' ρ' v x→bB G' w' (fO ids ρ ρ') v (gb (home h.length ids) x):=by
  obtain ⟨hP,hown⟩:=hC.ok.hr.part hn hlt ib
  have hr:=hC.ok.hr
  have hρl:=hr.len
  have hll:ids.length≤h'.length:=by simpa using hO.hl
  have hl':=hO.hr.len
  have hltρ:∀i∈ids,i<ρ.length:=λi hi=>by rw [hρl];exact hlt i hi
  have hb2:=λk=>zo (ρ := ρ) (ρ':= ρ') hn hltρ (by omega) k
  rw [hρl] at hb2
  generalize hρc:(ids.map λi=>(ρ[i]?).getD undef)=ρc at *
  generalize hhc:(ids.map λi=>eb (pos ids) ((get? h i).getD .no))=hc at *
  have hoc:∀b,own ρc hc b→own ρ h b:=λb hb=>by
    obtain ⟨i,v,x,_,g1,g2,g3,g4⟩:=hown b hb
    exact ⟨i,v,x,g1,g2,g3,g4⟩
  have hold:∀b,b<w.heap.size→¬own ρc hc b→w'.heap[b]? = w.heap[b]?:=hO.frame
  have hGb:∀b,G b→w'.heap[b]? = w.heap[b]?:=λb hb=>hold b (hr.gl b hb) (λho=>hr.gd b hb (hoc b ho))
  have hGG:∀b,G b→G' b:=hO.gm
  have hsz:w.heap.size≤w'.heap.size:=hO.size
  have hoth:∀(i:Nat) (v:Value) (x:B) (b:Nat),i∉ids→ρ[i]? = some v→h[i]? = some x→x≠.no→b∈e9 v x→b<w.heap.size∧(¬own ρc hc b)∧¬G' b∧¬own ρ' h' b:=by
    intro i v x b hi g1 g2 g3 g4
    have hb:=hr.lt g1 g2 g3 g4
    have hno:¬own ρc hc b:=λho=>by
      obtain ⟨i',v',x',hm,k1,k2,k3,k4⟩:=hown b ho
      exact hi (by rw [hr.nW i i' v v' x x' b g1 g2 g3 k1 k2 k3 g4 k4];exact hm)
    refine ⟨hb,hno,λhg=>?_,λho=>?_⟩
    · rcases hO.go b hg with h1 | ⟨_,h1 | h1⟩
      · exact hr.gd b h1 ⟨i,v,x,g1,g2,g3,g4⟩
      · exact absurd h1 (by show ¬w.heap.size≤b;omega)
      · exact hno h1
    · rcases hO.oo b ho with h1 | h1
      · exact absurd h1 (by show ¬w.heap.size≤b;omega)
      · exact hno h1
  have hos1:∀j∈rowsOf h ids,∃v0,ρ[j]? = some v0∧j1 v0=true:=by
    intro j hj
    simp only [rowsOf,d_,get?_eq] at hj
    obtain ⟨hjm,hjr⟩:=hj
    have hjl:=hlt j hjm
    have hx:=aB hjl
    rw [hx] at hjr
    have hv:=aB (hltρ j hjm)
    refine ⟨_,hv,?_⟩
    have hrep:=hr.rep j _ _ hv hx
    simp only [bf] at hjr
    generalize (h:List B)[j]=x at *
    cases x<;>simp [B3] at hjr
    · rcases hrep with ⟨he,_⟩ | ⟨_,_,_,_,he,_⟩<;>rw [he]<;>rfl
    · obtain ⟨_,_,_,_,he,_⟩:=hrep;rw [he];rfl
  have hmid:∀j,j∉rowsOf h ids→((fO ids ρ ρ').take ρ.length)[j]? = ρ[j]?:=by
    intro j hjr
    rw [ae]
    by_cases hjl:j<ρ.length
    · rw [ζ hjl]
      by_cases hj:j∈ids
      · rw [pN hj hjl (by omega)]
        have hv:=aB hjl
        have hx:=aB (hlt j hj)
        have hns:j1 ρ[j]=false:=by
          have hrep:=hr.rep j _ _ hv hx
          have hxn:=hnn j hj
          rw [hx] at hxn
          have hrw:j∈rowsOf h ids↔B3 ((h:List B)[j]'(hlt j hj))=true:=by
            simp only [rowsOf,d_,get?_eq,hx,bf]
            exact ⟨λh=>h.2,λh=>⟨hj,h⟩⟩
          generalize (h:List B)[j]'(hlt j hj)=x at *
          cases x with
          |no=>exact absurd rfl hxn
          |nw=>
            have hu:_=undef:=hrep
            rw [hu];rfl
          |cells cs=>obtain ⟨b,arr,ty,he,_⟩:=hrep;rw [he];rfl
          |mp es=>obtain ⟨b,arr,clk,he,_⟩:=hrep;rw [he];rfl
          |dm es=>obtain ⟨b,arr,clk,he,_⟩:=hrep;rw [he];rfl
          |di es r l=>obtain ⟨⟨b,arr,clk,he,_⟩,_⟩:=hrep;rw [he];rfl
          |ms z es out it=>obtain ⟨⟨b,arr,clk,he,_⟩,_⟩:=hrep;rw [he];rfl
          |rows z rs=>exact absurd (hrw.2 rfl) hjr
          |rx z rs k r=>exact absurd (hrw.2 rfl) hjr
        rw [hv]
        refine hO.hand (pos ids j) _ ?_ hns
        show ρc[pos ids j]? = _
        rw [←hρc]
        simp only [aC,iO hj,bA,hv,bf]
      · exact u0 hj hjl
    · rw [η hjl,eP (by omega)]
  have htl:((fO ids ρ ρ').take ρ.length).length=ρ.length:=by rw [af,u4];omega
  have hext:∀i,i<ρ.length→(fO ids ρ ρ')[i]? = ((fO ids ρ ρ').take ρ.length)[i]?:=λi hi=>by rw [ae,ζ hi]
  have hren:∀(v:Value) (x:V),bB G' w' ρ' v x→bB G' w' (fO ids ρ ρ') v (gb (home h.length ids) x):=λv x hv=>hv.pT (λi _=>hb2 i)
  have hbl:(Vx.back ids (home h.length ids) (mW (rowsOf h ids) h) h').length=h.length+(h'.length - ids.length):=by rw [KG,lW]
  have get:∀(i:Nat) (v:Value) (y:B),(fO ids ρ ρ')[i]? = some v→(Vx.back ids (home h.length ids) (mW (rowsOf h ids) h) h')[i]? = some y →
      (i∉ids∧ρ[i]? = some v∧∃(x:B) (f:B→B),h[i]? = some x∧y=f x∧(f x = .no↔x = .no)∧gh (f x)=gh x∧(cm G' w' ρ v x→cm G' w' (fO ids ρ ρ') v y)) ∨
      (∃k x,home h.length ids k=i∧ρ'[k]? = some v∧h'[k]? = some x∧y=eb (home h.length ids) x):=by
    intro i v y h1 h2
    by_cases hil:i<h.length
    · by_cases hi:i∈ids
      · rw [pN hi (by omega) (by omega)] at h1
        rw [zr hi (by rw [lW];exact hil) hll] at h2
        simp only [aG] at h2
        obtain ⟨x,hx,rfl⟩:=h2
        exact .inr ⟨pos ids i,x,sR (iO hi),h1,hx,rfl⟩
      · rw [u0 hi (by omega)] at h1
        rw [zp hi (by rw [lW];exact hil)] at h2
        obtain ⟨f,hf,hno,hgf,hrf⟩:=Hm (rowsOf h ids) h i
        rw [hf] at h2
        simp only [aG] at h2
        obtain ⟨x,hx,rfl⟩:=h2
        refine .inl ⟨hi,h1,x,f,hx,rfl,hno x,hgf x,λhrep=>?_⟩
        have h3:=hrf G' w' ρ _ v x hrep hos1 hmid htl
        by_cases hfx:f x = .no
        · rw [hfx];trivial
        · exact h3.mono (λ_ h=>h) (λ_ _=>rfl) (λ_ _=>rfl) (λj hj=>hext j (by have:=h3.lt j hj;omega))
    · rw [u3 (by omega)] at h1
      rw [zq (by rw [lW];omega),lW] at h2
      simp only [aG] at h2
      obtain ⟨x,hx,rfl⟩:=h2
      rw [hρl] at h1
      exact .inr ⟨_,x,by rw [xP (by omega)];omega,h1,hx,rfl⟩
  have hOk:Ok E G' w' (fO ids ρ ρ') (Vx.back ids (home h.length ids) (mW (rowsOf h ids) h) h'):=by
    have hownb:∀b,own (fO ids ρ ρ') (Vx.back ids (home h.length ids) (mW (rowsOf h ids) h) h') b→(own ρ h b∨w.heap.size≤b)∧¬G' b:=by
      rintro b ⟨i,v,y,h1,h2,h3,h4⟩
      rcases get i v y h1 h2 with ⟨hi,g1,x,f,g2,rfl,g4,g6,_⟩ | ⟨k,x,_,g1,g2,rfl⟩
      · rw [e9,g6] at h4
        have hxn:x≠.no:=λe=>h3 (g4.2 e)
        exact ⟨.inl ⟨i,v,x,g1,g2,hxn,h4⟩,(hoth i v x b hi g1 g2 hxn h4).2.2.1⟩
      · rw [e9,nR] at h4
        have hxn:x≠.no:=λe=>h3 ((k_ _ _).2 e)
        have ho:own ρ' h' b:=⟨k,v,x,g1,g2,hxn,h4⟩
        refine ⟨?_,λhg=>hO.hr.gd b hg ho⟩
        rcases hO.oo b ho with h5 | h5
        · exact .inr h5
        · exact .inl (hoc b h5)
    refine ⟨⟨by rw [u4,hbl];omega,λi v y h1 h2=>?_,λi i' v v' y y' b h1 h2 h3 h4 h5 h6 h7 h8=>?_,hO.hr.gl,λb hb ho=>(hownb b ho).2 hb,hO.hr.uH⟩,λb hb=>hGG b (hC.ok.gm b hb),λb hb=>?_,λb hb=>?_,
      λb hb hnb=>?_,aZ hC.ok.size hsz,hO.os.trans hC.ok.os,hO.tape.trans hC.ok.tape,hO.out.trans hC.ok.out,λi v hv hs=>?_,by rw [hbl];have:=hC.ok.hl;omega,λr hr'=>?_⟩
    · rcases get i v y h1 h2 with ⟨hi,g1,x,f,g2,rfl,g4,_,g5⟩ | ⟨k,x,_,g1,g2,rfl⟩
      · by_cases hxn:x = .no
        · rw [g4.2 hxn];trivial
        · exact g5 ((hr.rep i v x g1 g2).mono hGG hGb (λb hb=>by
            obtain ⟨e1,e2,_⟩:=hoth i v x b hi g1 g2 hxn hb
            exact hold b e1 e2) (λ_ _=>rfl))
      · exact (hO.hr.rep k v x g1 g2).pT (λj _=>hb2 j)
    · rcases get i v y h1 h2 with ⟨hi,g1,x,f,g2,rfl,g4,g6,_⟩ | ⟨k,x,e1,g1,g2,rfl⟩<;>rcases get i' v' y' h4 h5 with ⟨hi',k1,x',f',k2,rfl,k4,k6,_⟩ | ⟨k',x',e2,k1,k2,rfl⟩
      · rw [e9,g6] at h7
        rw [e9,k6] at h8
        exact hr.nW i i' v v' x x' b g1 g2 (λe=>h3 (g4.2 e)) k1 k2 (λe=>h6 (k4.2 e)) h7 h8
      · rw [e9,g6] at h7
        rw [e9,nR] at h8
        exact absurd ⟨k',v',x',k1,k2,λe=>h6 ((k_ _ _).2 e),h8⟩ (hoth i v x b hi g1 g2 (λe=>h3 (g4.2 e)) h7).2.2.2
      · rw [e9,nR] at h7
        rw [e9,k6] at h8
        exact absurd ⟨k,v,x,g1,g2,λe=>h3 ((k_ _ _).2 e),h7⟩ (hoth i' v' x' b hi' k1 k2 (λe=>h6 (k4.2 e)) h8).2.2.2
      · rw [e9,nR] at h7 h8
        have:=hO.hr.nW k k' v v' x x' b g1 g2 (λe=>h3 ((k_ _ _).2 e)) k1 k2 (λe=>h6 ((k_ _ _).2 e)) h7 h8
        rw [←e1,←e2,this]
    · rcases hO.go b hb with h1 | ⟨hc,h1 | h1⟩
      · exact (hC.ok.go b h1).imp (λh=>h) λh2=>⟨h2.1.same (hGb b h1),h2.2⟩
      · exact .inr ⟨hc,.inl (aZ hC.ok.size h1)⟩
      · exact .inr ⟨hc,hC.ok.oo b (hoc b h1)⟩
    · rcases (hownb b hb).1 with h1 | h1
      · exact hC.ok.oo b h1
      · exact .inl (aZ hC.ok.size h1)
    · have hbw:b<w.heap.size:=bt hb hC.ok.size
      rw [hold b hbw (λho=>?_)]
      · exact hC.ok.frame b hb hnb
      · rcases hC.ok.oo b (hoc b ho) with h1 | h1
        · omega
        · exact hnb h1
    · have h0:=hC.ok.hand i v hv hs
      have hil:=(aA.1 h0).1
      rw [hext i hil]
      by_cases hjr:i∈rowsOf h ids
      · obtain ⟨v0,hv0,hs0⟩:=hos1 i hjr
        rw [h0] at hv0
        cases hv0
        rw [hs] at hs0;cases hs0
      · rw [hmid i hjr];exact h0
    · obtain ⟨h1,h2,h3⟩:=hC.ok.sN r hr'
      have hlt:=(aN.1 h1).1
      refine ⟨(hold r hlt λho=>h3 (hoc r ho)).trans h1,λh4=>?_,λh4=>?_⟩
      · rcases hO.go r h4 with h5 | ⟨_,h5 | h5⟩
        · exact h2 h5
        · exact absurd h5 (by show ¬w.heap.size≤r;omega)
        · exact h3 (hoc r h5)
      · rcases (hownb r h4).1 with h5 | h5
        · exact h3 h5
        · omega
  refine ⟨⟨hOk,hC.df,hC.sz,λi=>?_⟩,hren⟩
  obtain ⟨f,hf,hrf⟩:=Lx (rowsOf h ids) t i
  rw [hf]
  have h3:=hrf G' w' ρ _ _ _ ((hC.tm i).mono hGG hGb (λ_ _=>rfl)) hos1 hmid htl
  exact h3.mono (λ_ h=>h) (λ_ _=>rfl) (λj hj=>hext j (by have:=h3.lt j hj;omega))
end
end Go.Vx
