/- Lemmas. Conditions: none. -/
import Derived.Test.YtmigecldjbgneaaGreatDoorQKAO
import Derived.Test.YtmigecldjbgneaaGreatDoorQKAS
import Derived.Shelf.Abstract
import Derived.WalkKit
import Derived.OwnWalkIn
import Derived.TacticsInMore
import Derived.LoopNIn
import Derived.LoopIn
set_option maxRecDepth 100000
namespace Go.Proofs.YtmigecldjbgneaaGreatDoor
open Go.Vx
set_option maxRecDepth 100000
set_option maxHeartbeats 4000000
section
variable{keep:Bool}{vs:List V}{h:H}{K:KT}
def c57a:C:=.dw [⟨some 2,.bx (.s 0),none⟩,⟨some 4,.al [.d (.nm)],none⟩,⟨some 5,.al [.d (.int .i64 0),.d (.int .i64 0)],none⟩]
theorem c57a_ok:comp Tryz.prog Tryz.f57.ntmps (yQ ((Tryz.f57.body).getD .skip))=some c57a:=zx0
def c57b:C:=.seq (.y_ [(⟨some 10,.ld (.s 2) (some 2),none⟩,[]),(⟨some 11,.fa (.s 2) 1,none⟩,[]),(⟨some 12,.ld (.s 11) none,none⟩,[1]),(⟨some 13,.mv (.s 1),none⟩,[]),(⟨some 14,.ia (.s 12) (.s 13) 3,none⟩,[2,3,1]),(⟨some 15,.ld (.s 14) (some 3),none⟩,[4,2,3,1]),(⟨some 16,.mm 1,none⟩,[]),(⟨some 17,.mm 1,none⟩,[]),(⟨some 18,.bd [.nl 5,.nl 3,.d (.int .i64 0),.d (.int .i64 0),.nl 2,.d (.nm),.d (.nm)] [(0,2,.s 10),(2,3,.s 15),(5,1,.s 16),(6,1,.s 17)],none⟩,[0,5,6,7,4,2,3,1]),(⟨some 6,.al [.nl 5,.nl 3,.d (.int .i64 0),.d (.int .i64 0),.nl 2,.d (.nm),.d (.nm)],none⟩,[])] [⟨none,.st (.s 6) (.s 18) 7,none⟩]) (.seq (.seq (.dw [⟨some 19,.fa (.s 6) 2,none⟩,⟨some 20,.fa (.s 19) 2,none⟩,⟨some 21,.ld (.s 20) none,none⟩,⟨some 22,.ln (.s 21),none⟩,⟨some 23,.mv (.k (.d (.int .i64 0))),none⟩]) (.block 0 (.loop (.seq (.dw [⟨some 24,.bin .lss (.s 23) (.s 22),none⟩]) (.seq (.cond (.s 24) (.skip) (.exit 0)) (.seq (.block 1 (.seq (.dw [⟨some 25,.mv (.s 23),none⟩,⟨some 7,.mv (.s 25),none⟩]) (.dw [⟨some 26,.mv (.s 7),none⟩,⟨some 27,.cf 94 [.s 6,.s 26],none⟩]))) (.dw [⟨some 28,.bin .add (.s 23) (.k (.d (.int .i64 1))),none⟩,⟨some 23,.mv (.s 28),none⟩]))))))) (.seq (.dw [⟨some 29,.bd [.d (.int .i64 0),.d (.int .i64 0)] [],none⟩,⟨some 30,.cf 95 [.s 6,.k (.d (.int .i64 0)),.k (.d (.int .i64 0)),.s 29],none⟩]) (.seq (.block 2 (.loop (.seq (.seq (.dw [⟨some 31,.fa (.s 6) 6,none⟩,⟨some 32,.ld (.s 31) none,none⟩,⟨some 33,.lm (.s 32),none⟩,⟨some 34,.bin .gtr (.s 33) (.k (.d (.int .i64 0))),none⟩]) (.cond (.s 34) (.skip) (.exit 2))) (.block 3 (.seq (.dw [⟨some 35,.fa (.s 6) 6,none⟩,⟨some 36,.ld (.s 35) none,none⟩,⟨some 37,.cf 97 [.s 36],none⟩,⟨some 38,.cf 96 [.s 37],none⟩,⟨some 39,.ia (.s 38) (.k (.d (.int .i64 0))) 1,none⟩,⟨some 40,.ld (.s 39) none,none⟩,⟨some 8,.mv (.s 40),none⟩]) (.seq (.dw [⟨some 41,.fa (.s 6) 6,none⟩,⟨some 42,.ld (.s 41) none,none⟩,⟨some 43,.mv (.s 8),none⟩,⟨none,.md (.s 42) (.s 43) [0,3],none⟩]) (.dw [⟨some 44,.mv (.s 8),none⟩,⟨some 45,.cf 98 [.s 6,.s 44],none⟩]))))))) (.seq (.dw [⟨some 46,.fa (.s 6) 5,none⟩,⟨some 47,.ld (.s 46) none,none⟩,⟨some 48,.bd [.d (.int .i64 0),.d (.int .i64 0)] [],none⟩,⟨none,.st (.s 4) (.s 47) 1,none⟩,⟨none,.st (.s 5) (.s 48) 2,none⟩]) (.ret)))))
theorem c57b_ok:comp Tryz.prog Tryz.f57.ntmps (vj (vj ((Tryz.f57.body).getD .skip)))=some c57b:=zx0
def r57:List RV:=[.c 4 none,.c 5 (some 2)]
theorem r57_ok:BG Tryz.prog Tryz.f57=some r57:=zx0
theorem s57(hl:Nat.ble vs.length 49=true)(hk:R_ (Sat Tryz.prog) (vF Tryz.prog) ow keep c57a 9 93 [.s 4,.s 5] c57b r57 vs h K):Z1 57 vs h K:=
 vo ow mixed (fn:=Tryz.f57) (id:=Vs (yQ (vj ((Tryz.f57.body).getD .skip)))) (oM:=(vV (yQ (vj ((Tryz.f57.body).getD .skip)))).getD 0 default) (oD:=(vV (yQ (vj ((Tryz.f57.body).getD .skip)))).getD 1 default) (caps:=YC ((vV (yQ (vj ((Tryz.f57.body).getD .skip)))).getD 0 default)) (A:=yQ ((Tryz.f57.body).getD .skip)) (c:=vj (vj ((Tryz.f57.body).getD .skip))) zx0 zx0 zx0 ⟨by kernel_rfl,by kernel_rfl,by kernel_rfl⟩ ⟨by kernel_rfl,by kernel_rfl,by kernel_rfl⟩ (θ zx0) zx0 c57a_ok c57b_ok zx0 r57_ok hl hk
def c93r:C:=.seq (.dw [⟨some 6,.mv (.s 2),none⟩,⟨some 7,.pu (.iq true) (.s 6),none⟩]) (.cond (.s 7) (.seq (.dw [⟨some 9,.mv (.s 2),none⟩,⟨some 10,.pu (.ta 149 true (.ag [.d (.int .i64 0),.d (.int .i64 0)]) true) (.s 9),none⟩,⟨some 8,.mv (.s 10),none⟩,⟨some 11,.ex (.s 8) 0,none⟩,⟨some 12,.ex (.s 8) 1,none⟩,⟨some 3,.al [.d (.int .i64 0),.d (.int .i64 0)],none⟩,⟨none,.st (.s 3) (.s 11) 2,none⟩,⟨some 4,.mv (.s 12),none⟩]) (.seq (.seq (.dw [⟨some 13,.mv (.s 4),none⟩,⟨some 14,.un .not (.s 13),none⟩]) (.cond (.s 14) (.dw [⟨some 15,.bd [.d (.int .i64 0),.d (.int .i64 0)] [(0,1,.k (.d (.int .i64 0))),(1,1,.k (.d (.int .i64 2)))],none⟩,⟨none,.st (.s 3) (.s 15) 2,none⟩]) (.skip))) (.y_ [(⟨some 16,.ld (.s 3) (some 2),none⟩,[]),(⟨none,.st (.s 0) (.k (.d (.nm))) 1,none⟩,[])] [⟨none,.st (.s 1) (.s 16) 2,none⟩]))) (.skip))
theorem c93r_ok:comp Tryz.prog Tryz.f93.ntmps (vj ((Tryz.f93.body).getD .skip))=some c93r:=zx0
theorem s93{vs:List V}{h:H}{r:Option V}{K:H->Prop}(hl:Nat.ble vs.length 17=true)(hk:wx (Sat Tryz.prog) ow h.length c93r ((2,Ky r)::(5,Ky r)::FJ 0 vs) h λe _ h1=>match e with
  |.qD|.ret=>K h1
  |_=>False):vF Tryz.prog 93 vs h r K:=
 tV ow (fn:=Tryz.f93) (id:=Vs (yQ ((Tryz.f93.body).getD .skip))) (oR:=(vV (yQ ((Tryz.f93.body).getD .skip))).getD 0 default) (oA:=(vV (yQ ((Tryz.f93.body).getD .skip))).getD 1 default) (c:=vj ((Tryz.f93.body).getD .skip)) mixed zx0 zx0 zx0 ⟨by kernel_rfl,by kernel_rfl,by kernel_rfl⟩ ⟨by kernel_rfl,by kernel_rfl,by kernel_rfl⟩ ⟨θ zx0,θ zx0⟩ zx0 c93r_ok hl hk
def c148a:C:=.dw [⟨some 4,.al [.d (.int .i64 0)],none⟩,⟨some 5,.al [.d (.bool false)],none⟩]
theorem c148a_ok:comp Tryz.prog Tryz.f148.ntmps (yQ ((Tryz.f148.body).getD .skip))=some c148a:=zx0
def c148b:C:=.seq (.dw [⟨some 7,.mv (.s 1),none⟩,⟨some 8,.mv (.s 0),none⟩,⟨some 9,.cc (.s 7) [.s 8],none⟩]) (.seq (.dw [⟨some 10,.bd [.d (.int .i64 0)] [],none⟩,⟨none,.st (.s 4) (.s 10) 1,none⟩,⟨none,.st (.s 5) (.k (.d (.bool false))) 1,none⟩]) (.ret))
theorem c148b_ok:comp Tryz.prog Tryz.f148.ntmps (vj (vj ((Tryz.f148.body).getD .skip)))=some c148b:=zx0
def r148:List RV:=[.c 4 (some 1),.c 5 none]
theorem r148_ok:BG Tryz.prog Tryz.f148=some r148:=zx0
theorem s148(hl:Nat.ble vs.length 11=true)(hk:R_ (Sat Tryz.prog) (vF Tryz.prog) ow keep c148a 6 197 [.s 4,.s 5] c148b r148 vs h K):Z1 148 vs h K:=
 vo ow mixed (fn:=Tryz.f148) (id:=Vs (yQ (vj ((Tryz.f148.body).getD .skip)))) (oM:=(vV (yQ (vj ((Tryz.f148.body).getD .skip)))).getD 0 default) (oD:=(vV (yQ (vj ((Tryz.f148.body).getD .skip)))).getD 1 default) (caps:=YC ((vV (yQ (vj ((Tryz.f148.body).getD .skip)))).getD 0 default)) (A:=yQ ((Tryz.f148.body).getD .skip)) (c:=vj (vj ((Tryz.f148.body).getD .skip))) zx0 zx0 zx0 ⟨by kernel_rfl,by kernel_rfl,by kernel_rfl⟩ ⟨by kernel_rfl,by kernel_rfl,by kernel_rfl⟩ (θ zx0) zx0 c148a_ok c148b_ok zx0 r148_ok hl hk
def c197r:C:=.seq (.dw [⟨some 4,.mv (.s 2),none⟩,⟨some 5,.pu (.iq true) (.s 4),none⟩]) (.cond (.s 5) (.seq (.dw [⟨some 7,.mv (.s 2),none⟩,⟨some 8,.pu (.ta 288 true (.ag [.d (.int .i64 0)]) true) (.s 7),none⟩,⟨some 6,.mv (.s 8),none⟩,⟨some 9,.ex (.s 6) 0,none⟩,⟨some 10,.ex (.s 6) 1,none⟩,⟨none,.st (.s 0) (.s 9) 1,none⟩]) (.dw [⟨none,.st (.s 1) (.k (.d (.bool true))) 1,none⟩])) (.skip))
theorem c197r_ok:comp Tryz.prog Tryz.f197.ntmps (vj ((Tryz.f197.body).getD .skip))=some c197r:=zx0
theorem s197{vs:List V}{h:H}{r:Option V}{K:H->Prop}(hl:Nat.ble vs.length 11=true)(hk:wx (Sat Tryz.prog) ow h.length c197r ((2,Ky r)::(3,Ky r)::FJ 0 vs) h λe _ h1=>match e with
  |.qD|.ret=>K h1
  |_=>False):vF Tryz.prog 197 vs h r K:=
 tV ow (fn:=Tryz.f197) (id:=Vs (yQ ((Tryz.f197.body).getD .skip))) (oR:=(vV (yQ ((Tryz.f197.body).getD .skip))).getD 0 default) (oA:=(vV (yQ ((Tryz.f197.body).getD .skip))).getD 1 default) (c:=vj ((Tryz.f197.body).getD .skip)) mixed zx0 zx0 zx0 ⟨by kernel_rfl,by kernel_rfl,by kernel_rfl⟩ ⟨by kernel_rfl,by kernel_rfl,by kernel_rfl⟩ ⟨θ zx0,θ zx0⟩ zx0 c197r_ok hl hk
end
section
variable{keep:Bool}{vs:List V}{h:H}{K:KT}
def c29:C:=.seq (.dw [iS 1 (.bx (.s 0)),iS 2 (.mv (.k (.d (.bool false))))]) (.seq (.y_ [(iD 3 1 2,[]),(iS 4 (.cf 58 [.s 3]),[0]),(iD 5 1 2,[])] [iS 6 (.eq false true [2,2] (.s 4) (.s 5)),iM 2 6]) (.ret))
noncomputable def s29:=sf (N:=29) (n:=7) (c:=c29) (r:=[.s 2]) Tryz.f29
end
section
variable{keep:Bool}{vs:List V}{h:H}{K:KT}
end
section
variable{keep:Bool}{vs:List V}{h:H}{K:KT}
end
open Go.RowKit Go.Shelf
attribute [local go_sem] Oper.semAt_some
theorem QF{k n:Nat}(hm:n<=9223372036854775807)(h:k<n):wrap64 ((k:Int)+1)=k+1:=by unfold wrap64;omega
def Df(s:List UInt8):List (List D):=s.map λb=>[D.int .u8 b.toNat]
set_option maxHeartbeats 2000000 in
theorem CE(F:Fence)(n:Nat)(hf:F.fn 118)(hro:F.round=none)(hn:1<=n)(s:List UInt8)(hm:s.length<=9223372036854775807)(l b:Nat)(J:Nat->World->Prop)(Jx:World->Prop)(hcell:∀i W,J i W->W.cell? ⟨b,0,none⟩=some (.string ⟨s.toArray⟩))
    (hY:∀(i:Nat)(x:UInt8)(W1:World),s[i]?=some x->J i W1->YieldAt F (n-1) Tryz.prog l #[.int .u8 x.toNat] W1 λe W2=>(e=.returned (.bool true)/\J (i+1) W2)\/(e=.returned (.bool false)/\Jx W2))
    (W:World) (h0:J 0 W):CallsIn F n Tryz.prog 118 #[.func (.yield l) #[] #[],.pointer (some ⟨b,0,none⟩)] W λe W'=>(∃v,e=.returned v)/\(J s.length W'\/Jx W'):=by
  have hc:=hcell 0 W h0
  refine callsIn_of_wp Tryz.func118 rfl hf ?_ hro
  simp only[Tryz.ntmps118,eC,aZ,ak,Nat.reduceAdd,Nat.reduceSub,Array.replicate_succ,Array.replicate_zero,List.push_toArray,List.append_toArray,List.nil_append,List.cons_append]
  gi_wp2
  gi_loopw [6] (λp wr=>∃k:Nat,k<=s.length/\p=.int .i64 k/\J k wr) (λp _=>s.length-(intOf p).toNat)
  case atStart=>exact⟨0,aY _,rfl,h0⟩
  case round=>
    obtain⟨k,hk,rfl,hJs⟩:=hrel
    have hcx:=hcell k wr hJs
    by_cases hlt:k<s.length
    · obtain⟨fn,tmps,assign,body,hy,hR⟩:=hY k s[k] wr (by simp[hlt]) hJs
      have hkl:k<(ByteArray.mk s.toArray).size:=by simpa[ByteArray.size]using hlt
      rw[show s[k]=(ByteArray.mk s.toArray)[k]from rfl]at hy
      gi_wp2
      refine hR.mono ?_
      rintro e W3 (⟨rfl,hJ3⟩|⟨rfl,hJx3⟩)
      · have hw:=QF hm hlt
        gi_wp2
        go_roundw
        case rel=>exact⟨k+1,by omega,by simp,hJ3⟩
        case measure=>simp[intOf];omega
      · gi_wp2
        refine bodyPost_ret (results_none rfl _ _ _) rfl ?_
        exact⟨⟨_,rfl⟩,.inr hJx3⟩
    · obtain rfl:k=s.length:=by omega
      gi_wp2
      go_end0
      exact⟨⟨_,rfl⟩,.inl hJs⟩
theorem sw(s:List UInt8):AV Tryz.prog 118 [.p 0 0] [.cells [.d (.str s)]] (Df s):=by
 refine⟨by kernel_rfl,?_⟩;intro ρ cv l J Jx hlen hJ hJx hrep hY W h0;obtain⟨a0,rfl⟩:=eD.1 (show cv.length=1 from hlen);have hcell:∀i W,J i W->∃b,a0=.pointer (some ⟨b,0,none⟩)/\W.cell? ⟨b,0,none⟩=some (.string ⟨s.toArray⟩)/\s.length<=maxLen:=by
  intro i W hj;obtain⟨G,hR,hv⟩:=hrep i W hj;obtain⟨b,e1,hρ⟩:=(hv 0 (.p 0 0) rfl).pt;obtain⟨b',arr,ty,e2,h1,h2,h3⟩:=hR.rep 0 _ _ hρ rfl;cases e2;have h4:=h3 0 (.d (.str s)) rfl;have hlt:0<arr.size:=by rw[h2];simp
  have e5:arr.getD 0 undef=arr[0]:=by rw[aH,aS hlt];rfl
  rw[e5]at h4;refine⟨b,e1,?_⟩;rw[cz h1,aS hlt];generalize arr[0]=u at h4;generalize hs:D.str s=ds at h4;cases h4 with
  |k h=>cases h with
   |d h=>cases h with
    |str sv hm=>
     cases hs;exact⟨rfl,hm⟩
    |_=>cases hs
 obtain⟨b,rfl,hc,hm⟩:=hcell 0 W h0;have hcell':∀i W,J i W->W.cell? ⟨b,0,none⟩=some (.string ⟨s.toArray⟩):=λi W hj=>by
  obtain⟨b',e,h1,_⟩:=hcell i W hj;cases e;exact h1
 have h1:=CE (Fw none) 1 trivial rfl (aL _) s hm l b J Jx hcell' (λi x W1 hx hj=>hY i [D.int .u8 x.toNat] W1 (by simp[Df,hx]) hj) W h0;rw[show(Df s).length=s.length by simp[Df]];exact um (uV h1)
end Go.Proofs.YtmigecldjbgneaaGreatDoor