/- Lemmas. Conditions: none. -/
import Derived.Test.YtjpgfgajkjhonaaGreatDoorQRAP
import Derived.Test.YtjpgfgajkjhonaaGreatDoorQRAQ
import Derived.Shelf.Abstract
import Derived.WalkKit
import Derived.OwnWalkIn
import Derived.TacticsInMore
import Derived.LoopNIn
import Derived.LoopIn
set_option maxRecDepth 100000
namespace Go.Proofs.YtjpgfgajkjhonaaGreatDoor
open Go.Vx
set_option maxRecDepth 100000
set_option maxHeartbeats 4000000
section
variable{keep:Bool}{vs:List V}{h:H}{K:KT}
def c115a:C:=.gz [⟨some 4,.al [.d (.int .i64 0)],none⟩,⟨some 5,.al [.d (.bool false)],none⟩]
theorem c115a_ok:comp Tryz.prog Tryz.f115.ntmps (Kv ((Tryz.f115.body).getD .skip))=some c115a:=zx0
def c115b:C:=.seq (.gz [⟨some 7,.mv (.s 1),none⟩,⟨some 8,.mv (.s 0),none⟩,⟨some 9,.cc (.s 7) [.s 8],none⟩]) (.seq (.gz [⟨some 10,.bd [.d (.int .i64 0)] [],none⟩,⟨none,.st (.s 4) (.s 10) 1,none⟩,⟨none,.st (.s 5) (.k (.d (.bool false))) 1,none⟩]) (.ret))
theorem c115b_ok:comp Tryz.prog Tryz.f115.ntmps (KF (KF ((Tryz.f115.body).getD .skip)))=some c115b:=zx0
def r115:List RV:=[.c 4 (some 1),.c 5 none]
theorem r115_ok:Ds Tryz.prog Tryz.f115=some r115:=zx0
theorem s115(hl:Nat.ble vs.length 11=true)(hk:UH (Sat Tryz.prog) (Be Tryz.prog) ow keep c115a 6 169 [.s 4,.s 5] c115b r115 vs h K):Z1 115 vs h K:=
 Dk ow mixed (fn:=Tryz.f115) (id:=Wp (Kv (KF ((Tryz.f115.body).getD .skip)))) (oM:=(GY (Kv (KF ((Tryz.f115.body).getD .skip)))).getD 0 default) (oD:=(GY (Kv (KF ((Tryz.f115.body).getD .skip)))).getD 1 default) (caps:=Xe ((GY (Kv (KF ((Tryz.f115.body).getD .skip)))).getD 0 default)) (A:=Kv ((Tryz.f115.body).getD .skip)) (c:=KF (KF ((Tryz.f115.body).getD .skip))) zx0 zx0 zx0 ⟨by kernel_rfl,by kernel_rfl,by kernel_rfl⟩ ⟨by kernel_rfl,by kernel_rfl,by kernel_rfl⟩ (θ zx0) zx0 c115a_ok c115b_ok zx0 r115_ok hl hk
def c169r:C:=.seq (.gz [⟨some 4,.mv (.s 2),none⟩,⟨some 5,.pu (.iq true) (.s 4),none⟩]) (.cond (.s 5) (.seq (.gz [⟨some 7,.mv (.s 2),none⟩,⟨some 8,.pu (.ta 239 true (.ag [.d (.int .i64 0)]) true) (.s 7),none⟩,⟨some 6,.mv (.s 8),none⟩,⟨some 9,.ex (.s 6) 0,none⟩,⟨some 10,.ex (.s 6) 1,none⟩,⟨none,.st (.s 0) (.s 9) 1,none⟩]) (.gz [⟨none,.st (.s 1) (.k (.d (.bool true))) 1,none⟩])) (.skip))
theorem c169r_ok:comp Tryz.prog Tryz.f169.ntmps (KF ((Tryz.f169.body).getD .skip))=some c169r:=zx0
theorem s169{vs:List V}{h:H}{r:Option V}{K:H->Prop}(hl:Nat.ble vs.length 11=true)(hk:wx (Sat Tryz.prog) ow h.length c169r ((2,NZ r)::(3,NZ r)::FO 0 vs) h λe _ h1=>match e with
  |.p7|.ret=>K h1
  |_=>False):Be Tryz.prog 169 vs h r K:=
 AU ow (fn:=Tryz.f169) (id:=Wp (Kv ((Tryz.f169.body).getD .skip))) (oR:=(GY (Kv ((Tryz.f169.body).getD .skip))).getD 0 default) (oA:=(GY (Kv ((Tryz.f169.body).getD .skip))).getD 1 default) (c:=KF ((Tryz.f169.body).getD .skip)) mixed zx0 zx0 zx0 ⟨by kernel_rfl,by kernel_rfl,by kernel_rfl⟩ ⟨by kernel_rfl,by kernel_rfl,by kernel_rfl⟩ ⟨θ zx0,θ zx0⟩ zx0 c169r_ok hl hk
end
section
variable{keep:Bool}{vs:List V}{h:H}{K:KT}
def c44:C:=.seq (.gz [iS 1 (.bx (.s 0)),iS 2 (.mv (.k (.d (.bool false))))]) (.seq (.zh [(iD 3 1 2,[]),(iS 4 (.cf 84 [.s 3]),[0]),(iD 5 1 2,[])] [iS 6 (.eq false true [2,2] (.s 4) (.s 5)),iM 2 6]) (.ret))
noncomputable def s44:=sf (N:=44) (n:=7) (c:=c44) (r:=[.s 2]) Tryz.f44
end
section
variable{keep:Bool}{vs:List V}{h:H}{K:KT}
end
section
variable{keep:Bool}{vs:List V}{h:H}{K:KT}
end
section
variable{keep:Bool}{vs:List V}{h:H}{K:KT}
def c14:C:=.seq (.gz [iS 5 (.bx (.s 2)),iS 6 (.mv (.k iz))]) (.seq (.seq (.gz [iM 12 1,iS 13 (.cf 43 [.s 12]),iS 14 (.un .not (.s 13)),iM 15 14,iG 16 (.fa (.s 5) 0) 15 false,iG 17 (.ld (.s 16) none) 15 false,iG 18 (.bin .lss (.s 17) (.k (.d (.int .i64 3)))) 15 false,iS 19 (.pk (.s 15) (.k (.d (.bool true))) (.s 18)),iM 20 19,iG 21 (.fa (.s 5) 0) 20 false,iG 22 (.ld (.s 21) none) 20 false,iG 23 (.bin .gtr (.s 22) (.k (.d (.int .i64 7)))) 20 false,iS 24 (.pk (.s 20) (.k (.d (.bool true))) (.s 23)),iM 25 24,iG 26 (.fa (.s 5) 1) 25 false,iG 27 (.ld (.s 26) (some 2)) 25 false,iG 28 (.cf 44 [.s 27]) 25 false,iG 29 (.un .not (.s 28)) 25 false,iS 30 (.pk (.s 25) (.k (.d (.bool true))) (.s 29))]) (.cond (.s 30) (.seq (.gz [iS 6 (.mv (.k (.d (.int .i64 1))))]) (.ret)) (.skip))) (.seq (.seq (.gz [iM 32 0,iC 33 32,iF 34 33 0,iL 35 34,iM 36 1,iS 37 (.ml (.s 35) (.s 36) [2] (.ag [iz,sz,sz,iz,iz,sz,sz,sz,.d (.bool false),.d (.bool false),.d (.bool false),iz,iz,sz,sz,sz,.nl 7,iz,.d (.int .u8 0)]) true),iM 31 37,iS 38 (.ex (.s 31) 0),iS 39 (.ex (.s 31) 1),iS 7 (.al [iz,sz,sz,iz,iz,sz,sz,sz,.d (.bool false),.d (.bool false),.d (.bool false),iz,iz,sz,sz,sz,.nl 7,iz,.d (.int .u8 0)]),iN (.st (.s 7) (.s 38) 19),iM 8 39]) (.seq (.gz [iM 40 8]) (.cond (.s 40) (.seq (.gz [iS 6 (.mv (.k (.d (.int .i64 12))))]) (.ret)) (.skip)))) (.seq (.zh [(iM 41 0,[]),(iC 42 41,[0]),(iF 43 42 0,[1,0]),(iL 44 43,[2,1,0]),(iM 45 1,[]),(iD 46 5 19,[]),(iS 47 (.cf 45 [.s 46]),[5])] [iN (.mu (.s 44) (.s 45) (.s 47) [2])]) (.seq (.zh [(iM 48 0,[]),(iC 49 48,[0]),(iF 50 49 1,[1,0]),(iL 51 50,[2,1,0]),(iF 52 5 1,[]),(iD 53 52 2,[4])] [iS 54 (.ml (.s 51) (.s 53) [9] (.nl 1) false),iM 9 54]) (.seq (.gz [iM 56 9,iM 57 1,iS 58 (.cf 46 [.s 56,.s 57,.k (.d (.fn 47))]),iM 55 58,iS 59 (.ex (.s 55) 0),iS 60 (.ex (.s 55) 1),iM 10 59,iM 11 60]) (.seq (.zh [(iM 61 0,[]),(iC 62 61,[0]),(iF 63 62 1,[1,0]),(iL 64 63,[2,1,0]),(iF 65 5 1,[]),(iD 66 65 2,[4]),(iM 67 9,[]),(iM 68 10,[]),(iM 69 1,[]),(iS 70 (.bs 1 [sz] 1 [(0,.s 69)]),[8]),(iS 71 (.cf 48 [.s 67,.s 68,.s 70]),[6,7,9,8])] [iN (.mu (.s 64) (.s 66) (.s 71) [9])]) (.seq (.gz [iS 6 (.mv (.k iz))]) (.ret))))))))
noncomputable def s14:=sf (N:=14) (n:=72) (c:=c14) (r:=[.s 6]) Tryz.f14
def c18:C:=.seq (.gz [iS 0 (.mv (.k (.d (.np))))]) (.seq (.gz [iS 1 (.mm 1),iS 2 (.mm 3),iS 3 (.bd [.d (.nm),.d (.nm)] [(0,1,.s 1),(1,1,.s 2)]),iS 4 (.bx (.s 3)),iM 0 4]) (.ret))
noncomputable def s18:=sf (N:=18) (n:=5) (c:=c18) (r:=[.s 0]) Tryz.f18
def c28:C:=.seq (.gz [iS 3 (.bx (.s 1)),iS 4 (.mv (.k (.d (.np))))]) (.seq (.zh [(iM 10 0,[]),(iC 11 10,[0]),(iF 12 11 0,[1,0]),(iL 13 12,[2,1,0]),(iS 14 (.cf 60 [.s 13]),[3,2,1,0]),(iM 15 0,[]),(iC 16 15,[5]),(iF 17 16 1,[6,5]),(iL 18 17,[7,6,5])] [iS 19 (.cf 61 [.s 18]),iS 20 (.bd [.d (.nm),.d (.nm)] [(0,1,.s 14),(1,1,.s 19)]),iS 21 (.bx (.s 20)),iM 5 21]) (.seq (.seq (.gz [iM 22 0,iC 23 22,iF 24 23 1,iL 25 24,iS 26 (.rg (.s 25))]) (.block 0 (.loop (.seq (.gz [iS 27 (.nx (.s 26)),iS 28 (.ex (.s 27) 0)]) (.seq (.cond (.s 28) (.skip) (.exit 0)) (.block 1 (.seq (.gz [iS 29 (.en (.s 26)),iS 30 (.ex (.s 29) 0),iS 31 (.ex (.s 29) 1),iS 6 (.al [sz,sz]),iN (.st (.s 6) (.s 30) 2),iM 7 31]) (.seq (.seq (.gz [iD 32 6 2,iD 33 3 2,iS 34 (.cf 13 [.s 32,.s 33])]) (.cond (.s 34) (.seq (.zh [(iM 35 5,[]),(iC 36 35,[0]),(iF 37 36 1,[1,0]),(iL 38 37,[2,1,0]),(iD 39 6 2,[]),(iM 40 7,[]),(iS 41 (.cf 62 [.s 40]),[5])] [iN (.mu (.s 38) (.s 39) (.s 41) [9])]) (.exit 1)) (.skip))) (.seq (.seq (.gz [iM 42 7,iS 43 (.ln (.s 42)),iS 44 (.mv (.k iz))]) (.block 2 (.loop (.seq (.gz [iS 45 (.bin .lss (.s 44) (.s 43))]) (.seq (.cond (.s 45) (.skip) (.exit 2)) (.seq (.block 3 (.seq (.gz [iS 46 (.ia (.s 42) (.s 44) 1),iL 47 46,iM 9 47]) (.gz [iM 48 5,iC 49 48,iF 50 49 0,iL 51 50,iM 52 9,iN (.md (.s 51) (.s 52) [2])]))) (.gz [iS 53 (.bin .add (.s 44) (.k (.d (.int .i64 1)))),iM 44 53]))))))) (.zh [(iM 54 5,[]),(iC 55 54,[0]),(iF 56 55 1,[1,0]),(iL 57 56,[2,1,0]),(iD 58 6 2,[])] [iN (.md (.s 57) (.s 58) [9])])))))))))) (.seq (.gz [iM 59 5,iM 4 59]) (.ret))))
noncomputable def s28:=sf (N:=28) (n:=60) (c:=c28) (r:=[.s 4]) Tryz.f28
def c111:C:=.seq (.gz [iS 5 (.bx (.s 2)),iS 6 (.mv (.k iz))]) (.seq (.gz [iM 10 0,iC 11 10,iF 12 11 0,iL 13 12,iM 14 1,iS 15 (.ml (.s 13) (.s 14) [2] (.ag [iz,sz,sz,iz,iz,sz,sz,sz,.d (.bool false),.d (.bool false),.d (.bool false),iz,iz,sz,sz,sz,.nl 7,iz,.d (.int .u8 0)]) true),iM 9 15,iS 16 (.ex (.s 9) 0),iS 17 (.ex (.s 9) 1),iS 7 (.al [iz,sz,sz,iz,iz,sz,sz,sz,.d (.bool false),.d (.bool false),.d (.bool false),iz,iz,sz,sz,sz,.nl 7,iz,.d (.int .u8 0)]),iN (.st (.s 7) (.s 16) 19),iM 8 17]) (.seq (.seq (.gz [iM 18 8,iS 19 (.un .not (.s 18))]) (.cond (.s 19) (.seq (.gz [iS 6 (.mv (.k (.d (.int .i64 10))))]) (.ret)) (.skip))) (.seq (.seq (.gz [iF 20 7 0,iL 21 20,iF 22 5 0,iL 23 22,iS 24 (.bin .neq (.s 21) (.s 23)),iM 25 24,iG 26 (.fa (.s 7) 1) 25 false,iG 27 (.ld (.s 26) (some 2)) 25 false,iG 28 (.fa (.s 5) 1) 25 false,iG 29 (.ld (.s 28) (some 2)) 25 false,iG 30 (.eq true true [2,2] (.s 27) (.s 29)) 25 false,iS 31 (.pk (.s 25) (.k (.d (.bool true))) (.s 30))]) (.cond (.s 31) (.seq (.gz [iS 6 (.mv (.k (.d (.int .i64 11))))]) (.ret)) (.skip))) (.seq (.zh [(iM 32 0,[]),(iC 33 32,[0]),(iF 34 33 0,[1,0]),(iL 35 34,[2,1,0]),(iM 36 1,[]),(iD 37 5 19,[]),(iS 38 (.cf 45 [.s 37]),[5])] [iN (.mu (.s 35) (.s 36) (.s 38) [2])]) (.seq (.gz [iS 6 (.mv (.k iz))]) (.ret))))))
noncomputable def s111:=sf (N:=111) (n:=39) (c:=c111) (r:=[.s 6]) Tryz.f111
end
section
variable{keep:Bool}{vs:List V}{h:H}{K:KT}
def c243:C:=.seq (.gz [iS 3 (.bx (.s 1)),iS 4 (.al [iz,sz,sz,iz,iz,sz,sz,sz,.d (.bool false),.d (.bool false),.d (.bool false),iz,iz,sz,sz,sz,.nl 7,iz,.d (.int .u8 0)]),iS 5 (.mv (.k (.d (.bool false))))]) (.seq (.zh [(iM 9 0,[]),(iC 10 9,[0]),(iF 11 10 2,[1,0]),(iL 12 11,[2,1,0]),(iF 13 3 2,[]),(iL 14 13,[4]),(iS 15 (.cf 16 [.s 12,.s 14]),[3,5,2,1,0,4]),(iM 8 15,[6,3,5,2,1,0,4]),(iS 16 (.ex (.s 8) 0),[7,6,3,5,2,1,0,4]),(iS 17 (.ex (.s 8) 1),[7,6,3,5,2,1,0,4]),(iS 6 (.al [iz,sz,sz,iz,iz,sz,sz,sz,.d (.bool false),.d (.bool false),.d (.bool false),iz,iz,sz,sz,sz,.nl 7,iz,.d (.int .u8 0)]),[]),(iN (.st (.s 6) (.s 16) 19),[8,10,7,6,3,5,2,1,0,4])] [iM 7 17]) (.seq (.seq (.gz [iM 18 7,iS 19 (.un .not (.s 18)),iM 20 19,iG 21 (.fa (.s 6) 0) 20 false,iG 22 (.ld (.s 21) none) 20 false,iG 23 (.fa (.s 3) 0) 20 false,iG 24 (.ld (.s 23) none) 20 false,iG 25 (.bin .neq (.s 22) (.s 24)) 20 false,iS 26 (.pk (.s 20) (.k (.d (.bool true))) (.s 25)),iM 27 26,iG 28 (.fa (.s 6) 1) 27 false,iG 29 (.ld (.s 28) (some 2)) 27 false,iG 30 (.fa (.s 3) 3) 27 false,iG 31 (.ld (.s 30) (some 2)) 27 false,iG 32 (.eq true true [2,2] (.s 29) (.s 31)) 27 false,iS 33 (.pk (.s 27) (.k (.d (.bool true))) (.s 32))]) (.cond (.s 33) (.seq (.gz [iS 34 (.bd [iz,sz,sz,iz,iz,sz,sz,sz,.d (.bool false),.d (.bool false),.d (.bool false),iz,iz,sz,sz,sz,.nl 7,iz,.d (.int .u8 0)] []),iN (.st (.s 4) (.s 34) 19),iS 5 (.mv (.k (.d (.bool false))))]) (.ret)) (.skip))) (.seq (.gz [iD 35 6 19,iN (.st (.s 4) (.s 35) 19),iS 5 (.mv (.k (.d (.bool true))))]) (.ret))))
noncomputable def s243:=sf (N:=243) (n:=36) (c:=c243) (r:=[.c 4 (some 19),.s 5]) Tryz.f243
end
section
variable{keep:Bool}{vs:List V}{h:H}{K:KT}
end
section
variable{keep:Bool}{vs:List V}{h:H}{K:KT}
def r4:List RV:=[.s 8]
def c119:C:=.seq (.gz [iS 1 (.bx (.s 0)),iS 2 (.mv (.k (.d (.bool false))))]) (.seq (.zh [(iD 3 1 2,[]),(iS 4 (.cf 191 [.s 3]),[0]),(iD 5 1 2,[])] [iS 6 (.eq false true [2,2] (.s 4) (.s 5)),iM 2 6]) (.ret))
noncomputable def s119:=sf (N:=119) (n:=7) (c:=c119) (r:=[.s 2]) Tryz.f119
end
open Go.RowKit Go.Shelf
attribute [local go_sem] Oper.semAt_some
theorem PN{k n:Nat}(hm:n<=9223372036854775807)(h:k<n):wrap64 ((k:Int)+1)=k+1:=by unfold wrap64;omega
def Cq(s:List UInt8):List (List D):=s.map λb=>[D.int .u8 b.toNat]
set_option maxHeartbeats 2000000 in
theorem B2(F:Fence)(n:Nat)(hf:F.fn 134)(hro:F.round=none)(hn:1<=n)(s:List UInt8)(hm:s.length<=9223372036854775807)(l b:Nat)(J:Nat->World->Prop)(Jx:World->Prop)(hcell:∀i W,J i W->W.cell? ⟨b,0,none⟩=some (.string ⟨s.toArray⟩))
    (hY:∀(i:Nat)(x:UInt8)(W1:World),s[i]?=some x->J i W1->YieldAt F (n-1) Tryz.prog l #[.int .u8 x.toNat] W1 λe W2=>(e=.returned (.bool true)/\J (i+1) W2)\/(e=.returned (.bool false)/\Jx W2))
    (W:World) (h0:J 0 W):CallsIn F n Tryz.prog 134 #[.func (.yield l) #[] #[],.pointer (some ⟨b,0,none⟩)] W λe W'=>(∃v,e=.returned v)/\(J s.length W'\/Jx W'):=by
  have hc:=hcell 0 W h0
  refine callsIn_of_wp Tryz.func134 rfl hf ?_ hro
  simp only[Tryz.ntmps134,eX,aX,ah,Nat.reduceAdd,Nat.reduceSub,Array.replicate_succ,Array.replicate_zero,List.push_toArray,List.append_toArray,List.nil_append,List.cons_append]
  gi_wp2
  gi_loopw [6] (λp wr=>∃k:Nat,k<=s.length/\p=.int .i64 k/\J k wr) (λp _=>s.length-(intOf p).toNat)
  case atStart=>exact⟨0,ae _,rfl,h0⟩
  case round=>
    obtain⟨k,hk,rfl,hJs⟩:=hrel
    have hcx:=hcell k wr hJs
    by_cases hlt:k<s.length
    · obtain⟨fn,tmps,assign,body,hy,hR⟩:=hY k s[k] wr (by simp[hlt]) hJs
      have hkl:k<(ByteArray.mk s.toArray).size:=by simpa[ByteArray.size]using hlt
      rw[show s[k]=(ByteArray.mk s.toArray)[k]from rfl]at hy
      gi_wp2
      refine hR.mono ?_
      rintro e W3 (⟨rfl,hJ3⟩|⟨rfl,hJx3⟩)
      · have hw:=PN hm hlt
        gi_wp2
        go_roundw
        case rel=>exact⟨k+1,by omega,by simp,hJ3⟩
        case measure=>simp[intOf];omega
      · gi_wp2
        refine bodyPost_ret (results_none rfl _ _ _) rfl ?_
        exact⟨⟨_,rfl⟩,.inr hJx3⟩
    · obtain rfl:k=s.length:=by omega
      gi_wp2
      go_end0
      exact⟨⟨_,rfl⟩,.inl hJs⟩
theorem sI(s:List UInt8):zZ Tryz.prog 134 [.p 0 0] [.cells [.d (.str s)]] (Cq s):=by
 refine⟨by kernel_rfl,?_⟩;intro ρ cv l J Jx hlen hJ hJx hrep hY W h0;obtain⟨a0,rfl⟩:=eD.1 (show cv.length=1 from hlen);have hcell:∀i W,J i W->∃b,a0=.pointer (some ⟨b,0,none⟩)/\W.cell? ⟨b,0,none⟩=some (.string ⟨s.toArray⟩)/\s.length<=maxLen:=by
  intro i W hj;obtain⟨G,hR,hv⟩:=hrep i W hj;obtain⟨b,e1,hρ⟩:=(hv 0 (.p 0 0) rfl).pt;obtain⟨b',arr,ty,e2,h1,h2,h3⟩:=hR.rep 0 _ _ hρ rfl;cases e2;have h4:=h3 0 (.d (.str s)) rfl;have hlt:0<arr.size:=by rw[h2];simp
  have e5:arr.getD 0 undef=arr[0]:=by rw[aF,aN hlt];rfl
  rw[e5]at h4;refine⟨b,e1,?_⟩;rw[dC h1,aN hlt];generalize arr[0]=u at h4;generalize hs:D.str s=ds at h4;cases h4 with
  |k h=>cases h with
   |d h=>cases h with
    |str sv hm=>
     cases hs;exact⟨rfl,hm⟩
    |_=>cases hs
 obtain⟨b,rfl,hc,hm⟩:=hcell 0 W h0;have hcell':∀i W,J i W->W.cell? ⟨b,0,none⟩=some (.string ⟨s.toArray⟩):=λi W hj=>by
  obtain⟨b',e,h1,_⟩:=hcell i W hj;cases e;exact h1
 have h1:=B2 (Fw none) 1 trivial rfl (aM _) s hm l b J Jx hcell' (λi x W1 hx hj=>hY i [D.int .u8 x.toNat] W1 (by simp[Cq,hx]) hj) W h0;rw[show(Cq s).length=s.length by simp[Cq]];exact uJ (tg h1)
end Go.Proofs.YtjpgfgajkjhonaaGreatDoor