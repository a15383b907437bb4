/- Lemmas. Conditions: none. -/
import Derived.Shelf.Strconv.ParseIntPublic10
import Derived.Shelf.Strconv.Itoa4
import Derived.Test.YtjpgfgajkjhonaaGreatDoorQRAT
set_option maxHeartbeats 4000000
namespace Go.Proofs.YtjpgfgajkjhonaaGreatDoor
open Go.RowKit Go.Shelf Go.Proofs
def QF:Go.Shelf.Ren:=⟨λ|174=>138|247=>208|245=>209|287=>268|279=>269|280=>270|281=>271|282=>272|321=>299|322=>300|316=>301|171=>303|205=>302|243=>328|246=>273|283=>304|284=>305|285=>306|286=>307|129=>207|317=>329|318=>330|319=>331|320=>332|337=>336|338=>337|n=>n,λ|9=>9|3=>3|2=>2|75=>262|85=>263|4=>4|167=>339|5=>5|53=>193|175=>340|46=>198|168=>342|37=>188|0=>0|210=>371|21=>21|127=>391|145=>394|143=>392|171=>374|173=>376|212=>396|51=>293|20=>20|213=>397|232=>407|233=>408|80=>324|n=>n,λ|15=>2|16=>3|17=>6|18=>7|19=>8|n=>n⟩
theorem parse:LaysC.n174 Tryz.prog QF where
 mixed:=zx0
 f129:=Tryz.func207.trans (κ some zx0)
 f171:=Tryz.func303.trans (κ some zx0)
 f174:=Tryz.func138.trans (κ some zx0)
 f205:=Tryz.func302.trans (κ some zx0)
 f243:=Tryz.func328.trans (κ some zx0)
 f245:=Tryz.func209.trans (κ some zx0)
 f246:=Tryz.func273.trans (κ some zx0)
 f247:=Tryz.func208.trans (κ some zx0)
 f279:=Tryz.func269.trans (κ some zx0)
 f280:=Tryz.func270.trans (κ some zx0)
 f281:=Tryz.func271.trans (κ some zx0)
 f282:=Tryz.func272.trans (κ some zx0)
 f283:=Tryz.func304.trans (κ some zx0)
 f284:=Tryz.func305.trans (κ some zx0)
 f285:=Tryz.func306.trans (κ some zx0)
 f286:=Tryz.func307.trans (κ some zx0)
 f287:=Tryz.func268.trans (κ some zx0)
 f316:=Tryz.func301.trans (κ some zx0)
 f317:=Tryz.func329.trans (κ some zx0)
 f318:=Tryz.func330.trans (κ some zx0)
 f319:=Tryz.func331.trans (κ some zx0)
 f320:=Tryz.func332.trans (κ some zx0)
 f321:=Tryz.func299.trans (κ some zx0)
 f322:=Tryz.func300.trans (κ some zx0)
 f337:=Tryz.func336.trans (κ some zx0)
 f338:=Tryz.func337.trans (κ some zx0)
 t0:=Tryz.underlying0
 a0:=Tryz.isAgg0
 z0:=Tryz.sizeOf0
 v0:=Tryz.zeroValue0
 t2:=Tryz.underlying2
 a2:=Tryz.isAgg2
 z2:=Tryz.sizeOf2
 v2:=Tryz.zeroValue2
 t3:=Tryz.underlying3
 a3:=Tryz.isAgg3
 z3:=Tryz.sizeOf3
 v3:=Tryz.zeroValue3
 t4:=Tryz.underlying4
 a4:=Tryz.isAgg4
 z4:=Tryz.sizeOf4
 v4:=Tryz.zeroValue4
 t5:=Tryz.underlying5
 a5:=Tryz.isAgg5
 z5:=Tryz.sizeOf5
 v5:=Tryz.zeroValue5
 t9:=Tryz.underlying9
 a9:=Tryz.isAgg9
 z9:=Tryz.sizeOf9
 v9:=Tryz.zeroValue9
 t20:=Tryz.underlying20
 a20:=Tryz.isAgg20
 z20:=Tryz.sizeOf20
 v20:=Tryz.zeroValue20
 t21:=Tryz.underlying21
 a21:=Tryz.isAgg21
 z21:=Tryz.sizeOf21
 v21:=Tryz.zeroValue21
 t37:=Tryz.underlying188
 a37:=Tryz.isAgg188
 z37:=Tryz.sizeOf188
 v37:=Tryz.zeroValue188
 t46:=Tryz.underlying198
 a46:=Tryz.isAgg198
 z46:=Tryz.sizeOf198
 v46:=Tryz.zeroValue198
 t51:=Tryz.underlying293
 a51:=Tryz.isAgg293
 z51:=Tryz.sizeOf293
 v51:=Tryz.zeroValue293
 t53:=Tryz.underlying193
 a53:=Tryz.isAgg193
 z53:=Tryz.sizeOf193
 v53:=Tryz.zeroValue193
 t75:=Tryz.underlying262
 a75:=Tryz.isAgg262
 z75:=Tryz.sizeOf262
 v75:=Tryz.zeroValue262
 t85:=Tryz.underlying263
 a85:=Tryz.isAgg263
 z85:=Tryz.sizeOf263
 v85:=Tryz.zeroValue263
 t127:=Tryz.underlying391
 a127:=Tryz.isAgg391
 z127:=Tryz.sizeOf391
 v127:=Tryz.zeroValue391
 t143:=Tryz.underlying392
 a143:=Tryz.isAgg392
 z143:=Tryz.sizeOf392
 v143:=Tryz.zeroValue392
 t145:=Tryz.underlying394
 a145:=Tryz.isAgg394
 z145:=Tryz.sizeOf394
 v145:=Tryz.zeroValue394
 t167:=Tryz.underlying339
 a167:=Tryz.isAgg339
 z167:=Tryz.sizeOf339
 v167:=Tryz.zeroValue339
 t168:=Tryz.underlying342
 a168:=Tryz.isAgg342
 z168:=Tryz.sizeOf342
 v168:=Tryz.zeroValue342
 t171:=Tryz.underlying374
 a171:=Tryz.isAgg374
 z171:=Tryz.sizeOf374
 v171:=Tryz.zeroValue374
 t173:=Tryz.underlying376
 a173:=Tryz.isAgg376
 z173:=Tryz.sizeOf376
 v173:=Tryz.zeroValue376
 t175:=Tryz.underlying340
 a175:=Tryz.isAgg340
 z175:=Tryz.sizeOf340
 v175:=Tryz.zeroValue340
 t210:=Tryz.underlying371
 a210:=Tryz.isAgg371
 z210:=Tryz.sizeOf371
 v210:=Tryz.zeroValue371
 t212:=Tryz.underlying396
 a212:=Tryz.isAgg396
 z212:=Tryz.sizeOf396
 v212:=Tryz.zeroValue396
 t213:=Tryz.underlying397
 a213:=Tryz.isAgg397
 z213:=Tryz.sizeOf397
 t232:=Tryz.underlying407
 a232:=Tryz.isAgg407
 z232:=Tryz.sizeOf407
 v232:=Tryz.zeroValue407
 t233:=Tryz.underlying408
 a233:=Tryz.isAgg408
 z233:=Tryz.sizeOf408
 v233:=Tryz.zeroValue408
 g15:=zx0
 g16:=zx0
 g17:=zx0
 g18:=zx0
 g19:=zx0
 t80:=Tryz.underlying324
 a80:=Tryz.isAgg324
 z80:=Tryz.sizeOf324
 v80:=Tryz.zeroValue324
 i0:=zx0
 i2:=zx0
 i3:=zx0
 i4:=zx0
 i5:=zx0
 i9:=zx0
 i20:=zx0
 i21:=zx0
 i37:=zx0
 i46:=zx0
 i51:=zx0
 i53:=zx0
 i75:=zx0
 i80:=zx0
 i85:=zx0
 i127:=zx0
 i143:=zx0
 i145:=zx0
 i167:=zx0
 i168:=zx0
 i171:=zx0
 i173:=zx0
 i175:=zx0
 i210:=zx0
 i212:=zx0
 i232:=zx0
 i233:=zx0
 m15:=zx0
 m16:=zx0
 m17:=zx0
 m18:=zx0
 m19:=zx0
 c0:=zx0
 c2:=zx0
 c3:=zx0
 c4:=zx0
 c5:=zx0
 c9:=zx0
 c20:=zx0
 c21:=zx0
 c37:=zx0
 c46:=zx0
 c51:=zx0
 c53:=zx0
 c75:=zx0
 c80:=zx0
 c85:=zx0
 c127:=zx0
 c143:=zx0
 c145:=zx0
 c167:=zx0
 c168:=zx0
 c171:=zx0
 c173:=zx0
 c175:=zx0
 c210:=zx0
 c212:=zx0
 c213:=zx0
 c232:=zx0
 c233:=zx0
def MQ:Go.Shelf.Ren:=⟨λ|173=>210|246=>273|283=>304|284=>305|285=>306|286=>307|129=>207|317=>329|318=>330|319=>331|320=>332|337=>336|338=>337|n=>n,λ|2=>2|3=>3|9=>9|4=>4|171=>374|0=>0|53=>193|37=>188|5=>5|173=>376|212=>396|51=>293|20=>20|213=>397|46=>198|232=>407|233=>408|n=>n,λ|17=>6|18=>7|19=>8|n=>n⟩
theorem format:Lays.n173 Tryz.prog MQ where
 mixed:=zx0
 f129:=Tryz.func207.trans (κ some zx0)
 f173:=Tryz.func210.trans (κ some zx0)
 f246:=Tryz.func273.trans (κ some zx0)
 f283:=Tryz.func304.trans (κ some zx0)
 f284:=Tryz.func305.trans (κ some zx0)
 f285:=Tryz.func306.trans (κ some zx0)
 f286:=Tryz.func307.trans (κ some zx0)
 f317:=Tryz.func329.trans (κ some zx0)
 f318:=Tryz.func330.trans (κ some zx0)
 f319:=Tryz.func331.trans (κ some zx0)
 f320:=Tryz.func332.trans (κ some zx0)
 f337:=Tryz.func336.trans (κ some zx0)
 f338:=Tryz.func337.trans (κ some zx0)
 t0:=Tryz.underlying0
 a0:=Tryz.isAgg0
 z0:=Tryz.sizeOf0
 v0:=Tryz.zeroValue0
 t2:=Tryz.underlying2
 a2:=Tryz.isAgg2
 z2:=Tryz.sizeOf2
 v2:=Tryz.zeroValue2
 t3:=Tryz.underlying3
 a3:=Tryz.isAgg3
 z3:=Tryz.sizeOf3
 v3:=Tryz.zeroValue3
 t4:=Tryz.underlying4
 a4:=Tryz.isAgg4
 z4:=Tryz.sizeOf4
 v4:=Tryz.zeroValue4
 t5:=Tryz.underlying5
 a5:=Tryz.isAgg5
 z5:=Tryz.sizeOf5
 v5:=Tryz.zeroValue5
 t9:=Tryz.underlying9
 a9:=Tryz.isAgg9
 z9:=Tryz.sizeOf9
 v9:=Tryz.zeroValue9
 t20:=Tryz.underlying20
 a20:=Tryz.isAgg20
 z20:=Tryz.sizeOf20
 v20:=Tryz.zeroValue20
 t37:=Tryz.underlying188
 a37:=Tryz.isAgg188
 z37:=Tryz.sizeOf188
 v37:=Tryz.zeroValue188
 t46:=Tryz.underlying198
 a46:=Tryz.isAgg198
 z46:=Tryz.sizeOf198
 v46:=Tryz.zeroValue198
 t51:=Tryz.underlying293
 a51:=Tryz.isAgg293
 z51:=Tryz.sizeOf293
 v51:=Tryz.zeroValue293
 t53:=Tryz.underlying193
 a53:=Tryz.isAgg193
 z53:=Tryz.sizeOf193
 v53:=Tryz.zeroValue193
 t171:=Tryz.underlying374
 a171:=Tryz.isAgg374
 z171:=Tryz.sizeOf374
 v171:=Tryz.zeroValue374
 t173:=Tryz.underlying376
 a173:=Tryz.isAgg376
 z173:=Tryz.sizeOf376
 v173:=Tryz.zeroValue376
 t212:=Tryz.underlying396
 a212:=Tryz.isAgg396
 z212:=Tryz.sizeOf396
 v212:=Tryz.zeroValue396
 t213:=Tryz.underlying397
 a213:=Tryz.isAgg397
 z213:=Tryz.sizeOf397
 t232:=Tryz.underlying407
 a232:=Tryz.isAgg407
 z232:=Tryz.sizeOf407
 v232:=Tryz.zeroValue407
 t233:=Tryz.underlying408
 a233:=Tryz.isAgg408
 z233:=Tryz.sizeOf408
 v233:=Tryz.zeroValue408
 g17:=zx0
 g18:=zx0
 g19:=zx0
open Go.Vx
set_option maxRecDepth 100000
theorem wP{f:Nat}{vs:List V}{r:V}(hok:eo Tryz.prog f=true)
  (h:∀(G:Nat->Prop)(w:World)(xs:List Value),xs.length=vs.length->(∀(i:Nat)(x:V),vs[i]?=some x->au G w [] (xs.getD i undef) x)->Calls Tryz.prog f xs.toArray w λe w'=>(∃v,e=.returned v/\au G w' [] v r)/\gK w w') :
  Z1 f vs [] λout h=>out=.ret r/\h=[]:=by
 refine .inl ⟨hok,λG w ρ xs hR hl hv=>?_⟩
 match ρ,hR.len with
 |[],_=>
 refine Calls.mono (h G w xs hl hv) ?_
 rintro e w' ⟨⟨v,rfl,h1⟩,h2⟩
 exact⟨G,[],[],.ret r,(Ok.refl hR).grow h2 (λ_ h=>h) (λ_ h=>.inl h),⟨v,rfl,h1⟩,rfl,rfl⟩
theorem au.Wy{G:Nat->Prop}{w:World}{ρ:List Value}{v:Value}{x:D}(h:bp G w v x):au G w ρ v (.d x):=.o (.c (.k (.d h)))
theorem E8(w:World)(e:TypeId)(s:ByteArray):gK w (Lib.bytesWorld w e s):=by
 have h1:gK w (w.drew.alloc (.cells (Lib.bytesCells w e s) e)):=(gK.drew w).trans (gK.alloc _ _);unfold Lib.bytesWorld World.freeze;split
 .exact h1
 .refine⟨?_,λk hk=>?_,h1.os,h1.tape,h1.out⟩
  .exact aV h1.size (by simp)
  .rw[<-h1.iE k hk];simp only[Array.getElem?_modify];rw[η (by omega)]
theorem Hc(s:List UInt8)(c:UInt8):Z0 213 [.d (.str s),.d (.str [c])] (.d (.int .i64 (Lib.indexByte s c))):=by
 refine wP zx0 λG w xs hl hv=>?_
 match xs,hl with
 |[a0,a1],_=>
 obtain⟨t,e0,rfl,_⟩:=(hv 0 _ rfl).str;obtain⟨u,e1,h1,_⟩:=(hv 1 _ rfl).str;obtain rfl:a0=_:=e0;obtain rfl:a1=_:=e1;obtain rfl:u=⟨#[c]⟩:=by
  cases u with|mk d=>cases d with|mk l=>cases h1;rfl
 refine Calls.mono (Any.strings_Index_one index t c w) ?_
 rintro e w' ⟨rfl,rfl⟩
 exact⟨⟨_,rfl,au.Wy (.int _ _)⟩,gK.refl _⟩
theorem QE(s:List UInt8)(hs:s.length<=1000)(v:Int)(h:Lib.parseIntB 64 s=.ok v):Z0 138 [.d (.str s),.d (.int .i64 10),.d (.int .i64 64)] (.tu [.d (.int .i64 v),.d .ni]):=by
 refine wP zx0 λG w xs hl hv=>?_
 match xs,hl with
 |[a0,a1,a2],_=>
 obtain⟨t,e0,rfl,_⟩:=(hv 0 _ rfl).str;obtain rfl:a0=_:=e0;obtain rfl:a1=.int .i64 10:=(hv 1 _ rfl).int;obtain rfl:a2=.int .i64 64:=(hv 2 _ rfl).int;have ht:t.size<=1000:=by simpa using hs
 refine Calls.mono (Any.strconv_ParseInt_10_at64_ok parse t (by omega) v h w) ?_
 rintro e w' ⟨rfl,hw⟩
 refine⟨⟨_,rfl,.tu _ _ rfl λi x hx=>?_⟩,?_⟩
 .match i,hx with
  |0,hx=>cases hx;exact .c (.k (.d (.int _ _)))
  |1,hx=>cases hx;exact .c (.k (.d .ni))
 .rcases hw with rfl|⟨t,rfl⟩
  .exact gK.refl _
  .exact E8 _ _ _
theorem fe{i:Nat}(hi:i<100):(Lib.decDigits i).length<=2:=by
 rw[Lib.decDigits];split
 .simp
 .rw[aK,Lib.decDigits,dif_pos (by omega)];simp
theorem MP(i:Nat)(hi:i<100):Z0 210 [.d (.int .i64 i),.d (.int .i64 10)] (.d (.str (Lib.decDigits i))):=by
 refine wP zx0 λG w xs hl hv=>?_
 match xs,hl with
 |[a0,a1],_=>
 obtain rfl:a0=.int .i64 i:=(hv 0 _ rfl).int;obtain rfl:a1=.int .i64 10:=(hv 1 _ rfl).int;refine Calls.mono (Any.strconv_FormatInt_10_small format i hi w) ?_
 rintro e w' ⟨rfl,rfl⟩
 have:=fe hi;refine⟨⟨_,rfl,au.Wy ?_⟩,gK.refl _⟩;exact .str ⟨(Lib.decDigits i).toArray⟩ (by show(Lib.decDigits i).toArray.size<=maxLen;simp[maxLen]<;>omega)
theorem hid{p:Prop}(h:p):Hid p:=h
def pN(l:List Nat):List UInt8:=l.flatMap λn=>46::Lib.decDigits n
def bm:List Nat->List UInt8
 |[]=>[]
 |n::r=>Lib.decDigits n++pN r
theorem F7{l:List Nat}(n:Nat)(h:l≠[]):bm (l++[n])=bm l++46::Lib.decDigits n:=by
 match l,h with
 |m::r,_=>simp[bm,pN,List.flatMap_append]
theorem F8{l:List Nat}(h:∀n∈l,n<100):(pN l).length<=3*l.length:=by
 induction l with
 |nil=>simp[pN]
 |cons n r ih=>
  have h1:=fe (h n (by simp));have h2:=ih λx hx=>h x (by simp[hx]);simp only[pN,o4,aK,aX]at h2⊢;omega
theorem kP{l:List Nat}(h:∀n∈l,n<100):(bm l).length<=3*l.length:=by
 match l,h with
 |[],_=>simp[bm]
 |n::r,h=>
  have h1:=fe (h n (by simp));have h2:=F8 (l:=r) λx hx=>h x (by simp[hx]);simp only[bm,aK,aX];omega
theorem bX(R:Ren)(h72:R.t 72=dw.t 72)(h5:R.t 5=dw.t 5):Builder.Extra Tryz.prog R where
 sizeBuilder:=by rw[h72];kernel_rfl
 liesBuilder:=by rw[h72];kernel_rfl
 t5:=by rw[h5];exact Tryz.underlying5
 a5:=by rw[h5];exact Tryz.isAgg5
 z5:=by rw[h5];exact Tryz.sizeOf5
 v5:=by rw[h5];exact Tryz.zeroValue5
 infoByte:=by rw[h5];kernel_rfl
 cellsByte:=by rw[h5];kernel_rfl
 sizeByte:=by rw[h5];kernel_rfl
 neB5:=by rw[h72,h5];decide
theorem NO(i:Nat)(hi:i<100)(w:World):Calls Tryz.prog 139 #[.int .i64 i] w λe w'=>e=.returned (.string ⟨(Lib.decDigits i).toArray⟩)/\w'=w:=by
 go_enter Tryz.func139,Tryz.ntmps139
 go_wp2_with fail
 refine(Any.strconv_FormatInt_10_small format i hi _).mono ?_
 rintro e w' ⟨rfl,rfl⟩
 go_wp2
 go_ret
 exact⟨rfl,rfl⟩
theorem xW(l:List UInt8):(⟨l.toArray⟩:ByteArray).size=l.length:=by simp[ByteArray.size]
set_option maxRecDepth 100000 in
theorem Tu(l:List Nat)(h0:l≠[])(h24:l.length<=24)(hs:∀n∈l,n<100)(bk o c:Nat)(w:World)
    (hcells:∀(j:Nat)(n:Nat),l[j]?=some n->w.cell? ⟨bk,o+j,none⟩=some (.int .i64 n)) (hbk:bk<w.heap.size) :
    Calls Tryz.prog 335 #[.slice (some ⟨bk,o,none⟩) l.length c] w λe w'=>e=.returned (.tuple #[.string ⟨(bm l).toArray⟩,.bool true])/\Below w.heap.size w w':=by
  have hl0:0<l.length:=iv.2 h0
  have HC:=hid hcells
  have HS:=hid hs
  have X1:=bX dw rfl rfl
  have X2:=bX sN rfl rfl
  have X3:=bX zK rfl rfl
  clear hcells hs
  go_enter Tryz.func335,Tryz.ntmps335
  go_wp2_with fail
  go_loopw [17] (λi wr=>∃k:Nat,k<=l.length/\i=.int .i64 k/\Hid (Lib.IsBuilder (dw.t 72) (dw.t 5) w.heap.size w.heap.size (Lib.byteCells (bm (l.take k))) wr)/\Hid (Below w.heap.size w wr)) (λi _=>l.length-(intOf i).toNat)
  case atStart=>
    refine⟨0,ae _,rfl,.inl ⟨aM _,.slice none 0 0,heap_alloc_new w _,World.ownsRow_nil _ _ _ _,by simp[Value.ownBlock]⟩,(Below.refl w.heap.size w).alloc (aM _) _⟩
  case round=>
    obtain⟨k,hk,rfl,HB,HW⟩:=hrel
    have hBw:w.heap.size<=wr.heap.size:=HW.out.size
    by_cases hkn:k<l.length
    · obtain⟨n,hn⟩:∃n,l[k]?=some n:=⟨l[k],aA hkn⟩
      have hc:wr.cell? ⟨bk,o+k,none⟩=some (.int .i64 n):=by
        rw[HW.out.cell (p:=⟨bk,o+k,none⟩) hbk]
        exact HC.out k n hn
      have hn1:=HS.out n (aJ hn)
      have hd:=fe hn1
      have htk:l.take (k+1)=l.take k++[n]:=by rw[bc,hn];rfl
      have hlen:(bm (l.take k)).length<=72:=by
        have:=kP (l:=l.take k) λx hx=>HS.out x (dq hx)
        rw[bC]at this
        omega
      have Hd:=hid hd
      have Htk:=hid htk
      have Hlen:=hid hlen
      clear hd htk hlen hn
      by_cases hk0:k=0
      · subst hk0
        rw[eQ]at hc
        have hnext:Lib.byteCells (bm (l.take 0))++Lib.strCells ⟨(Lib.decDigits n).toArray⟩=Lib.byteCells (bm (l.take (0+1))):=by
          rw[Htk.out,Lib.strCells_eq,<-Lib.byteCells_append]
          simp[bm,pN]
        have Hn:=hid hnext
        clear hnext
        go_wp2_with fail
        refine(NO n hn1 wr).mono ?_
        rintro e w1 ⟨rfl,rfl⟩
        go_wp2_with fail
        refine(Any.Builder_WriteString writeString X1 w.heap.size w.heap.size _ _ w1 HB.out (by rw[Lib.byteCells_length,xW];have:=Hlen.out;have:=Hd.out;omega) hBw).mono ?_
        rintro e w2 ⟨rfl,h2,hb2⟩
        rw[Hn.out]at h2
        have H2:=hid (Or.inr h2:Lib.IsBuilder (dw.t 72) (dw.t 5) w.heap.size w.heap.size _ w2)
        have Hb2:=hid (HW.out.trans hb2)
        clear h2 hb2
        go_wp2
        exact⟨⟨0+1,by omega,by go_num,H2,Hb2⟩,by simp[intOf];omega⟩
      · have hnext:(Lib.byteCells (bm (l.take k))++[.int .u8 46])++Lib.strCells ⟨(Lib.decDigits n).toArray⟩=Lib.byteCells (bm (l.take (k+1))):=by
          rw[Htk.out,F7 _ (λh=>(List.take_eq_nil_iff.1 h).elim hk0 h0),Lib.strCells_eq,Lib.byteCells_append]
          simp[Lib.byteCells]
        have Hn:=hid hnext
        clear hnext
        have hk1:(1:Int)<=k:=by omega
        go_wp2_with fail
        refine(Any.Builder_WriteByte D3 X2 w.heap.size w.heap.size _ 46 wr HB.out (by rw[Lib.byteCells_length];have:=Hlen.out;omega) hBw).mono ?_
        rintro e w1 ⟨rfl,h1,hb1⟩
        have hBw1:w.heap.size<=w1.heap.size:=aV hBw hb1.size
        have H1:=hid h1
        have Hb1:=hid hb1
        clear h1 hb1
        go_wp2_with fail
        refine(NO n hn1 w1).mono ?_
        rintro e w1 ⟨rfl,rfl⟩
        go_wp2_with fail
        refine(Any.Builder_WriteString writeString X1 w.heap.size w.heap.size _ _ w1 (Or.inr H1.out) (by rw[aK,Lib.byteCells_length];have:=Hlen.out;have:=Hd.out;rw[xW];simp only[aX,ah];omega) hBw1).mono ?_
        rintro e w2 ⟨rfl,h2,hb2⟩
        rw[Hn.out]at h2
        have H2:=hid (Or.inr h2:Lib.IsBuilder (dw.t 72) (dw.t 5) w.heap.size w.heap.size _ w2)
        have Hb2:=hid ((HW.out.trans Hb1.out).trans hb2)
        clear h2 hb2
        go_wp2
        exact⟨⟨k+1,by omega,by go_num,H2,Hb2⟩,by simp[intOf];omega⟩
    · have hke:k=l.length:=by omega
      subst hke
      have hB:=HB.out
      rw[cu (aM _)]at hB
      go_wp2_with fail
      refine(Any.Builder_String_any Mr X3 w.heap.size w.heap.size _ wr hB hBw).mono ?_
      rintro e w5 ⟨rfl,hb5⟩
      have Hb5:=hid (HW.out.trans hb5)
      clear hb5 hB
      go_wp2
      go_ret2
      exact⟨rfl,Hb5.out⟩
end Go.Proofs.YtjpgfgajkjhonaaGreatDoor
namespace Go.Proofs.YtjpgfgajkjhonaaGreatDoor
open Go.Vx
set_option maxRecDepth 100000
theorem Cv:∀n,n<100->Lib.decDigits n=if n<10 then[UInt8.ofNat (48+n)]else[UInt8.ofNat (48+n / 10),UInt8.ofNat (48+n % 10)]:=by
 intro n hn;rw[Lib.decDigits];split
 .rfl
 .rw[Lib.decDigits,dif_pos (by omega)];rfl
theorem Ew:∀n,n<100->Lib.parseIntB 64 (Lib.decDigits n)=.ok (n:Int):=by
 intro n hn;rw[Cv n hn]
 revert n
 decide
theorem Cw:∀n,n<100->(46:UInt8)∉Lib.decDigits n:=by
 intro n hn;rw[Cv n hn]
 revert n
 decide
theorem Kj(n:Nat)(hn:n<100):Z0 139 [.d (.int .i64 n)] (.d (.str (Lib.decDigits n))):=by
 have h:=MP n hn;refine sh0 Tryz.f139 ?_
 exact zj1 h
theorem G9(n:Nat)(hn:n<100):Z0 101 [.d (.str (Lib.decDigits n))] (.tu [.d (.int .i64 n),.d (.bool true)]):=by
 have h0:=fe hn;have h1:=QE (Lib.decDigits n) (by omega) n (Ew n hn);have h2:=Kj n hn;refine sh0 Tryz.f101 ?_
 exact zk2 h1 h2
def ek(l:List Nat):List (List D):=l.map λn:Nat=>[D.int .i64 n]
theorem gU(l:List Nat):(ek l).length=l.length:=aH _
theorem vR(l:List Nat)(n:Nat):ek l++[[D.int .i64 n]]=ek (l++[n]):=by simp[ek]
theorem Bu{K:KT}(n:Nat)(hn:n<100)(acc:List Nat)(ha:acc.length<24)(b:Bool){word:List UInt8}(hw:word=Lib.decDigits n)
  (hk:K (.ret (.d (.bool true))) [.cells [.os 1],.rows 1 (ek (acc++[n])),.cells [.d (.bool true)]]) :
  Z1 100 [.d (.str word),.p 0 0,.p 2 0] [.cells [.os 1],.rows 1 (ek acc),.cells [.d (.bool b)]] K:=by
 subst hw;have h1:=G9 n hn;have hl:=gU acc;rw[<-vR]at hk;refine sh0 Tryz.f100 ?_;have e:decide (((ek acc).length:Int)<24)=true:=φ (by omega);have hk2:K (.ret (.d (.bool (decide (((ek acc).length:Int)<24))))) [.cells [.os 1],.rows 1 (ek acc++[[D.int .i64 n]]),.cells [.d (.bool (decide (((ek acc).length:Int)<24)))]]:=by rw[e];exact hk
 repeat' ((conv=>whnf);first|exact zf|refine zm ?_|refine zc h1 ?_|refine zt ?_|refine zu ?_|intro _)
 exact hk2
theorem Fm{K:KT}(s t:List UInt8)(hk:K (.ret (.fc 211 [.p 0 0,.p 1 0,.p 2 0])) [.cells [.d (.str t)],.cells [.d (.str s)],.cells [.d (.int .i64 0)]]) :
  Z1 140 [.d (.str s),.d (.str t),.d (.int .i64 0)] [] K:=by
 refine sh0 Tryz.f140 ?_
 exact zh0 hk
theorem Fz{K:KT}(s t:List UInt8)(hk:K (.ret (.fc 211 [.p 0 0,.p 1 0,.p 2 0])) [.cells [.d (.str t)],.cells [.d (.str s)],.cells [.d (.int .i64 0)]]) :
  Z1 102 [.d (.str s),.d (.str t)] [] K:=by
 refine sh0 Tryz.f102 ?_
 repeat' ((conv=>whnf);first|exact zf|refine zm ?_|refine(Fm s t ?_)|intro _)
 exact hk
theorem index_none:∀l:List UInt8,(46:UInt8)∉l->Lib.indexByte l 46 = -1
 |[],_=>rfl
 |b::l,h=>by
  have h1:(b==46)=false:=by simp;intro e;exact h (by simp[e])
  rw[Lib.indexByte,h1,index_none l λe=>h (cM _ e)];rfl
theorem yp:∀(l r:List UInt8),(46:UInt8)∉l->Lib.indexByte (l++46::r) 46=l.length
 |[],r,_=>rfl
 |b::l,r,h=>by
  have h1:(b==46)=false:=by simp;intro e;exact h (by simp[e])
  rw[List.cons_append,Lib.indexByte,h1,yp l r λe=>h (cM _ e)];have:((l.length:Int) == -1)=false:=by rw[beq_eq_false_iff_ne];omega
  simp[this]
theorem Kc(n m:Nat)(r:List Nat):bm (n::m::r)=Lib.decDigits n++46::bm (m::r):=by simp[bm,pN]
def SZ(acc:List Nat)(s:List UInt8):H:=[.cells [.os 5],.cells [.d (.bool true)],.cells [.d (.str [46])],.cells [.d (.str s)],.cells [.d (.int .i64 0)],.rows 1 (ek acc)]
theorem Fl{K:KT}(l:List Nat)(h0:l≠[])(hl:l.length<=24)(hs:∀n∈l,n<100)(hk:∀s,K (.ret (.tu [])) (SZ l s)) :
    Z1 211 [.fc 100 [.p 0 0,.p 1 0],.p 2 0,.p 3 0,.p 4 0] (SZ [] (bm l)) K:=by
  have hl0:0<l.length:=iv.2 h0
  refine sh0 Tryz.f211 ?_
  repeat' ((conv=>whnf);first|exact zf|refine zm ?_|refine zt ?_|refine zu ?_|intro _)
  conv=>whnf
  refine bM [(0,.fc 100 [.p 0 0,.p 1 0]),(1,.p 2 0),(2,.p 3 0),(3,.p 4 0)] (λk:Nat=>k<l.length) (λ_=>[]) (λk=>SZ (l.take k) (bm (l.drop k))) (λk=>l.length-k) 0 hl0 ?_ ?_ ?_ (λk hi=>?_)
  · exact zzz
  · exact zzz
  · exact rfl
  obtain⟨n,r,hr⟩:∃n r,l.drop k=n::r:=by
    cases h:l.drop k with
    |nil=>rw[List.drop_eq_nil_iff]at h;omega
    |cons n r=>exact⟨n,r,rfl⟩
  have hn:n<100:=hs n (dJ (by rw[hr];simp))
  have hkn:l[k]?=some n:=by
    have:=κ (·[0]?) hr
    simpa[bF]using this
  have ht:l.take (k+1)=l.take k++[n]:=by rw[bc,hkn];rfl
  have hd:l.drop (k+1)=r:=by rw[<-List.drop_drop,hr];rfl
  have ha:(l.take k).length<24:=by rw[bC];omega
  rw[hr]
  match r,hr,hd with
  |[],hr,hd=>
    have e1:bm [n]=Lib.decDigits n:=by simp[bm,pN]
    have hi1:=Hc (Lib.decDigits n) 46
    rw[index_none _ (Cw n hn)]at hi1
    rw[e1]
    repeat' ((conv=>whnf);first|exact zf|refine zm ?_|refine zc hi1 ?_|refine zr0 ?_|refine(Bu n hn (l.take k) ha true rfl ?_)|refine zt ?_|refine zu ?_|intro _)
    have e2:l.take k++[n]=l:=by rw[<-ht];exact cu (List.drop_eq_nil_iff.1 hd)
    have hk2:=hk (Lib.decDigits n)
    unfold SZ at hk2
    rw[<-e2]at hk2
    exact hk2
  |m::r,hr,hd=>
    have hi1:=Hc (Lib.decDigits n++46::bm (m::r)) 46
    rw[yp _ _ (Cw n hn)]at hi1
    rw[Kc]
    have hdl:=fe hn
    have htl:=kP (l:=m::r) λx hx=>hs x (dJ (by rw[hr];exact cM _ hx))
    have hml:(m::r).length<=24:=by rw[<-hd,eJ];omega
    have hL:(Lib.decDigits n++46::bm (m::r)).length=(Lib.decDigits n).length+1+(bm (m::r)).length:=by simp;omega
    repeat' ((conv=>whnf);first|exact zf|refine zm ?_|refine zc hi1 ?_|refine zr0 ?_|refine(Bu n hn (l.take k) ha true (by simp) ?_)|refine zi0 ?_|refine zt ?_|refine zu ?_|intro _)
    have hD:List.drop (((Lib.decDigits n).length:Int)+(([46]:List UInt8).length:Int)).toNat (Lib.decDigits n++46::bm (m::r))=bm (l.drop (k+1)):=by
      have:(((Lib.decDigits n).length:Int)+(([46]:List UInt8).length:Int)).toNat=(Lib.decDigits n).length+1:=by simp only[aX,ah];omega
      rw[this,hd,List.drop_append,kE (by omega)]
      simp
    refine⟨k+1,?_,by omega,zzz,⟨aU rfl,aU rfl,aU rfl,aU (κ (λx=>B.cells [V.d (D.str x)]) hD),aU rfl,aU (by rw[ht]),trivial⟩,rfl⟩
    have:=κ List.length hd
    rw[eJ]at this
    simp at this
    omega
theorem vG{K:KT}(l:List Nat)(h0:l≠[])(hl:l.length<=24)(hs:∀n∈l,n<100)(hk:∀s,K (.ret (.tu [])) (SZ l s)) :
  Z1 211 [.fc 100 [.p 0 0,.p 1 0],.p 2 0,.p 3 0,.p 4 0] [.cells [.nl 1],.cells [.d (.bool true)],.cells [.d (.str [46])],.cells [.d (.str (bm l))],.cells [.d (.int .i64 0)]] K:=
 Sat.own (by decide) 0 0 rfl rfl (Fl l h0 hl hs hk)
theorem sr(l:List Nat)(h0:l≠[])(hl:l.length<=24)(hs:∀n∈l,n<100):Z0 66 [.d (.str (bm l))] (.tu [.d (.sl 1 (ek l)),.d (.bool true)]):=by
 have hlen:=kP hs;refine sh0 Tryz.f66 ?_
 repeat' ((conv=>whnf);first|exact zf|refine zm ?_|refine(Fz (bm l) [46] ?_)|refine zr0 ?_|refine(vG l h0 hl hs (λs=>?_))|refine zt ?_|refine zu ?_|intro _)
theorem LO{K:KT}(l:List Nat)(h0:l≠[])(hl:l.length<=24)(hs:∀n∈l,n<100)(hk:K (.ret (.tu [.os 0,.d (.bool true)])) [.rows 1 (ek l)]) :
  Z1 66 [.d (.str (bm l))] [] K:=by
 have hlen:=kP hs;refine si0 Tryz.f66 ?_
 repeat' ((conv=>whnf);first|exact zf|refine zm ?_|refine(Fz (bm l) [46] ?_)|refine zr0 ?_|refine(vG l h0 hl hs (λs=>?_))|refine zt ?_|refine zu ?_|intro _)
 exact hk
theorem wY(l:List Nat)(h0:l≠[])(hl:l.length<=24)(hs:∀n∈l,n<100):Z0 43 [.d (.str (bm l))] (.d (.bool true)):=by
 have h1:=sr l h0 hl hs;refine sh0 Tryz.f43 ?_
 exact zj1 h1
theorem Tp(l:List Nat)(h0:l≠[])(hl:l.length<=24)(hs:∀n∈l,n<100):Z0 335 [.d (.sl 1 (ek l))] (.tu [.d (.str (bm l)),.d (.bool true)]):=by
 refine .inl ⟨by kernel_rfl,λG w ρ vs hR hlv hv=>?_⟩
 match ρ,hR.len with
 |[],_=>
 match vs,hlv with
 |[a0],_=>
 have hlen:=kP hs;have hne:ek l≠[]:=λh=>h0 (List.map_eq_nil_iff.1 h);obtain⟨b,o,c,U,e1,h2,hb,h3⟩:∃(b o c:Nat)(U:Nat->Value),a0=.slice (some ⟨b,o,none⟩) l.length c/\l.length<=c/\G b/\∀(j n:Nat),l[j]?=some n->w.cell? ⟨b,o+j,none⟩=some (U j)/\bp G w (U j) (.int .i64 n):=by
  have:=(hv 0 _ rfl).qu;generalize hx:ek l=rs at this hne;cases this with
  |xg=>exact absurd rfl hne
  |sle=>exact absurd rfl hne
  |sl b o c _ _ U g1 g2 g3 g4 g5 g6=>
   subst hx;refine⟨b,o,c,λj=>U j 0,by rw[gU],by rw[gU]at g1;exact g1,g3,λj n hj=>?_⟩;have hr:(ek l)[j]?=some [.int .i64 n]:=by simp[ek,hj]
   have h5:=g5 j _ 0 _ hr rfl;rw[show j*1+0=j by omega]at h5;exact⟨h5,g6 j _ 0 _ hr rfl⟩
 subst e1;refine Calls.mono (Tu l h0 hl hs b o c w (λj n hj=>?_) (hR.gl b hb)) ?_
 .obtain⟨h4,h5⟩:=h3 j n hj;rw[h4];generalize U j=x at h5;cases h5;rfl
 .rintro e w' ⟨rfl,hB⟩
  have hg:gK w w':=⟨hB.size,hB.block,hB.os,hB.tape,hB.output⟩
  refine⟨G,[],_,.ret (.tu [.d (.str (bm l)),.d (.bool true)]),(Ok.refl hR).grow hg (λ_ h=>h) (λ_ h=>.inl h),⟨_,rfl,.tu _ _ rfl λi x hx=>?_⟩,rfl,rfl⟩
  match i,hx with
  |0,hx=>cases hx;exact .c (.k (.d (.str ⟨(bm l).toArray⟩ (by rw[xW];unfold maxLen;omega))))
  |1,hx=>cases hx;exact .c (.k (.d (.bool true)))
theorem Ji(l:List Nat)(n:Nat)(h0:l≠[])(hl:l.length<24)(hs:∀n∈l,n<100)(hn:n<100) :
  Z0 324 [.d (.str (bm l)),.d (.int .i64 n)] (.tu [.d (.str (bm (l++[n]))),.d (.bool true)]):=by
 have hm:=Tp (l++[n]) (by simp) (by simp;omega) (λx hx=>(aR.1 hx).elim (hs x) λh=>by rw[aL.1 h];exact hn);rw[<-vR]at hm;have hl2:=gU l;refine sh0 Tryz.f324 ?_
 repeat' ((conv=>whnf);first|exact zf|refine zm ?_|refine(LO l h0 (by omega) hs ?_)|refine(.inl ⟨_,hm,rfl,?_⟩)|refine zt ?_|refine zu ?_|intro _)
theorem Wz{x y:Int}(h:(x != y)=false):x=y:=by simpa using h
theorem pO{a b:List Nat}{i x y:Nat}(hx:a[i]?=some x)(hy:b[i]?=some y)(he:a.take i=b.take i):a.take (i+1)=b.take (i+1)<->x=y:=by
 rw[bc,bc,hx,hy,he];simp
def oL(x y:Int):Int:=if x<y then -1 else if y<x then 1 else 0
theorem Gz(x:Int):Z0 194 [.d (.int .i64 x)] (.d (.bool false)):=by
 refine sh0 Tryz.f194 ?_
 repeat' ((conv=>whnf);first|exact zf|refine zm ?_|intro _)
 refine cJ ?_;show V.d (D.bool (x != x))=_;simp
theorem RO(x y:Int):Z0 130 [.d (.int .i64 x),.d (.int .i64 y)] (.d (.int .i64 (oL x y))):=by
 have h1:=Gz x;have h2:=Gz y;unfold oL;refine sh0 Tryz.f130 ?_
 by_cases h:x<y
 .rw[ζ h]
  exact zk2 h1 h2
 .rw[η h]
  by_cases h':y<x
  .rw[ζ h']
   exact zk2 h1 h2
  .rw[η h']
   exact zk2 h1 h2
def cmpL:List Nat->List Nat->Int
 |[],[]=>0
 |[],_::_=> -1
 |_::_,[]=>1
 |x::a,y::b=>if oL x y=0 then cmpL a b else oL x y
theorem vo(x:Int):oL x x=0:=by simp[oL]
theorem oE:∀(i:Nat)(a b:List Nat),i<=a.length->i<=b.length->a.take i=b.take i->cmpL a b=cmpL (a.drop i) (b.drop i)
 |0,_,_,_,_,_=>rfl
 |i+1,x::a,y::b,h1,h2,h=>by
  simp only[dV,List.cons.injEq]at h;rw[h.1,cmpL,ζ (vo _)];exact oE i a b (by simpa using h1) (by simpa using h2) h.2
 |i+1,[],_,h1,_,_=>by simp at h1
 |i+1,_::_,[],_,h2,_=>by simp at h2
theorem Me{a b:List Nat}{i x y:Nat}(hx:a[i]?=some x)(hy:b[i]?=some y)(he:a.take i=b.take i)(hn:oL x y≠0):cmpL a b=oL x y:=by
 have h1:=(aC.1 hx).1;have h2:=(aC.1 hy).1;rw[oE i a b (by omega) (by omega) he,bO h1,bO h2];rw[aA h1]at hx;rw[aA h2]at hy;rw[aq hx,aq hy,cmpL,η hn]
theorem Mf{x y:Nat}(h:oL x y=0):x=y:=by
 unfold oL at h;split at h
 .omega
 .split at h<;>omega
theorem E_(a b:List Nat):Z0 86 [.d (.sl 1 (ek a)),.d (.sl 1 (ek b))] (.d (.int .i64 (cmpL a b))):=by
 have ha:=gU a;have hb:=gU b;refine sh0 Tryz.f86 ?_
 repeat' ((conv=>whnf);first|exact zf|refine zm ?_|intro _)
 conv=>whnf
 refine bM [(0,.d (.sl 1 (ek a))),(1,.d (.sl 1 (ek b))),(9,.d (.sl 1 (ek a))),(10,.d (.int .i64 (ek a).length))] (λi:Nat=>i<=a.length/\i<=b.length/\a.take i=b.take i) (λi=>[(11,.d (.int .i64 i))]) (λ_=>[]) (λi=>a.length-i) 0 ⟨ae _,ae _,rfl⟩ ?_ ?_ ?_ (λi hi=>?_)
 .exact zzz
 .exact zzz
 .exact rfl
 repeat' ((conv=>whnf);first|exact zf|refine zm ?_|intro _)
 refine aW (λhlt=>?_) (λhge=>?_)
 .have hlt:i<a.length:=by rw[<-ha];simpa using hlt
  obtain⟨x,hx⟩:∃x,a[i]?=some x:=⟨_,aA hlt⟩
  repeat' ((conv=>whnf);first|exact zf|refine zm ?_|intro _)
  refine⟨[D.int .i64 x],⟨by omega,by simp[ek,hx],rfl⟩,?_⟩
  repeat' ((conv=>whnf);first|exact zf|refine zm ?_|intro _)
  refine aW (λhout=>?_) (λhin=>?_)
  .skip
   repeat' ((conv=>whnf);first|exact zf|refine zm ?_|intro _)
   have hib:i=b.length:=by simp at hout;omega
   refine cJ (κ (λx=>V.d (.int .i64 x)) ?_);rw[oE i a b hi.1 hi.2.1 hi.2.2,kE (l:=b) (by omega),bO hlt];rfl
  .have hib:i<b.length:=by simp at hin;omega
   obtain⟨y,hy⟩:∃y,b[i]?=some y:=⟨_,aA hib⟩
   have h1:=RO x y
   repeat' ((conv=>whnf);first|exact zf|refine zm ?_|intro _)
   refine⟨[D.int .i64 y],⟨by omega,by simp[ek,hy],rfl⟩,?_⟩
   repeat' ((conv=>whnf);first|exact zf|refine zm ?_|refine zc h1 ?_|intro _)
   refine aW (λhno=>?_) (λhyes=>?_)
   .skip
    repeat' ((conv=>whnf);first|exact zf|refine zm ?_|intro _)
    refine cJ (κ (λx=>V.d (.int .i64 x)) ?_);exact(Me hx hy hi.2.2 (by simpa using hno)).symm
   .skip
    repeat' ((conv=>whnf);first|exact zf|refine zm ?_|intro _)
    have hxy:=Mf (Wz hyes);exact⟨i+1,⟨hlt,hib,(pO hx hy hi.2.2).2 hxy⟩,az hlt (bL i),zzz,zzz,rfl⟩
 .have hge:i=a.length:=by
   have:¬i<a.length:=by rw[<-ha];simpa using hge
   omega
  have hc:=oE i a b hi.1 hi.2.1 hi.2.2;rw[kE (by omega)]at hc
  repeat' ((conv=>whnf);first|exact zf|refine zm ?_|intro _)
  refine aW (λhlt=>?_) (λhnl=>?_)
  .have hlt:a.length<b.length:=by simp at hlt;omega
   rw[bO (by omega)]at hc;rw[hc]
   exact zj0
  .have hnl:¬a.length<b.length:=by simp at hnl;omega
   rw[kE (by omega)]at hc;rw[hc]
   exact zj0
theorem wb(a b:List Nat)(ha0:a≠[])(hal:a.length<=24)(has:∀n∈a,n<100)(hb0:b≠[])(hbl:b.length<=24)(hbs:∀n∈b,n<100) :
  Z0 47 [.d (.str (bm a)),.d (.str (bm b))] (.d (.int .i64 (cmpL a b))):=by
 have h1:=sr a ha0 hal has;have h2:=sr b hb0 hbl hbs;have h3:=E_ a b;refine sh0 Tryz.f47 ?_
 exact zk3 h1 h2 h3
end Go.Proofs.YtjpgfgajkjhonaaGreatDoor