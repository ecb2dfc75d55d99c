/- Texts of this claim, joined. No condition. -/
import Derived.Test.YtlkkaepbnnakpaaGreatDoorQ3
import Derived.Shelf.Sort.Plain
import Derived.Ground.Names2Prog
import Derived.Shelf.Slices.CompactI
import Derived.Test.YtlkkaepbnnakpaaGreatDoorProg
set_option linter.unusedSimpArgs false
set_option linter.unusedVariables false
set_option maxRecDepth 10000
set_option maxHeartbeats 4000000
section
namespace Go.Proofs
open Go.Shelf
def Tryz.lays189_ren:Go.Shelf.Ren:=⟨fun|189=>160|125=>181|257=>180|128=>206|129=>183|294=>197|295=>198|296=>199|297=>200|298=>201|299=>202|216=>203|300=>204|301=>205|328=>211|329=>212|330=>213|331=>214|332=>215|215=>216|343=>217|n=>n,fun|28=>23|3=>3|46=>175|0=>0|51=>179|53=>157|4=>4|183=>192|182=>191|131=>100|5=>5|9=>9|218=>201|222=>205|228=>209|229=>165|n=>n,fun|n=>n⟩
theorem Tryz.lays189:Go.Proofs.Lays.n189 Tryz.prog Tryz.lays189_ren:={
 mixed:=by kernel_rfl
 f125:=Tryz.func181.trans (congrArg some (by kernel_rfl))
 f128:=Tryz.func206.trans (congrArg some (by kernel_rfl))
 f129:=Tryz.func183.trans (congrArg some (by kernel_rfl))
 f189:=Tryz.func160.trans (congrArg some (by kernel_rfl))
 f215:=Tryz.func216.trans (congrArg some (by kernel_rfl))
 f216:=Tryz.func203.trans (congrArg some (by kernel_rfl))
 f257:=Tryz.func180.trans (congrArg some (by kernel_rfl))
 f294:=Tryz.func197.trans (congrArg some (by kernel_rfl))
 f295:=Tryz.func198.trans (congrArg some (by kernel_rfl))
 f296:=Tryz.func199.trans (congrArg some (by kernel_rfl))
 f297:=Tryz.func200.trans (congrArg some (by kernel_rfl))
 f298:=Tryz.func201.trans (congrArg some (by kernel_rfl))
 f299:=Tryz.func202.trans (congrArg some (by kernel_rfl))
 f300:=Tryz.func204.trans (congrArg some (by kernel_rfl))
 f301:=Tryz.func205.trans (congrArg some (by kernel_rfl))
 f328:=Tryz.func211.trans (congrArg some (by kernel_rfl))
 f329:=Tryz.func212.trans (congrArg some (by kernel_rfl))
 f330:=Tryz.func213.trans (congrArg some (by kernel_rfl))
 f331:=Tryz.func214.trans (congrArg some (by kernel_rfl))
 f332:=Tryz.func215.trans (congrArg some (by kernel_rfl))
 f343:=Tryz.func217.trans (congrArg some (by kernel_rfl))
 t0:=Tryz.underlying0
 a0:=Tryz.isAgg0
 z0:=Tryz.sizeOf0
 v0:=Tryz.zeroValue0
 t3:=Tryz.underlying3
 a3:=Tryz.isAgg3
 z3:=Tryz.sizeOf3
 v3:=Tryz.zeroValue3
 t4:=Tryz.underlying4
 a4:=Tryz.isAgg4
 z4:=Tryz.sizeOf4
 v4:=Tryz.zeroValue4
 t5:=Tryz.underlying5
 a5:=Tryz.isAgg5
 z5:=Tryz.sizeOf5
 v5:=Tryz.zeroValue5
 t9:=Tryz.underlying9
 a9:=Tryz.isAgg9
 z9:=Tryz.sizeOf9
 v9:=Tryz.zeroValue9
 t28:=Tryz.underlying23
 a28:=Tryz.isAgg23
 z28:=Tryz.sizeOf23
 v28:=Tryz.zeroValue23
 t46:=Tryz.underlying175
 a46:=Tryz.isAgg175
 z46:=Tryz.sizeOf175
 v46:=Tryz.zeroValue175
 t51:=Tryz.underlying179
 a51:=Tryz.isAgg179
 z51:=Tryz.sizeOf179
 v51:=Tryz.zeroValue179
 t53:=Tryz.underlying157
 a53:=Tryz.isAgg157
 z53:=Tryz.sizeOf157
 v53:=Tryz.zeroValue157
 t131:=Tryz.underlying100
 a131:=Tryz.isAgg100
 z131:=Tryz.sizeOf100
 v131:=Tryz.zeroValue100
 t182:=Tryz.underlying191
 a182:=Tryz.isAgg191
 z182:=Tryz.sizeOf191
 v182:=Tryz.zeroValue191
 t183:=Tryz.underlying192
 a183:=Tryz.isAgg192
 z183:=Tryz.sizeOf192
 v183:=Tryz.zeroValue192
 t218:=Tryz.underlying201
 a218:=Tryz.isAgg201
 z218:=Tryz.sizeOf201
 v218:=Tryz.zeroValue201
 t222:=Tryz.underlying205
 a222:=Tryz.isAgg205
 z222:=Tryz.sizeOf205
 v222:=Tryz.zeroValue205
 t228:=Tryz.underlying209
 a228:=Tryz.isAgg209
 z228:=Tryz.sizeOf209
 v228:=Tryz.zeroValue209
 t229:=Tryz.underlying165
 a229:=Tryz.isAgg165
 z229:=Tryz.sizeOf165
 v229:=Tryz.zeroValue165}
def Tryz.laysNm220_ren:Go.Shelf.Ren:=⟨fun|20=>161|n=>n,fun|22=>23|3=>3|4=>4|0=>0|n=>n,fun|n=>n⟩
theorem Tryz.laysNm220:Go.Proofs.Lays2.n20 Tryz.prog Tryz.laysNm220_ren:={
 mixed:=by kernel_rfl
 f20:=Tryz.func161.trans (congrArg some (by kernel_rfl))
 t0:=Tryz.underlying0
 a0:=Tryz.isAgg0
 z0:=Tryz.sizeOf0
 v0:=Tryz.zeroValue0
 t3:=Tryz.underlying3
 a3:=Tryz.isAgg3
 z3:=Tryz.sizeOf3
 v3:=Tryz.zeroValue3
 t4:=Tryz.underlying4
 a4:=Tryz.isAgg4
 z4:=Tryz.sizeOf4
 v4:=Tryz.zeroValue4
 t22:=Tryz.underlying23
 a22:=Tryz.isAgg23
 z22:=Tryz.sizeOf23
 v22:=Tryz.zeroValue23
 i3:=by kernel_rfl}
end Go.Proofs
end
section
namespace Go.Bi
theorem A2B{P:Program}{n nb:Nat}{cd:IC}{N:Sl->List AO->Prop}{E0:Nat->Sl->List AO->Prop}{R:Sl->List AO->Prop}{L:Sl}{os:List AO}(id off sz:Nat)(hsz:Nat.blt 0 sz=true){cs:List AV}(ho:os[id]?=some (.cells cs))(hn:cs[off]?=some (.d .nil))
  (k:j5 P n nb cd N E0 R L ((os++[AO.arr [] sz 0 true]).set id (.cells (cs.set off (.arr os.length 0))))):j5 P n nb cd N E0 R L os:=by
 have hw:=C08 (n:=n) (nb:=nb) (ρ:=D1 L) (os:=os) id off sz (A1F Nat.zero_lt_one (P3 hsz)) ho hn
 refine⟨λcode hc c M G w a hR=>?_⟩
 obtain⟨M',G',hR'⟩:=hw c M G w a hR
 exact k.h code hc c M' G' w a hR'
end Go.Bi
namespace Go.Proofs
open Go.Bi
theorem B8t(f:Nat->Nat)(ds:List D):mG f (.agg (ds.map .d))=.agg (ds.map .d):=by
 simp only[mG,j4]
 congr 1
theorem A7O(f:Nat->Nat)(ds:List D):mA f (.agg (ds.map .d))=.agg (ds.map .d):=by
 simp only[mA,mG,j4]
 congr 1
theorem A9N(ds:List D)(n:Nat):(AV.agg (ds.map .d)).bnd2 n:=by
 intro c hc
 obtain⟨x,_,rfl⟩:=F1.1 hc
 trivial
theorem B8m{g:FuncId}(a:AV){x y:D}{r:AV}(ds:List D)(h:B5 Tryz.prog g [.agg (ds.map .d),a] [.cells [.d x]] (λr' os'=>r'=r/\os'=[.cells [.d y]]))(a':Nat->AV)(ha:∀id n,mG (rn [id] n) a=a' id)(hba:a.bnd2 1)(hr:∀f,mA f r=r){os:List AO}{id:Nat}(ho:os[id]?=some (.cells [.d x])) :
  B5 Tryz.prog g [.agg (ds.map .d),a' id] os (λr' os'=>r'=r/\os'=os.set id (.cells [.d y])):=by
 have:=B5.frame (K:=λr' os'=>r'=r/\os'=os.set id (.cells [.d y])) h [id] os rfl (by simp) (λi o hx=>?_) (λz hz=>?_) (λo hx=>?_) ?_
 ·rw[Q3,Q3,List.map_nil,B8t,ha] at this;exact this
 ·cases i with
  |zero=>simp at hx;subst hx;exact ho
  |succ i=>simp at hx
 ·simp only[I9,m5,or_false] at hz
  rcases hz with rfl|rfl
  ·exact A9N _ _
  ·exact hba
 ·cases A0X.1 hx
  simp[AO.bnd,AV.bnd1]
 ·rintro _ _ ⟨rfl,rfl⟩
  refine⟨hr _,?_⟩
  simp[S9,mO,mC]
theorem D1o{g:FuncId}{x y:D}{r:AV}{ds:List D}(h:B5 Tryz.prog g [.agg (ds.map .d),.ptr 0 0] [.cells [.d x]] (λr' os'=>r'=r/\os'=[.cells [.d y]]))(hr:∀f,mA f r=r){os:List AO}{id:Nat}(ho:os[id]?=some (.cells [.d x])) :
  B5 Tryz.prog g [.agg (ds.map .d),.ptr id 0] os (λr' os'=>r'=r/\os'=os.set id (.cells [.d y])):=
 B8m _ _ h (λid=>.ptr id 0) (λid n=>rfl) (by simp[AV.bnd2,AV.bnd1]) hr ho
theorem B0E{g f:FuncId}{x y:D}{r:AV}{ds:List D}(h:B5 Tryz.prog g [.agg (ds.map .d),.clo f [0]] [.cells [.d x]] (λr' os'=>r'=r/\os'=[.cells [.d y]]))(hr:∀f,mA f r=r){os:List AO}{id:Nat}(ho:os[id]?=some (.cells [.d x])) :
  B5 Tryz.prog g [.agg (ds.map .d),.clo f [id]] os (λr' os'=>r'=r/\os'=os.set id (.cells [.d y])):=
 B8m _ _ h (λid=>.clo f [id]) (λid n=>rfl) (by simp[AV.bnd2,AV.bnd1]) hr ho
mutual
def O4(φ:Ex->Ex):Ex->Ex
 |.mk op n v nm nl args=>if op=2 then φ (.mk op n v nm true (A4h φ args)) else .mk op n v nm true (A4h φ args)
def A4h(φ:Ex->Ex):List Ex->List Ex
 |[]=>[]
 |a::l=>O4 φ a::A4h φ l
end
theorem B8x(φ:Ex->Ex):∀l,A4h φ l=l.map (O4 φ)
 |[]=>by simp[A4h]
 |a::l=>by simp[A4h,B8x φ l]
theorem A4g(φ:Ex->Ex)(op n:Int)(v:Vl)(nm:List UInt8)(nl:Bool)(args:List Ex):O4 φ (.mk op n v nm nl args)=if op=2 then φ (.mk op n v nm true (args.map (O4 φ))) else .mk op n v nm true (args.map (O4 φ)):=by
 rw[O4,B8x]
def Mt(φ:Ex->Ex)(l:List Ex)(i:Nat):List (List D):=xL ((l.take i).map φ)
theorem x5(φ:Ex->Ex)(l:List Ex)(i:Nat)(h:i<=l.length):(Mt φ l i).length=i:=by
 unfold Mt
 rw[I6,D5,L6]
 omega
theorem x6(φ:Ex->Ex)(l:List Ex)(i:Nat):∀e∈Mt φ l i,e.length=7:=O7 _
theorem x7{φ:Ex->Ex}{l:List Ex}{i:Nat}{c:Ex}(h:l[i]?=some c):Mt φ l i++[(φ c).ds]=Mt φ l (i+1):=by
 unfold Mt
 rw[Q9,h]
 simp[xL]
theorem x4{φ:Ex->Ex}{l:List Ex}{i:Nat}(h:l.length<=i):Mt φ l i=xL (l.map φ):=by
 unfold Mt
 rw[M7 h]
theorem A7T(l:List (List D)):ng true l=if l.isEmpty then .nil else .sl l:=by unfold ng;rw[w6]
theorem B1I(g:FuncId)(y:D)(φ:Ex->Ex)(hg:∀x:Ex,B5 Tryz.prog g [x.av,.ptr 0 0] [.cells [.d y]] (λr os=>r=(φ x).av/\os=[.cells [.d y]])):∀e:Ex,e.bk<=1048576->B5 Tryz.prog A2U [e.av,.clo g [0]] [.cells [.d y]] (λr os=>r=(O4 φ e).av/\os=[.cells [.d y]]):=by
 refine Ex.ind λop n v nm nl args ih hb=>?_
 obtain⟨b1,b2,b3,b4⟩:=Ex.bk_bounds hb
 obtain⟨Z,hZ⟩:∃Z,Z=(O4 φ (.mk op n v nm nl args)).av:=⟨_,rfl⟩
 rw[<- hZ]
 rw[A4g] at hZ
 rw[Ex.av_mk]
 refine B2f.goX A6 rfl ?_
 have h1:=I6 args
 have hm:=O7 args
 obtain⟨da,hda⟩:∃d,d=ng nl (xL args):=⟨_,rfl⟩
 have hsd:B8 da (xL args):=by rw[hda];exact p8
 rw[<- hda]
 have r0:v.k=v.k:=rfl
 have r1:v.s=v.s:=rfl
 have r2:nm=nm:=rfl
 repeat' first|refine st ?_|(with_reducible first|apply A5|apply A4)<;>intro _
 refine A1t 5 7 rfl rfl ?_
 repeat' first|refine st ?_|(with_reducible first|apply A5|apply A4)<;>intro _
 refine J1 A6 B4W B4L (λ(i:Nat) (w:List (List D)×Bool)=>[.arr 3 w.1.length,.d (eI i)]) (λi w=>[.cells [.d y],.cells [.d (eI op),.d (eI n),.d (eI v.k),.d (eI v.n),.d (.str v.s),.d (.str nm),.d da],.cells [.d (eI 0),.d (eI 0),.d (eI 0),.d (eI 0),.d (.str []),.d (.str []),.d .nil],.arr w.1 7 0 w.2]) (λi w=>i<=args.length/\w.1=Mt (O4 φ) args i/\w.2=w.1.isEmpty) (λi _=>args.length-i) 0 ([],true) rfl rfl rfl rfl (λ_ _ _=>⟨rfl,rfl⟩) rfl ⟨by omega,rfl,rfl⟩ ?_
 repeat' first|refine st ?_|(with_reducible first|apply A5|apply A4)<;>intro _
 intro i w ⟨h4,h5,h6⟩
 obtain⟨A,b⟩:=w
 dsimp only at h5 h6 ⊢
 have hAl:A.length=i:=by rw[h5];exact x5 _ args i (by omega)
 have hAm:∀e∈A,e.length=7:=by rw[h5];exact x6 _ _ _
 cases hx:args[i]? with
 |some x=>
  have hlt:=(B3.1 hx).1
  have hs:=x7 (φ:=O4 φ) hx
  have hg:=r8 hx
  have hi:=ih x (C4 hx) (b4 x (C4 hx))
  rw[<- h5] at hs
  have hL:∀os:List AO,os[0]?=some (.cells [.d y])->B5 Tryz.prog A2U [x.av,.clo g [0]] os (λr' os'=>r'=(O4 φ x).av/\os'=os.set 0 (.cells [.d y])):=λos ho=>B0E (id:=0) hi (λf=>A7O f _) ho
  obtain⟨z,hz⟩:∃z,z=O4 φ x:=⟨_,rfl⟩
  rw[<- hz] at hs hL
  obtain⟨o1,n1,v1,m1,l1,a1⟩:=x
  obtain⟨o2,n2,v2,m2,l2,a2⟩:=z
  rw[Ex.ds_mk] at hg hs
  simp only[Ex.av_mk] at hL
  repeat' first|refine st ?_|((with_reducible first|apply I0|apply D7);(·exact hL _ rfl);(try rintro _ _ ⟨rfl,rfl⟩))|((with_reducible apply I8);(·exact hL _ rfl))|((with_reducible apply H8);refine st ?_;(with_reducible apply I5);(·exact rfl);refine st ?_;(with_reducible apply D7);(·exact hL _ rfl);(try rintro _ _ ⟨rfl,rfl⟩))|(with_reducible first|apply A5|apply A4)<;>intro _
  exact⟨i+1,(A++[W0 o2 n2 v2 m2 (ng l2 (xL a2))],false),rfl,rfl,rfl,by omega,by omega,hs,by simp⟩
 |none=>
  have hge:=D8.1 hx
  rw[x4 hge] at h5
  have hx':(Ex.mk op n v nm true (args.map (O4 φ))).av=eX op n v nm (if A.isEmpty then .nil else .sl A):=by rw[Ex.av_mk,A7T,<- h5]
  have hφ:∀os:List AO,os[0]?=some (.cells [.d y])->B5 Tryz.prog g [(Ex.mk op n v nm true (args.map (O4 φ))).av,.ptr 0 0] os (λr' os'=>r'=(φ (.mk op n v nm true (args.map (O4 φ)))).av/\os'=os.set 0 (.cells [.d y])):=λos ho=>D1o (id:=0) (hg _) (λf=>A7O f _) ho
  rw[<- h6] at hx'
  by_cases h2:op=2
  ·rw[if_pos h2] at hZ
   obtain⟨z,hz⟩:∃z,z=φ (.mk op n v nm true (args.map (O4 φ))):=⟨_,rfl⟩
   rw[<- hz] at hZ hφ
   rw[hx'] at hφ
   obtain⟨o2,n2,v2,m2,l2,a2⟩:=z
   simp only[Ex.av_mk] at hZ hφ
   rw[hZ]
   cases b with
   |true=>
    rw[if_pos rfl] at hφ
    repeat' first|refine st ?_|((with_reducible first|apply I0|apply D7);(·exact hφ _ rfl);(try rintro _ _ ⟨rfl,rfl⟩))|((with_reducible apply I8);(·exact hφ _ rfl))|((with_reducible apply H8);refine st ?_;(with_reducible apply I5);(·exact rfl);refine st ?_;(with_reducible apply D7);(·exact hφ _ rfl);(try rintro _ _ ⟨rfl,rfl⟩))|(with_reducible first|apply A5|apply A4)<;>intro _
    all_goals exact⟨rfl,rfl⟩
   |false=>
    rw[if_neg (by simp)] at hφ
    repeat' first|refine st ?_|((with_reducible first|apply I0|apply D7);(·exact hφ _ rfl);(try rintro _ _ ⟨rfl,rfl⟩))|((with_reducible apply I8);(·exact hφ _ rfl))|((with_reducible apply H8);refine st ?_;(with_reducible apply I5);(·exact rfl);refine st ?_;(with_reducible apply D7);(·exact hφ _ rfl);(try rintro _ _ ⟨rfl,rfl⟩))|(with_reducible first|apply A5|apply A4)<;>intro _
    all_goals exact⟨rfl,rfl⟩
  ·rw[if_neg h2,hx'] at hZ
   rw[hZ]
   cases b with
   |true=>
    repeat' first|refine st ?_|(with_reducible first|apply A5|apply A4)<;>intro _
    all_goals exact⟨rfl,rfl⟩
   |false=>
    repeat' first|refine st ?_|(with_reducible first|apply A5|apply A4)<;>intro _
    all_goals exact⟨rfl,rfl⟩
def l8(k:Int):Ex->Ex
 |.mk op n v nm nl args=>.mk op (w64 (n+k)) v nm nl args
def B9(k:Int)(e:Ex):Ex:=O4 (l8 k) e
theorem C0y(k:Int)(x:Ex):B5 Tryz.prog A73 [x.av,.ptr 0 0] [.cells [.d (eI k)]] (λr os=>r=(l8 k x).av/\os=[.cells [.d (eI k)]]):=by
 obtain⟨op,n,v,nm,nl,args⟩:=x
 rw[l8,Ex.av_mk,Ex.av_mk]
 refine C3p.goX A6 rfl ?_
 repeat' first|refine st ?_|(with_reducible first|apply A5|apply A4)<;>intro _
 all_goals exact⟨rfl,rfl⟩
theorem A4G(e:Ex)(he:e.bk<=1048576)(k:Int):Pure Tryz.prog B5H [e.av,.d (eI k)] (B9 k e).av:=by
 have hM:=B1I A73 (eI k) (l8 k) (C0y k) e he
 have hL:∀os:List AO,os[1]?=some (.cells [.d (eI k)])->B5 Tryz.prog A2U [e.av,.clo A73 [1]] os (λr' os'=>r'=(O4 (l8 k) e).av/\os'=os.set 1 (.cells [.d (eI k)])):=λos ho=>B0E (id:=1) hM (λf=>A7O f _) ho
 unfold B9
 obtain⟨z,hz⟩:∃z,z=O4 (l8 k) e:=⟨_,rfl⟩
 rw[<- hz] at hL ⊢
 obtain⟨o1,n1,v1,m1,l1,a1⟩:=e
 obtain⟨o2,n2,v2,m2,l2,a2⟩:=z
 simp only[Ex.av_mk] at hL ⊢
 refine C3o.go A6 rfl ?_
 repeat' first|refine st ?_|((with_reducible first|apply I0|apply D7);(·exact hL _ rfl);(try rintro _ _ ⟨rfl,rfl⟩))|((with_reducible apply I8);(·exact hL _ rfl))|((with_reducible apply H8);refine st ?_;(with_reducible apply I5);(·exact rfl);refine st ?_;(with_reducible apply D7);(·exact hL _ rfl);(try rintro _ _ ⟨rfl,rfl⟩))|(with_reducible first|apply A5|apply A4)<;>intro _
 all_goals rfl
theorem B9J(k op n:Int)(v:Vl)(nm:List UInt8)(nl:Bool)(args:List Ex):B9 k (.mk op n v nm nl args)=.mk op (if op=2 then w64 (n+k) else n) v nm true (args.map (B9 k)):=by
 unfold B9
 rw[A4g]
 by_cases h:op=2
 ·rw[if_pos h,if_pos h];rfl
 ·rw[if_neg h,if_neg h]
theorem C1A(k:Int):∀e:Ex,e.bk<=1048576->Pure Tryz.prog B5d [e.av,.d (eI k)] (B9 k e).av:=by
 refine Ex.ind λop n v nm nl args ih hb=>?_
 obtain⟨b1,b2,b3,b4⟩:=Ex.bk_bounds hb
 rw[B9J,Ex.av_mk]
 refine C2S.go A6 rfl ?_
 have h1:=I6 args
 have hm:=O7 args
 obtain⟨da,hda⟩:∃d,d=ng nl (xL args):=⟨_,rfl⟩
 have hsd:B8 da (xL args):=by rw[hda];exact p8
 rw[<- hda]
 have r0:v.k=v.k:=rfl
 have r1:v.s=v.s:=rfl
 have r2:nm=nm:=rfl
 obtain⟨n',hn'⟩:∃n',n'=(if op=2 then w64 (n+k) else n):=⟨_,rfl⟩
 rw[<- hn',Ex.av_mk,A7T]
 by_cases h2:op=2
 ·rw[if_pos h2] at hn'
  subst hn'
  repeat' first|refine st ?_|(with_reducible first|apply A5|apply A4)<;>intro _
  refine A2B 2 6 7 rfl rfl rfl ?_
  refine J1 A6 B4Q B4F (λ(i:Nat) (w:List (List D)×Bool)=>[.d (eI i)]) (λi w=>[.cells [.d (eI op),.d (eI n),.d (eI v.k),.d (eI v.n),.d (.str v.s),.d (.str nm),.d da],.cells [.d (eI 0),.d (eI 0),.d (eI 0),.d (eI 0),.d (.str []),.d (.str []),.d .nil],.cells [.d (eI op),.d (eI (w64 (n+k))),.d (eI v.k),.d (eI v.n),.d (.str v.s),.d (.str nm),.arr 3 w.1.length],.arr w.1 7 0 w.2]) (λi w=>i<=args.length/\w.1=Mt (B9 k) args i/\w.2=w.1.isEmpty) (λi _=>args.length-i) 0 ([],true) rfl rfl rfl rfl (λ_ _ _=>⟨rfl,rfl⟩) rfl ⟨by omega,rfl,rfl⟩ ?_
  repeat' first|refine st ?_|(with_reducible first|apply A5|apply A4)<;>intro _
  intro i w ⟨h4,h5,h6⟩
  obtain⟨A,b⟩:=w
  dsimp only at h5 h6 ⊢
  have hAl:A.length=i:=by rw[h5];exact x5 _ args i (by omega)
  have hAm:∀e∈A,e.length=7:=by rw[h5];exact x6 _ _ _
  cases hx:args[i]? with
  |some x=>
   have hlt:=(B3.1 hx).1
   have hs:=x7 (φ:=B9 k) hx
   have hg:=r8 hx
   have hi:=ih x (C4 hx) (b4 x (C4 hx))
   rw[<- h5] at hs
   obtain⟨z,hz⟩:∃z,z=B9 k x:=⟨_,rfl⟩
   rw[<- hz] at hs hi
   obtain⟨o1,n1,v1,m1,l1,a1⟩:=x
   obtain⟨o2,n2,v2,m2,l2,a2⟩:=z
   rw[Ex.ds_mk] at hg hs
   rw[Ex.av_mk,Ex.av_mk] at hi
   repeat' first|refine st ?_|((with_reducible first|apply A8|apply A7);(·exact hi))|(with_reducible first|apply A5|apply A4)<;>intro _
   exact⟨i+1,(A++[W0 o2 n2 v2 m2 (ng l2 (xL a2))],false),rfl,rfl,rfl,by omega,by omega,hs,by simp⟩
  |none=>
   have hge:=D8.1 hx
   rw[x4 hge] at h5
   rw[<- h5,<- h6]
   cases b with
   |true=>
    rw[if_pos rfl]
    repeat' first|refine st ?_|(with_reducible first|apply A5|apply A4)<;>intro _
    all_goals rfl
   |false=>
    rw[if_neg (by simp)]
    repeat' first|refine st ?_|(with_reducible first|apply A5|apply A4)<;>intro _
    all_goals rfl
 ·rw[if_neg h2] at hn'
  rw[hn']
  repeat' first|refine st ?_|(with_reducible first|apply A5|apply A4)<;>intro _
  refine A2B 2 6 7 rfl rfl rfl ?_
  refine J1 A6 B4Q B4F (λ(i:Nat) (w:List (List D)×Bool)=>[.d (eI i)]) (λi w=>[.cells [.d (eI op),.d (eI n),.d (eI v.k),.d (eI v.n),.d (.str v.s),.d (.str nm),.d da],.cells [.d (eI 0),.d (eI 0),.d (eI 0),.d (eI 0),.d (.str []),.d (.str []),.d .nil],.cells [.d (eI op),.d (eI n),.d (eI v.k),.d (eI v.n),.d (.str v.s),.d (.str nm),.arr 3 w.1.length],.arr w.1 7 0 w.2]) (λi w=>i<=args.length/\w.1=Mt (B9 k) args i/\w.2=w.1.isEmpty) (λi _=>args.length-i) 0 ([],true) rfl rfl rfl rfl (λ_ _ _=>⟨rfl,rfl⟩) rfl ⟨by omega,rfl,rfl⟩ ?_
  repeat' first|refine st ?_|(with_reducible first|apply A5|apply A4)<;>intro _
  intro i w ⟨h4,h5,h6⟩
  obtain⟨A,b⟩:=w
  dsimp only at h5 h6 ⊢
  have hAl:A.length=i:=by rw[h5];exact x5 _ args i (by omega)
  have hAm:∀e∈A,e.length=7:=by rw[h5];exact x6 _ _ _
  cases hx:args[i]? with
  |some x=>
   have hlt:=(B3.1 hx).1
   have hs:=x7 (φ:=B9 k) hx
   have hg:=r8 hx
   have hi:=ih x (C4 hx) (b4 x (C4 hx))
   rw[<- h5] at hs
   obtain⟨z,hz⟩:∃z,z=B9 k x:=⟨_,rfl⟩
   rw[<- hz] at hs hi
   obtain⟨o1,n1,v1,m1,l1,a1⟩:=x
   obtain⟨o2,n2,v2,m2,l2,a2⟩:=z
   rw[Ex.ds_mk] at hg hs
   rw[Ex.av_mk,Ex.av_mk] at hi
   repeat' first|refine st ?_|((with_reducible first|apply A8|apply A7);(·exact hi))|(with_reducible first|apply A5|apply A4)<;>intro _
   exact⟨i+1,(A++[W0 o2 n2 v2 m2 (ng l2 (xL a2))],false),rfl,rfl,rfl,by omega,by omega,hs,by simp⟩
  |none=>
   have hge:=D8.1 hx
   rw[x4 hge] at h5
   rw[<- h5,<- h6]
   cases b with
   |true=>
    rw[if_pos rfl]
    repeat' first|refine st ?_|(with_reducible first|apply A5|apply A4)<;>intro _
    all_goals rfl
   |false=>
    rw[if_neg (by simp)]
    repeat' first|refine st ?_|(with_reducible first|apply A5|apply A4)<;>intro _
    all_goals rfl
end Go.Proofs
end
section
namespace Go.Bi
theorem A0l{f:Nat->Nat}{k:Nat}(hf:∀i,i<k->f i=i){c:AV}(h:c.bnd1 k):mC f c=c:=by
 cases c with
 |ptr id off=>simp only[mC];rw[hf id h]
 |aptr id len i off=>simp only[mC];rw[hf id h]
 |arr id len=>simp only[mC];rw[hf id h]
 |clo g caps=>
  simp only[mC]
  congr 1
  conv=>rhs;rw[<- w9 caps]
  exact T5 λi hi=>hf i (h i hi)
 |iter id=>simp only[mC];rw[hf id h]
 |mp id=>simp only[mC];rw[hf id h]
 |mit id=>simp only[mC];rw[hf id h]
 |rs id len=>simp only[mC];rw[hf id h]
 |rp id len i off=>simp only[mC];rw[hf id h]
 |_=>rfl
theorem B8u{f:Nat->Nat}{k:Nat}(hf:∀i,i<k->f i=i){c:AV}(h:c.bnd2 k):mG f c=c:=by
 cases c with
 |agg cs=>
  simp only[mG]
  congr 1
  conv=>rhs;rw[<- w9 cs]
  exact T5 λc hc=>A0l hf (h c hc)
 |ptr id off=>exact A0l (c:=.ptr id off) hf h
 |aptr id len i off=>exact A0l (c:=.aptr id len i off) hf h
 |arr id len=>exact A0l (c:=.arr id len) hf h
 |clo g caps=>exact A0l (c:=.clo g caps) hf h
 |iter id=>exact A0l (c:=.iter id) hf h
 |mp id=>exact A0l (c:=.mp id) hf h
 |mit id=>exact A0l (c:=.mit id) hf h
 |rs id len=>exact A0l (c:=.rs id len) hf h
 |rp id len i off=>exact A0l (c:=.rp id len i off) hf h
 |_=>rfl
theorem B8v{f:Nat->Nat}{k:Nat}(hf:∀i,i<k->f i=i){o:AO}(h:o.bnd k):mO f o=o:=by
 cases o with
 |cells cs=>
  simp only[mO]
  congr 1
  conv=>rhs;rw[<- w9 cs]
  exact T5 λc hc=>A0l hf (h c hc)
 |map kvs=>
  simp only[mO]
  congr 1
  conv=>rhs;rw[<- w9 kvs]
  exact T5 λp hp=>by rw[B8u hf (h p hp)];rfl
 |mit m n s=>simp only[mO];rw[hf m h]
 |rarr es sz nl=>
  simp only[mO]
  congr 1
  conv=>rhs;rw[<- w9 es]
  refine T5 λe he=>?_
  conv=>rhs;rw[id,<- w9 e]
  exact T5 λc hc=>A0l hf (h e he c hc)
 |_=>rfl
theorem B5.pre{P:Program}{g:FuncId}{args:List AV}{bs:List AO}{Q:AV->List AO->Prop}(h:B5 P g args bs Q)(rest:List AO)(hba:∀a∈args,a.bnd2 bs.length)(hbo:∀o∈bs,o.bnd bs.length){K:AV->List AO->Prop}
  (hk:∀r bs',Q r bs'->bs'.length=bs.length/\(∀o∈bs',o.bnd bs.length)/\(∀f,mA f r=r)/\K r (bs'++rest)):B5 P g args (bs++rest) K:=by
 have hf:∀n i,i<bs.length->rn (List.range bs.length) n i=i:=λn i hi=>by
  rw[B12 (by simpa using hi),E7]
  simp[hi]
 have:=B5.frame (K:=K) h (List.range bs.length) (bs++rest) (by simp) List.nodup_range (λi o hx=>?_) hba hbo (λr bs' hq=>?_)
 ·have e:args.map (mG (rn (List.range bs.length) (bs++rest).length))=args:=by
   conv=>rhs;rw[<- w9 args]
   exact T5 λa ha=>B8u (hf _) (hba a ha)
  rwa [e] at this
 ·have hi:=(B3.1 hx).1
  have e:=hf (bs++rest).length i hi
  rw[B12 (by simpa using hi)] at e
  rw[e,J7 hi,hx,B8v (hf _) (hbo o (C4 hx))]
 ·obtain⟨h1,h2,h3,h4⟩:=hk r bs' hq
  rw[h3]
  obtain⟨g1,g2,g3,g4⟩:=B0W (rn (List.range bs.length) (bs++rest).length) (List.range bs.length) bs' (bs++rest) List.nodup_range (λs hs=>by simp at hs ⊢;omega) (by simp[h1])
  have e:S9 (rn (List.range bs.length) (bs++rest).length) (List.range bs.length) bs' (bs++rest)=bs'++rest:=by
   refine A2H λj=>?_
   rcases Nat.lt_or_ge j bs.length with hj|hj
   ·have hb:bs'[j]?=some bs'[j]:=C8 (by omega)
    rw[g1 j j _ (by simp[hj]) hb,J7 (by omega),hb,B8v (hf _) (h2 _ (C4 hb))]
   ·rcases Nat.lt_or_ge j (bs++rest).length with hj2|hj2
    ·rw[g2 j hj2 (by simp;omega),P5 hj,P5 (by omega),h1]
    ·rw[A04 (by rw[g4];simp at hj2 ⊢;omega),A04 (by simp at hj2 ⊢;omega)]
  rw[e]
  exact h4
end Go.Bi
namespace Go.Proofs
open Go.Bi
end Go.Proofs
end
section
namespace Go.Proofs
open Go.Bi
theorem D0l:Bi.Enters Tryz.prog A9t:=⟨_,Tryz.func160,by kernel_rfl,by decide⟩
theorem D0k:Bi.Enters Tryz.prog A9r:=⟨_,Tryz.func161,by kernel_rfl,by decide⟩
def R2(zs:List Int):List Int:=zs.mergeSort λx y=>decide (x<=y)
theorem B9N(zs:List Int):(R2 zs).length=zs.length:=by simp[R2]
def B72(zs:List Int):List Int:=Lib.compact zs++List.replicate (zs.length-(Lib.compact zs).length) 0
theorem B6H(n:Nat)(es:List (List D))(sz frz:Nat)(nl:Bool):(AO.arr es sz frz nl).bnd n:=by simp[AO.bnd]
theorem C2g(zs:List Int)(nl:Bool)(hz:zs.length<4611686018427387904){os:List AO}{id:Nat}(ho:os[id]?=some (.arr (A0 zs) 1 0 nl)) :
  B5 Tryz.prog A9t [.arr id (A0 zs).length] os (λr os'=>r=.tup []/\os'=os.set id (.arr (A0 (R2 zs)) 1 0 nl)):=
 B8l (λid=>[.arr id (A0 zs).length]) (D3c Tryz.lays189 D0l zs nl hz) (λ_=>rfl) (λ_=>rfl) (λ_=>rfl) (λ_ _=>rfl) (by simp[AV.bnd2,AV.bnd1]) (B6H ..) ho
theorem C2e(zs:List Int)(nl:Bool)(hz:zs.length<=9223372036854775807){os:List AO}{id:Nat}(ho:os[id]?=some (.arr (A0 zs) 1 0 nl)) :
  B5 Tryz.prog A9r [.arr id (A0 zs).length] os (λr os'=>r=.d (if nl then .nil else .sl (A0 (Lib.compact zs)))/\os'=os.set id (.arr (A0 (B72 zs)) 1 (if nl then 0 else (Lib.compact zs).length) nl)):=
 B8l (λid=>[.arr id (A0 zs).length]) (C9Q Tryz.laysNm220 D0k zs nl hz) (λ_=>rfl) (λ_=>rfl) (λ_=>rfl) (λ_ _=>rfl) (by simp[AV.bnd2,AV.bnd1]) (B6H ..) ho
mutual
def K6:Ex->List Int
 |.mk op n v nm nl args=>(if op=2 then [n] else [])++A64 args
def A64:List Ex->List Int
 |[]=>[]
 |a::l=>K6 a++A64 l
end
theorem B9j:∀l,A64 l=l.flatMap K6
 |[]=>by simp[A64]
 |a::l=>by simp[A64,B9j l]
theorem A3e(op n:Int)(v:Vl)(nm:List UInt8)(nl:Bool)(args:List Ex):K6 (.mk op n v nm nl args)=(if op=2 then [n] else [])++args.flatMap K6:=by rw[K6,B9j]
theorem B7K{l:List Ex}{f:Ex->List Int}(h:∀a∈l,(f a).length<=a.bk):(l.flatMap f).length<=G6 (xL l):=by
 induction l with
 |nil=>simp
 |cons a l ih=>
  have h1:=h a (by simp)
  have h2:=ih λb hb=>h b (by simp[hb])
  rw[A1y,K4]
  simp only[xL,Q3,G6]
  unfold Ex.bk at h1
  unfold xL at h2
  omega
theorem A80:∀e:Ex,(K6 e).length<=e.bk:=by
 refine Ex.ind λop n v nm nl args ih=>?_
 have hb:=Ex.bk_mk op n v nm nl args
 have:=B7K ih
 rw[A3e,K4]
 split<;>simp only[I7,P9]<;>omega
def own(op n:Int):List Int:=if op=2 then [n] else []
theorem D0g(a b:List Int):A0 (a++b)=A0 a++A0 b:=by simp[A0]
theorem C0v(op n:Int)(v:Vl)(nm:List UInt8)(d:D)(zs:List Int)(hz:zs.length<=4194304) :
  B5 Tryz.prog A3J [eX op n v nm d,.ptr 0 0] [.cells [.arr 1 (A0 zs).length],.arr (A0 zs) 1 0 (A0 zs).isEmpty] (λr os=>r=.tup []/\os=[.cells [.arr 1 (A0 (zs++own op n)).length],.arr (A0 (zs++own op n)) 1 0 (A0 (zs++own op n)).isEmpty]):=by
 obtain⟨b,hb⟩:∃b,b=(A0 zs).isEmpty:=⟨_,rfl⟩
 rw[<- hb]
 have hl:=B7 zs
 unfold own
 by_cases h:op=2
 ·rw[if_pos h,D0g]
  have e1:(A0 zs++A0 [n]).isEmpty=false:=by simp[A0]
  rw[e1]
  refine B2d.goX A6 rfl ?_
  repeat' first|refine st ?_|(with_reducible first|apply A5|apply A4)<;>intro _
  all_goals exact⟨rfl,by simp[A0]⟩
 ·rw[if_neg h,A1w,<- hb]
  refine B2d.goX A6 rfl ?_
  repeat' first|refine st ?_|(with_reducible first|apply A5|apply A4)<;>intro _
  all_goals exact⟨rfl,rfl⟩
theorem A5O{α:Type}{x a b:α}(h:x∈[a,b]):x=a\/x=b:=by simpa using h
theorem B9e{g:FuncId}{ds:List D}{a:AV}(ha:a.bnd2 2){zs ys:List Int}(h:B5 Tryz.prog g [.agg (ds.map .d),a] [.cells [.arr 1 (A0 zs).length],.arr (A0 zs) 1 0 (A0 zs).isEmpty] (λr os=>r=.tup []/\os=[.cells [.arr 1 (A0 ys).length],.arr (A0 ys) 1 0 (A0 ys).isEmpty]))(rest:List AO) :
  B5 Tryz.prog g [.agg (ds.map .d),a] ([.cells [.arr 1 (A0 zs).length],.arr (A0 zs) 1 0 (A0 zs).isEmpty]++rest) (λr os=>r=.tup []/\os=[.cells [.arr 1 (A0 ys).length],.arr (A0 ys) 1 0 (A0 ys).isEmpty]++rest):=by
 refine B5.pre h rest (λx hx=>?_) (λo ho=>?_) ?_
 ·rcases A5O hx with rfl|rfl
  ·exact A9N _ _
  ·exact ha
 ·rcases A5O ho with rfl|rfl<;>simp[AO.bnd,AV.bnd1]
 ·rintro r bs' ⟨rfl,rfl⟩
  refine⟨rfl,λo ho=>?_,λf=>rfl,rfl,rfl⟩
  rcases A5O ho with rfl|rfl<;>simp[AO.bnd,AV.bnd1]
theorem D2I{l:List Ex}{i:Nat}{x:Ex}(h:l[i]?=some x):(l.take (i+1)).flatMap K6=(l.take i).flatMap K6++K6 x:=by
 rw[Q9,h];simp
theorem D2H(l:List Ex)(i:Nat):((l.take i).flatMap K6).length<=G6 (xL l):=by
 have h1:((l.take i).flatMap K6).length<=(l.flatMap K6).length:=by
  conv=>rhs;rw[<- List.take_append_drop i l,List.flatMap_append,K4]
  omega
 have h2:=B7K (l:=l) (f:=K6) (λa _=>A80 a)
 omega
theorem B9k:∀{l:List Ex}{i:Nat}{x:Ex},l[i]?=some x->((l.take i).flatMap K6).length+x.bk<=G6 (xL l)
 |[],i,x,h=>by simp at h
 |a::l,0,x,h=>by
  simp at h
  subst h
  simp only[xL,Q3,G6,List.take_zero,List.flatMap_nil,P9]
  unfold Ex.bk
  omega
 |a::l,i+1,x,h=>by
  have:=B9k (l:=l) (i:=i) (x:=x) (by simpa using h)
  have h1:=A80 a
  rw[A2Q,A1y,K4]
  simp only[xL,Q3,G6]
  unfold Ex.bk at *
  unfold xL at this
  omega
theorem C2v:∀e:Ex,e.bk<=1048576->∀zs:List Int,zs.length+e.bk<=2097152->B5 Tryz.prog A76 [e.av,.clo A3J [0]] [.cells [.arr 1 (A0 zs).length],.arr (A0 zs) 1 0 (A0 zs).isEmpty] (λr os=>r=.tup []/\os=[.cells [.arr 1 (A0 (zs++K6 e)).length],.arr (A0 (zs++K6 e)) 1 0 (A0 (zs++K6 e)).isEmpty]):=by
 refine Ex.ind λop n v nm nl args ih hb zs hz=>?_
 obtain⟨b1,b2,b3,b4⟩:=Ex.bk_bounds hb
 have hbm:=Ex.bk_mk op n v nm nl args
 have hC1:∀rest,B5 Tryz.prog A3J [eX op n v nm (ng nl (xL args)),.ptr 0 0] ([.cells [.arr 1 (A0 zs).length],.arr (A0 zs) 1 0 (A0 zs).isEmpty]++rest) (λr os=>r=.tup []/\os=[.cells [.arr 1 (A0 (zs++own op n)).length],.arr (A0 (zs++own op n)) 1 0 (A0 (zs++own op n)).isEmpty]++rest):=λrest=>
  B9e (ds:=W0 op n v nm (ng nl (xL args))) (by simp[AV.bnd2,AV.bnd1]) (C0v op n v nm _ zs (by omega)) rest
 rw[A3e,<- own,<- List.append_assoc,Ex.av_mk]
 obtain⟨z1,hz1⟩:∃z,z=zs++own op n:=⟨_,rfl⟩
 have hz1l:z1.length<=zs.length+1:=by
  rw[hz1,K4]
  unfold own
  split<;>simp
 rw[<- hz1] at hC1 ⊢
 have h1:=I6 args
 have hm:=O7 args
 obtain⟨da,hda⟩:∃d,d=ng nl (xL args):=⟨_,rfl⟩
 have hsd:B8 da (xL args):=by rw[hda];exact p8
 rw[<- hda] at hC1 ⊢
 have r0:v.k=v.k:=rfl
 have r1:v.s=v.s:=rfl
 have r2:nm=nm:=rfl
 refine C3z.goX A6 rfl ?_
 obtain⟨e0,he0⟩:∃b,b=(A0 zs).isEmpty:=⟨_,rfl⟩
 rw[<- he0] at hC1 ⊢
 repeat' first|refine st ?_|((with_reducible first|apply I0|apply D7);(·exact hC1 _);(try rintro _ _ ⟨rfl,rfl⟩))|((with_reducible apply I8);(·exact hC1 _))|((with_reducible apply H8);refine st ?_;(with_reducible apply I5);(·exact rfl);refine st ?_;(with_reducible apply D7);(·exact hC1 _);(try rintro _ _ ⟨rfl,rfl⟩))|(with_reducible first|apply A5|apply A4)<;>intro _
 refine F7 A6 C66 C5c (λ(i:Nat)=>[.d (eI i)]) (λi=>[.cells [.arr 1 (A0 (z1++(args.take i).flatMap K6)).length],.arr (A0 (z1++(args.take i).flatMap K6)) 1 0 (A0 (z1++(args.take i).flatMap K6)).isEmpty]++[.cells [.d (eI op),.d (eI n),.d (eI v.k),.d (eI v.n),.d (.str v.s),.d (.str nm),.d da]]) (λi=>i<=args.length) (λi=>args.length-i) 0 rfl rfl rfl (by simp) (λ_ _=>⟨rfl,rfl⟩) rfl (T6 _) ?_
 repeat' first|refine st ?_|(with_reducible first|apply A5|apply A4)<;>intro _
 intro i h4
 have hrl:=D2H args i
 cases hx:args[i]? with
 |some x=>
  have hlt:=(B3.1 hx).1
  have hgx:=r8 hx
  have hxm:=C4 hx
  have hxb:E4 x.ds<=G6 (xL args):=A1I (F1.2 ⟨x,hxm,rfl⟩)
  have hxk:=Ex.bk_arg (op:=op) (n:=n) (v:=v) (name:=nm) (nl:=nl) hxm
  have hs:=D2I hx
  obtain⟨t,ht⟩:∃t,t=z1++(args.take i).flatMap K6:=⟨_,rfl⟩
  have hi:=ih x hxm (b4 x hxm) t (by
   have h0:=B9k hx
   rw[ht,K4]
   omega)
  have hn:z1++(args.take (i+1)).flatMap K6=t++K6 x:=by rw[hs,ht,List.append_assoc]
  rw[<- hn] at hi
  rw[<- ht]
  have hL:=λrest=>B9e (ds:=x.ds) (by simp[AV.bnd2,AV.bnd1]) hi rest
  obtain⟨e1,he1⟩:∃b,b=(A0 t).isEmpty:=⟨_,rfl⟩
  rw[<- he1] at hL ⊢
  obtain⟨o1,n1,v1,m1,l1,a1⟩:=x
  rw[Ex.ds_mk] at hgx hL
  repeat' first|refine st ?_|((with_reducible first|apply I0|apply D7);(·exact hL _);(try rintro _ _ ⟨rfl,rfl⟩))|((with_reducible apply I8);(·exact hL _))|((with_reducible apply H8);refine st ?_;(with_reducible apply I5);(·exact rfl);refine st ?_;(with_reducible apply D7);(·exact hL _);(try rintro _ _ ⟨rfl,rfl⟩))|(with_reducible first|apply A5|apply A4)<;>intro _
  exact⟨i+1,rfl,rfl,rfl,by omega,by omega⟩
 |none=>
  have hge:=D8.1 hx
  rw[M7 hge]
  repeat' first|refine st ?_|(with_reducible first|apply A5|apply A4)<;>intro _
  all_goals exact⟨rfl,rfl⟩
end Go.Proofs
end
section
namespace Go.Proofs
open Go.Bi
def i7(l:List Int):Prop:=l.Pairwise (·<·)
theorem B6A:∀{l m:List Int},i7 l->i7 m->(∀x,x∈l↔x∈m)->l=m
 |[],[],_,_,_=>rfl
 |[],b::m,_,_,h=>by have:=(h b).2 (by simp);simp at this
 |a::l,[],_,_,h=>by have:=(h a).1 (by simp);simp at this
 |a::l,b::m,h1,h2,h=>by
  have g1:=A2b.1 h1
  have g2:=A2b.1 h2
  have hab:a=b:=by
   have ha:=(h a).1 (by simp)
   have hb:=(h b).2 (by simp)
   rcases I9.1 ha with e|ha
   ·exact e
   ·rcases I9.1 hb with e|hb
    ·exact e.symm
    ·have q1:=g1.1 b hb
     have q2:=g2.1 a ha
     omega
  subst hab
  congr 1
  refine B6A g1.2 g2.2 λx=>⟨λhx=>?_,λhx=>?_⟩
  ·have q:=g1.1 x hx
   rcases I9.1 ((h x).1 (I2 _ hx)) with e|hx'
   ·omega
   ·exact hx'
  ·have q:=g2.1 x hx
   rcases I9.1 ((h x).2 (I2 _ hx)) with e|hx'
   ·omega
   ·exact hx'
theorem B76(d:Array Int)(hs:∀i j:Nat,i<=j->j<d.size->d[i]!<=d[j]!):∀m,m<=d.size->i7 (Lib.compactUpTo d m)/\∀x,x∈Lib.compactUpTo d m↔∃j,j<m/\d[j]! = x
 |0,_=>by
  refine⟨by simp[Lib.compactUpTo,i7],λx=>?_⟩
  simp[Lib.compactUpTo]
 |m+1,hm=>by
  obtain⟨h1,h2⟩:=B76 d hs m (by omega)
  rw[Lib.compactUpTo_succ]
  cases hk:Lib.keeps d m with
  |true=>
   rw[if_pos rfl]
   have hk':m=0\/d[m]!≠d[m-1]!:=of_decide_eq_true hk
   constructor
   ·refine List.pairwise_append.2 ⟨h1,by simp,λx hx y hy=>?_⟩
    simp at hy
    subst hy
    obtain⟨j,hj,rfl⟩:=(h2 x).1 hx
    have q1:=hs j (m-1) (by omega) (by omega)
    have q2:=hs (m-1) m (by omega) (by omega)
    rcases hk' with h0|hne
    ·omega
    ·omega
   ·intro x
    rw[R9,h2]
    constructor
    ·rintro(⟨j,hj,e⟩|hx)
     ·exact⟨j,by omega,e⟩
     ·simp at hx;exact⟨m,by omega,hx.symm⟩
    ·rintro⟨j,hj,e⟩
     rcases Nat.lt_succ_iff_lt_or_eq.1 hj with h|rfl
     ·exact .inl ⟨j,h,e⟩
     ·exact .inr (by simp[e])
  |false=>
   rw[if_neg (by decide),A1w]
   have hk':¬(m=0\/d[m]!≠d[m-1]!):=of_decide_eq_false hk
   refine⟨h1,λx=>?_⟩
   rw[h2]
   constructor
   ·rintro⟨j,hj,e⟩;exact⟨j,by omega,e⟩
   ·rintro⟨j,hj,e⟩
    rcases Nat.lt_succ_iff_lt_or_eq.1 hj with h|rfl
    ·exact⟨j,h,e⟩
    ·have q1:¬j=0:=λe=>hk' (.inl e)
     have q2:d[j]! = d[j-1]!:=Classical.byContradiction λe=>hk' (.inr e)
     exact⟨j-1,by omega,by rw[<- q2];exact e⟩
theorem B78(zs:List Int):i7 (Lib.compact (R2 zs))/\∀x,x∈Lib.compact (R2 zs)↔x∈zs:=by
 have hp:(R2 zs).Pairwise λa b=>a<=b:=by
  have:=List.pairwise_mergeSort (le:=λx y:Int=>decide (x<=y)) (by intro a b c h1 h2;simp at *;omega) (by intro a b;simp;omega) zs
  refine this.imp λh=>?_
  simpa using h
 have hsz:(R2 zs).toArray.size=(R2 zs).length:=by simp
 have hget:∀i,i<(R2 zs).length->(R2 zs).toArray[i]! = (R2 zs).getD i 0:=by
  intro i hi
  rw[getElem!_pos _ i (by simpa using hi),E7,C8 hi]
  simp
 have hs:∀i j:Nat,i<=j->j<(R2 zs).toArray.size->(R2 zs).toArray[i]!<=(R2 zs).toArray[j]!:=by
  intro i j hij hj
  rw[hsz] at hj
  rw[hget i (by omega),hget j hj]
  rcases Nat.lt_or_ge i j with h|h
  ·have:=List.pairwise_iff_getElem.1 hp i j (by omega) hj h
   rw[E7,E7,C8 (show i<_ by omega),C8 hj]
   exact this
  ·obtain rfl:i=j:=by omega
   exact Int.le_refl _
 obtain⟨h1,h2⟩:=B76 (R2 zs).toArray hs (R2 zs).length (by simp)
 refine⟨h1,λx=>?_⟩
 unfold Lib.compact
 rw[h2]
 have hmem:x∈R2 zs↔x∈zs:=by unfold R2;exact List.mem_mergeSort
 rw[<- hmem,A1A]
 constructor
 ·rintro⟨j,hj,e⟩
  refine⟨j,?_⟩
  rw[hget j hj,E7,C8 hj] at e
  rw[C8 hj]
  exact congrArg some e
 ·rintro⟨j,e⟩
  have hj:=(B3.1 e).1
  refine⟨j,hj,?_⟩
  rw[hget j hj,E7,e];rfl
def N5(e:Ex):List Int:=Lib.compact (R2 (K6 e))
def A3V(e:Ex):D:=if (A0 (K6 e)).isEmpty then .nil else .sl (A0 (N5 e))
theorem C9N(e:Ex):i7 (N5 e):=(B78 (K6 e)).1
theorem A7p(e:Ex)(x:Int):x∈N5 e↔x∈K6 e:=(B78 (K6 e)).2 x
theorem A3W(e:Ex):(N5 e).length<=e.bk:=by
 have h1:=B77 (R2 (K6 e))
 have h2:=B9N (K6 e)
 have h3:=A80 e
 unfold N5
 omega
theorem C9M(e:Ex):B8 (A3V e) (A0 (N5 e)):=by
 unfold A3V
 split
 ·rename_i h
  have:K6 e=[]:=by
   cases hx:K6 e with
   |nil=>rfl
   |cons a l=>rw[hx] at h;cases h
  refine .inl ⟨rfl,?_⟩
  have hc:N5 e=[]:=by
   rw[List.eq_nil_iff_forall_not_mem]
   intro x hx
   rw[A7p,this] at hx
   cases hx
  rw[hc];rfl
 ·exact .inr rfl
theorem C1j(e:Ex)(he:e.bk<=1048576):Pure Tryz.prog B5F [e.av] (.d (A3V e)):=by
 have hv:=C2v e he [] (by simp;omega)
 rw[A1B] at hv
 have hrl:=A80 e
 unfold A3V N5
 obtain⟨zs,hzs⟩:∃z,z=K6 e:=⟨_,rfl⟩
 rw[<- hzs] at hv hrl ⊢
 have hb:∀ds:List D,B5 Tryz.prog A76 [.agg (ds.map .d),.clo A3J [0]] [.cells [.arr 1 0],.arr [] 1 0 true] (λr os=>r=.tup []/\os=[.cells [.arr 1 (A0 zs).length],.arr (A0 zs) 1 0 (A0 zs).isEmpty])->∀E:List AV,B5 Tryz.prog A76 [.agg (ds.map .d),.clo A3J [1]] [.cells E,.cells [.d .nil]] (λr os=>r=.tup []/\os=[.cells E,.cells [.arr 2 (A0 zs).length],.arr (A0 zs) 1 0 (A0 zs).isEmpty]):=by
  intro ds hE E
  refine B5.nilc 1 0 1 rfl (cs:=[.d .nil]) rfl rfl ?_
  have:=B5.frame (K:=λr os=>r=.tup []/\os=[.cells E,.cells [.arr 2 (A0 zs).length],.arr (A0 zs) 1 0 (A0 zs).isEmpty]) hE [1,2] [.cells E,.cells [.arr 2 0],.arr [] 1 0 true] rfl (by decide) (λi o h=>by
   match i,h with
   |0,h=>cases h;rfl
   |1,h=>cases h;rfl
   |i+2,h=>simp at h) (λa ha=>by
    rcases A5O ha with rfl|rfl
    ·exact A9N _ _
    ·simp[AV.bnd2,AV.bnd1]) (λo ho=>by
    rcases A5O ho with rfl|rfl<;>simp[AO.bnd,AV.bnd1]) (by rintro r bs' ⟨rfl,rfl⟩;exact⟨rfl,rfl⟩)
  rw[Q3,Q3,List.map_nil,B8t] at this
  exact this
 have hB:=hb e.ds hv
 obtain⟨op,n,v,nm,nl,args⟩:=e
 rw[Ex.ds_mk] at hB
 rw[Ex.av_mk]
 obtain⟨b,hbb⟩:∃b,b=(A0 zs).isEmpty:=⟨_,rfl⟩
 rw[<- hbb] at hB ⊢
 have s1:∀(os:List AO) (id:Nat),os[id]?=some (.arr (A0 zs) 1 0 b)->B5 Tryz.prog A9t [.arr id (A0 zs).length] os (λr os'=>r=.tup []/\os'=os.set id (.arr (A0 (R2 zs)) 1 0 b)):=λos id ho=>C2g zs b (by omega) ho
 have hsl:=B9N zs
 have hle:(A0 zs).length=(A0 (R2 zs)).length:=by rw[B7,B7,hsl]
 have s2:∀(os:List AO) (id:Nat),os[id]?=some (.arr (A0 (R2 zs)) 1 0 b)->B5 Tryz.prog A9r [.arr id (A0 zs).length] os (λr os'=>r=.d (if b then .nil else .sl (A0 (Lib.compact (R2 zs))))/\os'=os.set id (.arr (A0 (B72 (R2 zs))) 1 (if b then 0 else (Lib.compact (R2 zs)).length) b)):=λos id ho=>by rw[hle];exact C2e (R2 zs) b (by omega) ho
 refine C3m.go A6 rfl ?_
 cases b with
 |true=>
  repeat' first|(with_reducible apply H8)|refine st ?_|((with_reducible first|apply I0|apply D7);(·first|exact hB _|exact s1 _ _ rfl|exact s2 _ _ rfl);(try rintro _ _ ⟨rfl,rfl⟩))|((with_reducible apply I8);(·first|exact hB _|exact s1 _ _ rfl|exact s2 _ _ rfl))|((with_reducible apply H8);refine st ?_;(with_reducible apply I5);(·exact rfl);refine st ?_;(with_reducible apply D7);(·first|exact hB _|exact s1 _ _ rfl|exact s2 _ _ rfl);(try rintro _ _ ⟨rfl,rfl⟩))|(with_reducible first|apply A5|apply A4)<;>intro _
  all_goals rfl
 |false=>
  repeat' first|(with_reducible apply H8)|refine st ?_|((with_reducible first|apply I0|apply D7);(·first|exact hB _|exact s1 _ _ rfl|exact s2 _ _ rfl);(try rintro _ _ ⟨rfl,rfl⟩))|((with_reducible apply I8);(·first|exact hB _|exact s1 _ _ rfl|exact s2 _ _ rfl))|((with_reducible apply H8);refine st ?_;(with_reducible apply I5);(·exact rfl);refine st ?_;(with_reducible apply D7);(·first|exact hB _|exact s1 _ _ rfl|exact s2 _ _ rfl);(try rintro _ _ ⟨rfl,rfl⟩))|(with_reducible first|apply A5|apply A4)<;>intro _
  all_goals rfl
end Go.Proofs
end
section
namespace Go.Proofs
open Go.Bi
def A18(kvs:List (D×AV))(c:Int):Int:=match J2 .i (eI c) kvs with
 |some (.d (.int _ n))=>n
 |_=>0
def Q1(kvs:List (D×AV))(c:Int):List (D×AV):=K5 .i (eI c) (.d (eI (A18 kvs c+1))) kvs
structure Q8(l:List Int)(kvs:List (D×AV)):Prop where
 ks:∀p∈kvs,∃t n,p=(eI t,.d (eI n))
 ct:∀c,A18 kvs c=(l.count c:Nat)
theorem Q8.nil:Q8 [] []:=⟨λp hp=>by simp at hp,λc=>by simp[A18,J2]⟩
theorem Q8.str{l:List Int}{kvs:List (D×AV)}(h:Q8 l kvs):∀p∈kvs,∃t,p.1=eI t:=λp hp=>by
 obtain⟨t,n,rfl⟩:=h.ks p hp;exact⟨t,rfl⟩
theorem Q8.lk{l:List Int}{kvs:List (D×AV)}(h:Q8 l kvs)(c:Int):lkR false (zv false [.int .i64 0]) (J2 .i (eI c) kvs)=.d (eI (l.count c:Nat)):=by
 rw[<- h.ct c]
 unfold A18
 have key:∀{kvs:List (D×AV)},(∀p∈kvs,∃t n,p=(eI t,.d (eI n)))->J2 .i (eI c) kvs=none\/∃n,J2 .i (eI c) kvs=some (.d (eI n)):=by
  intro kvs
  induction kvs with
  |nil=>intro _;exact .inl rfl
  |cons q kvs ih=>
   intro hk
   unfold J2
   split
   ·obtain⟨t,n,rfl⟩:=hk q (by simp)
    exact .inr ⟨n,rfl⟩
   ·exact ih λp hp=>hk p (by simp[hp])
 rcases key h.ks with e|⟨n,e⟩<;>rw[e]<;>rfl
theorem B8A{s t:Int}(hst:s≠t){v:AV}:∀{kvs:List (D×AV)},(∀p∈kvs,∃t,p.1=eI t)->J2 .i (eI s) (K5 .i (eI t) v kvs)=J2 .i (eI s) kvs
 |[],_=>by simp[K5,J2,A0H,hst]
 |q::kvs,h=>by
  obtain⟨u,hu⟩:=h q (by simp)
  unfold K5
  rw[hu,A0H]
  by_cases e:t=u
  ·subst e
   rw[if_pos (by simp),J2,A0H,if_neg (by simp[hst]),J2,hu,A0H,if_neg (by simp[hst])]
  ·rw[if_neg (by simp[e]),J2,J2]
   rw[B8A hst (λp hp=>h p (by simp[hp]))]
theorem B8D{s n:Int}:∀{kvs:List (D×AV)},(∀p∈kvs,∃t n,p=(eI t,.d (eI n)))->∀p∈K5 .i (eI s) (.d (eI n)) kvs,∃t n,p=(eI t,.d (eI n))
 |[],h,p,hp=>by simp[K5] at hp;subst hp;exact⟨s,n,rfl⟩
 |q::kvs,h,p,hp=>by
  unfold K5 at hp
  split at hp
  ·rcases I9.1 hp with rfl|hp
   ·exact⟨s,n,rfl⟩
   ·exact h p (by simp[hp])
  ·rcases I9.1 hp with rfl|hp
   ·exact h _ (by simp)
   ·exact B8D (λp hp=>h p (by simp[hp])) p hp
theorem Q8.add{l:List Int}{kvs:List (D×AV)}(h:Q8 l kvs)(c:Int):Q8 (l++[c]) (Q1 kvs c):=by
 refine⟨B8D h.ks,λd=>?_⟩
 unfold Q1
 rw[List.count_append]
 by_cases e:d=c
 ·subst e
  unfold A18
  rw[B0I]
  show A18 kvs d+1=_
  rw[h.ct]
  simp
 ·have:A18 (K5 .i (eI c) (.d (eI (A18 kvs c+1))) kvs) d=A18 kvs d:=by
   unfold A18
   rw[B8A e h.str]
  rw[this,h.ct,List.count_singleton]
  simp[m6 e]
theorem Q8.adds{l:List Int}{kvs:List (D×AV)}(h:Q8 l kvs):∀cs:List Int,Q8 (l++cs) (cs.foldl Q1 kvs)
 |[]=>by simpa using h
 |c::cs=>by
  have:=Q8.adds (h.add c) cs
  simpa using this
theorem Q8.bnd{l:List Int}{kvs:List (D×AV)}(h:Q8 l kvs)(m:Nat):(AO.map kvs).bndB m=true:=by
 refine M5.2 λp hp=>?_
 obtain⟨t,n,rfl⟩:=h.ks p hp
 rfl
theorem Q8.mO{l:List Int}{kvs:List (D×AV)}(h:Q8 l kvs)(f:Nat->Nat):mO f (.map kvs)=.map kvs:=by
 show AO.map _=_
 congr 1
 conv=>rhs;rw[<- w9 kvs]
 refine T5 λp hp=>?_
 obtain⟨t,n,rfl⟩:=h.ks p hp
 rfl
theorem C2n(l:List Int)(kvs:List (D×AV))(hk:Q8 l kvs)(cs:List Int)(hl:l.length+cs.length<=1152921504606846976)(d:D)(hd:B8 d (A0 cs)) :
  B5 Tryz.prog A9c [.d d,.ptr 1 0] [.map kvs,.cells [.mp 0]] (λr os=>r=.tup []/\os=[.map (cs.foldl Q1 kvs),.cells [.mp 0]]):=by
 refine C3k.goX A6 rfl ?_
 have h1:=B7 cs
 have hm:=D3 cs
 repeat' first|refine st ?_|(with_reducible first|apply A5|apply A4)<;>intro _
 refine F7 A6 C60 C56 (λ(k:Nat)=>[.d (eI k)]) (λk=>[.map ((cs.take k).foldl Q1 kvs),.cells [.mp 0]]) (λk=>k<=cs.length) (λk=>cs.length-k) 0 rfl rfl rfl rfl (λk _=>⟨rfl,(by rw[Z3,Q8.bnd (hk.adds _)];rfl)⟩) rfl (by omega) ?_
 repeat' first|refine st ?_|(with_reducible first|apply A5|apply A4)<;>intro _
 intro k h6
 cases hy:cs[k]? with
 |some c=>
  have hlt2:=(B3.1 hy).1
  have hg2:=N4 hy
  have hts:cs.take (k+1)=cs.take k++[c]:=by rw[Q9,hy];rfl
  have hK:=hk.adds (cs.take k)
  have hS:=hK.lk c
  have hC:=hK.ct c
  have hcl:((l++cs.take k).count c)<=l.length+k:=by
   have:=List.count_le_length (a:=c) (l:=l++cs.take k)
   rw[K4,L6] at this
   omega
  have e2:K5 .i (eI c) (.d (eI (((l++cs.take k).count c:Nat)+1))) ((cs.take k).foldl Q1 kvs)=(cs.take (k+1)).foldl Q1 kvs:=by
   rw[hts,A2I,<- hC];rfl
  obtain⟨kv,hkv⟩:∃kv,kv=(cs.take k).foldl Q1 kvs:=⟨_,rfl⟩
  have m1:l6 .i (eI c) kv:=by rw[hkv];exact A5W _ _ hK.str
  rw[<- hkv] at hS e2 ⊢
  obtain⟨kv2,hkv2⟩:∃kv,kv=(cs.take (k+1)).foldl Q1 kvs:=⟨_,rfl⟩
  rw[<- hkv2] at e2
  obtain⟨q,hq⟩:∃q:Nat,q=(l++cs.take k).count c:=⟨_,rfl⟩
  rw[<- hq] at hS e2 hcl
  repeat' first|refine st ?_|(with_reducible first|apply A5|apply A4)<;>intro _
  rw[hkv2]
  exact⟨k+1,rfl,rfl,rfl,by omega,by omega⟩
 |none=>
  have hge:=D8.1 hy
  rw[M7 hge]
  have hB:=(hk.adds cs).bnd 2
  have hB2:([AO.map (cs.foldl Q1 kvs),AO.cells [AV.mp 0]].all λo=>o.bndB 2)=true:=by rw[Z3,hB];rfl
  repeat' first|refine st ?_|(with_reducible first|apply A5|apply A4)<;>intro _
  exact⟨rfl,rfl⟩
end Go.Proofs
end
section
namespace Go.Proofs
open Go.Bi
theorem A8F(T:AO)(rest:List AO)(l:List Int)(kvs:List (D×AV))(hk:Q8 l kvs)(cs:List Int)(hl:l.length+cs.length<=1152921504606846976)(d:D)(hd:B8 d (A0 cs)) :
  B5 Tryz.prog A9c [.d d,.ptr 2 0] (T::.map kvs::.cells [.mp 1]::rest) (λr os=>r=.tup []/\os=T::.map (cs.foldl Q1 kvs)::.cells [.mp 1]::rest):=by
 have hK:=hk.adds cs
 have:=B5.frame (K:=λr os=>r=.tup []/\os=T::.map (cs.foldl Q1 kvs)::.cells [.mp 1]::rest) (C2n l kvs hk cs hl d hd) [1,2] (T::.map kvs::.cells [.mp 1]::rest) rfl (by decide) (λi o h=>by
   match i,h with
   |0,h=>cases h;rw[hk.mO];rfl
   |1,h=>cases h;rfl
   |i+2,h=>simp at h) (λa ha=>by
    simp only[I9,m5,or_false] at ha
    rcases ha with rfl|rfl<;>simp[AV.bnd2,AV.bnd1]) (λo ho=>by
    simp only[I9,m5,or_false] at ho
    rcases ho with rfl|rfl
    ·exact L7 (hk.bnd 2)
    ·simp[AO.bnd,AV.bnd1]) (by
   rintro r bs' ⟨rfl,rfl⟩
   refine⟨rfl,?_⟩
   simp only[S9,hK.mO,List.map_nil,A1w]
   rfl)
 exact this
def A24(fs:List Fo):List Int:=fs.flatMap Fo.cs
def A6p(xs:List Ex):List Int:=xs.flatMap N5
def Z1(t:Tb):List Int:=t.ks++A24 t.fs++A6p t.xs
theorem B7L{α:Type}(g:α->List Int)(m:Nat):∀(l:List α),(∀x∈l,(g x).length<=m)->(l.flatMap g).length<=l.length*m
 |[],_=>by simp
 |x::l,h=>by
  have:=B7L g m l (λy hy=>h y (by simp[hy]))
  have h1:=h x (by simp)
  rw[A1y,K4,I7,Nat.succ_mul]
  omega
theorem B7N{α:Type}(g:α->List Int){l:List α}{i:Nat}{x:α}(h:l[i]?=some x):(l.take (i+1)).flatMap g=(l.take i).flatMap g++g x:=by
 rw[Q9,h,List.flatMap_append]
 simp
theorem B7O{α:Type}(g:α->List Int)(l:List α)(i:Nat)(hl:l.length<=1048576)(h:∀x∈l,(g x).length<=1048576):((l.take i).flatMap g).length<=1099511627776:=by
 have h1:=B7L g 1048576 (l.take i) (λx hx=>h x (W3 hx))
 have h2:(l.take i).length<=1048576:=by rw[L6];omega
 have h3:(l.take i).length*1048576<=1048576*1048576:=X4 _ h2
 omega
def A1m(t:Tb):List (D×AV):=(Z1 t).foldl Q1 []
theorem B1q(t:Tb):Q8 (Z1 t) (A1m t):=by
 have:=Q8.nil.adds (Z1 t)
 rw[A1B] at this
 exact this
theorem C1h(t:Tb)(dc dk df dx:D)(h:M6 t dc dk df dx):B5 Tryz.prog A9b [eT t.nm dc dk df dx] [] (λr os=>r=.mp 1/\os=[.cells [.d (.str t.nm),.d dc,.d dk,.d df,.d dx],.map (A1m t),.cells [.mp 1]]):=by
 have hM:A1m t=(A6p t.xs).foldl Q1 ((A24 t.fs).foldl Q1 (t.ks.foldl Q1 [])):=by unfold A1m Z1;rw[A2I,A2I]
 rw[hM]
 obtain⟨n,l,ks,fs,xs⟩:=t
 obtain⟨hn,hl,hls,hk,hfl,hfc,hxs,hxb,hc,hdk,hdf,hdx⟩:=h
 dsimp only at *
 have k0:=Q8.nil.adds ks
 rw[A1B] at k0
 have kF:∀i,Q8 (ks++(fs.take i).flatMap Fo.cs) (((fs.take i).flatMap Fo.cs).foldl Q1 (ks.foldl Q1 [])):=λi=>k0.adds _
 have kX:∀i,Q8 (ks++A24 fs++(xs.take i).flatMap N5) (((xs.take i).flatMap N5).foldl Q1 ((A24 fs).foldl Q1 (ks.foldl Q1 []))):=λi=>(k0.adds _).adds _
 have lF:∀i,((fs.take i).flatMap Fo.cs).length<=1099511627776:=λi=>B7O _ fs i hfl (λf hf=>(hfc f hf).1)
 have lF0:(A24 fs).length<=1099511627776:=by have:=lF fs.length;rw[List.take_length] at this;exact this
 have lX:∀i,((xs.take i).flatMap N5).length<=1099511627776:=λi=>B7O _ xs i hxs (λe he=>O9 (A3W e) (hxb e he))
 have hU:=λT rest=>A8F T rest [] [] .nil ks (by simp;omega) dk hdk
 have f1:=A1M fs
 have f2:=A36 fs
 have x1:=I6 xs
 have x2:=O7 xs
 obtain⟨K0,hK0⟩:∃K,K=ks.foldl Q1 []:=⟨_,rfl⟩
 rw[<- hK0] at kF kX hU k0 ⊢
 refine C3j.goO A6 rfl ?_
 repeat' first|refine st ?_|((with_reducible first|apply I0|apply D7);(·exact hU _ _);(try rintro _ _ ⟨rfl,rfl⟩))|((with_reducible apply I8);(·exact hU _ _))|((with_reducible apply H8);refine st ?_;(with_reducible apply I5);(·exact rfl);refine st ?_;(with_reducible apply D7);(·exact hU _ _);(try rintro _ _ ⟨rfl,rfl⟩))|(with_reducible first|apply A5|apply A4)<;>intro _
 refine F7 A6 C61 C57 (λ(i:Nat)=>[.d (eI i)]) (λi=>[.cells [.d (.str n),.d dc,.d dk,.d df,.d dx],.map (((fs.take i).flatMap Fo.cs).foldl Q1 K0),.cells [.mp 1]]) (λi=>i<=fs.length) (λi=>fs.length-i) 0 rfl rfl rfl rfl (λi _=>⟨rfl,(by rw[Z3,Z3,Q8.bnd (kF i)];rfl)⟩) rfl (by omega) ?_
 repeat' first|refine st ?_|(with_reducible first|apply A5|apply A4)<;>intro _
 intro i h4
 cases hx:fs[i]? with
 |some f=>
  have hlt:=(B3.1 hx).1
  have hg:=A40 hx
  obtain⟨hf,hft⟩:=hfc f (C4 hx)
  have hsd:=f.sld
  have hFt:=B7N Fo.cs hx
  have hli:=lF i
  have hU:=λT rest=>A8F T rest _ _ (kF i) f.cs (by rw[K4];omega) f.d hsd
  rw[<- A2I,<- hFt] at hU
  obtain⟨nl,cs,tb⟩:=f
  obtain⟨fd,hfd⟩:∃fd,fd=Fo.d ⟨nl,cs,tb⟩:=⟨_,rfl⟩
  have hg:(H6 fs)[i]?=some [Fo.d ⟨nl,cs,tb⟩,.str tb]:=hg
  rw[<- hfd] at hg hU
  obtain⟨K1,hK1⟩:∃K,K=((fs.take i).flatMap Fo.cs).foldl Q1 K0:=⟨_,rfl⟩
  obtain⟨K2,hK2⟩:∃K,K=((fs.take (i+1)).flatMap Fo.cs).foldl Q1 K0:=⟨_,rfl⟩
  rw[<- hK1,<- hK2] at hU
  rw[<- hK1]
  repeat' first|refine st ?_|((with_reducible first|apply I0|apply D7);(·exact hU _ _);(try rintro _ _ ⟨rfl,rfl⟩))|((with_reducible apply I8);(·exact hU _ _))|((with_reducible apply H8);refine st ?_;(with_reducible apply I5);(·exact rfl);refine st ?_;(with_reducible apply D7);(·exact hU _ _);(try rintro _ _ ⟨rfl,rfl⟩))|(with_reducible first|apply A5|apply A4)<;>intro _
  rw[hK2]
  exact⟨i+1,rfl,rfl,rfl,by omega,by omega⟩
 |none=>
  have hge:=D8.1 hx
  rw[M7 hge]
  rw[show fs.flatMap Fo.cs=A24 fs from rfl]
  obtain⟨K1,hK1⟩:∃K,K=(A24 fs).foldl Q1 K0:=⟨_,rfl⟩
  rw[<- hK1] at kX ⊢
  repeat' first|refine st ?_|(with_reducible first|apply A5|apply A4)<;>intro _
  refine F7 A6 C62 C58 (λ(i:Nat)=>[.d (eI i)]) (λi=>[.cells [.d (.str n),.d dc,.d dk,.d df,.d dx],.map (((xs.take i).flatMap N5).foldl Q1 K1),.cells [.mp 1]]) (λi=>i<=xs.length) (λi=>xs.length-i) 0 rfl rfl rfl rfl (λi _=>⟨rfl,(by rw[Z3,Z3,Q8.bnd (kX i)];rfl)⟩) rfl (by omega) ?_
  repeat' first|refine st ?_|(with_reducible first|apply A5|apply A4)<;>intro _
  intro j h5
  cases hy:xs[j]? with
  |some e=>
   have hlt:=(B3.1 hy).1
   have hb:=hxb e (C4 hy)
   have hCo:=C1j e hb
   have hsl:=C9M e
   have hFt:=B7N N5 hy
   have hli:=lX j
   have hcl:=A3W e
   have hU:=λT rest=>A8F T rest _ _ (kX j) (N5 e) (by rw[K4,K4];omega) (A3V e) hsl
   rw[<- A2I,<- hFt] at hU
   obtain⟨dc2,hdc2⟩:∃d,d=A3V e:=⟨_,rfl⟩
   rw[<- hdc2] at hCo hU
   obtain⟨K2,hK2⟩:∃K,K=((xs.take j).flatMap N5).foldl Q1 K1:=⟨_,rfl⟩
   obtain⟨K3,hK3⟩:∃K,K=((xs.take (j+1)).flatMap N5).foldl Q1 K1:=⟨_,rfl⟩
   rw[<- hK2,<- hK3] at hU
   rw[<- hK2]
   obtain⟨o1,n1,v1,m1,l1,a1⟩:=e
   have hg:=m4 (args:=xs) _ _ _ _ _ _ _ hy
   rw[Ex.av_mk] at hCo
   repeat' first|refine st ?_|((with_reducible first|apply A8|apply A7);(·exact hCo))|((with_reducible first|apply I0|apply D7);(·exact hU _ _);(try rintro _ _ ⟨rfl,rfl⟩))|((with_reducible apply I8);(·exact hU _ _))|((with_reducible apply H8);refine st ?_;(with_reducible apply I5);(·exact rfl);refine st ?_;(with_reducible apply D7);(·exact hU _ _);(try rintro _ _ ⟨rfl,rfl⟩))|(with_reducible first|apply A5|apply A4)<;>intro _
   rw[hK3]
   exact⟨j+1,rfl,rfl,rfl,by omega,by omega⟩
  |none=>
   have hge:=D8.1 hy
   rw[M7 hge]
   rw[show xs.flatMap N5=A6p xs from rfl]
   repeat' first|refine st ?_|(with_reducible first|apply A5|apply A4)<;>intro _
   all_goals exact⟨rfl,rfl⟩
end Go.Proofs
end
section
namespace Go.Proofs
open Go.Bi
structure Ch where
 k:Int
 nm:List UInt8
 to:List UInt8
 co:Co
 df:Vl
abbrev chD(k:Int)(nm to cn:List UInt8)(ck:Int)(cl:Bool)(vk vn:Int)(vs:List UInt8):AV:=.agg [.d (eI k),.d (.str nm),.d (.str to),.d (.str cn),.d (eI ck),.d (.bool cl),.d (eI vk),.d (eI vn),.d (.str vs)]
abbrev Ch.av(c:Ch):AV:=chD c.k c.nm c.to c.co.nm c.co.k c.co.nl c.df.k c.df.n c.df.s
def A2x(c:Ch):Bool:=
 if c.k=1 then !(decide (c.nm=[])&&decide (c.to=[]))
 else !((decide (c.k=3)||decide (c.to=[]))&&(decide (c.co.nm=[])&&decide (c.co.k=0)&&!c.co.nl)&&(decide (c.df.k=0)&&decide (c.df.n=0)&&decide (c.df.s=[])))
theorem C1g(c:Ch):Pure Tryz.prog B5D [c.av] (.d (.bool (A2x c))):=by
 obtain⟨k,nm,to,⟨cn,ck,cl⟩,⟨vk,vn,vs⟩⟩:=c
 obtain⟨q,hq⟩:∃q,q=A2x ⟨k,nm,to,⟨cn,ck,cl⟩,⟨vk,vn,vs⟩⟩:=⟨_,rfl⟩
 rw[<- hq]
 simp only[A2x] at hq
 have r1:nm=nm:=rfl
 have r2:to=to:=rfl
 have r3:cn=cn:=rfl
 have r4:vs=vs:=rfl
 have r5:([]:List UInt8)=[]:=rfl
 refine C3i.go A6 rfl ?_
 repeat' first|refine st ?_|(with_reducible first|apply A5|apply A4)<;>intro _
 all_goals (have e1:(0=ck)=(ck=0):=propext eq_comm)
 all_goals (have e2:(0=vk)=(vk=0):=propext eq_comm)
 all_goals (have e3:(0=vn)=(vn=0):=propext eq_comm)
 all_goals first
  |(simp_all;done)
  |(simp_all;simp only[e1,e2,e3,Bool.or_assoc])
def A07(t:Tb)(c:Ch):Int:=
 if 12<=t.cs.length then 13 else if K7 c.co.nm=false then 1 else if ¬(1<=c.co.k/\c.co.k<=3) then 7 else if 0<=D6 c.co.nm t.cs then 10 else if J9 c.df=false then 8
 else if c.df.k=0/\c.co.nl=false then 12 else if c.df.k≠0/\c.df.k≠c.co.k then 7 else 0
theorem C1f(t:Tb)(dc dk df dx:D)(h:M6 t dc dk df dx)(c:Ch)(hcn:c.co.nm.length<=1048576)(hcv:c.df.s.length<=1048576):Pure Tryz.prog B5C [eT t.nm dc dk df dx,c.av] (.d (eI (A07 t c))):=by
 have hF:=R8 t.nm t.cs h.hl dc dk df dx h.dc c.co.nm
 have hN:=A4M c.co.nm hcn
 have hV:=A4O c.df (by omega)
 have hl:=F4 t.cs
 have hdc:=h.dc
 obtain⟨q,hq⟩:∃q,q=A07 t c:=⟨_,rfl⟩
 rw[<- hq]
 unfold A07 at hq
 obtain⟨f,hf⟩:∃f,f=D6 c.co.nm t.cs:=⟨_,rfl⟩
 obtain⟨nb,hnb⟩:∃f,f=K7 c.co.nm:=⟨_,rfl⟩
 obtain⟨vb,hvb⟩:∃f,f=J9 c.df:=⟨_,rfl⟩
 rw[<- hf] at hF hq
 rw[<- hnb] at hN hq
 rw[<- hvb] at hV hq
 obtain⟨k,nm,to,⟨cn,ck,cl⟩,⟨vk,vn,vs⟩⟩:=c
 obtain⟨es,hes⟩:∃es,es=B2 t.cs:=⟨_,rfl⟩
 rw[<- hes] at hl hdc
 dsimp only at hq hF hN hV
 obtain⟨m0,hm0⟩:∃m,m=t.cs.length:=⟨_,rfl⟩
 rw[<- hm0] at hq hl
 clear hf hnb hvb hes hm0
 refine C3h.go A6 rfl ?_
 repeat' first|refine st ?_|((with_reducible first|apply A8|apply A7);(·first|exact hF|exact hN|exact hV))|(with_reducible first|apply A5|apply A4)<;>intro _
 all_goals (rw[hq];clear hq hF hN hV)
 all_goals repeat' split
 all_goals first|rfl|(exfalso;omega)|(exfalso;simp_all;done)|(exfalso;simp_all;omega)
end Go.Proofs
end
section
namespace Go.Proofs
open Go.Bi
theorem B7G(nm:List UInt8):∀(l:List Co)(i:Nat),k9 nm i l=-1\/∃(j:Nat)(c:Co),l[j]?=some c/\c.nm=nm/\k9 nm i l=((i+j:Nat):Int)
 |[],i=>.inl rfl
 |c::l,i=>by
  unfold k9
  by_cases h:c.nm=nm
  ·exact .inr ⟨0,c,rfl,h,by simp[h]⟩
  ·rcases B7G nm l (i+1) with e|⟨j,d,h1,h2,h3⟩
   ·exact .inl (by simp[h,e])
   ·exact .inr ⟨j+1,d,by simpa using h1,h2,by simp only[h,if_false];rw[h3];omega⟩
theorem B0f{nm:List UInt8}{l:List Co}(h:0<=D6 nm l):∃c,l[(D6 nm l).toNat]?=some c/\c.nm=nm:=by
 unfold D6 at *
 rcases B7G nm l 0 with e|⟨j,d,h1,h2,h3⟩
 ·omega
 ·exact⟨d,by rw[h3];simpa using h1,h2⟩
def Z8(t:Tb)(i:Int):Int:=match t.cs[i.toNat]? with
 |some c=>c.k
 |none=>0
def A32(t:Tb)(c:Ch):Int:=
 if D6 c.nm t.cs<0 then 11 else if c.k≠3/\0<(Z1 t).count (D6 c.nm t.cs) then 25 else if c.k=4/\Z8 t (D6 c.nm t.cs)=2 then 7
 else if c.k=3/\K7 c.to=false then 1 else if c.k=3/\0<=D6 c.to t.cs then 10 else 0
def D2(t:Tb)(c:Ch):Int:=
 if K8 t≠0 then K8 t else if ¬(1<=c.k/\c.k<=4) then 7 else if A2x c then 8 else if c.k=1 then A07 t c else A32 t c
structure G7(c:Ch):Prop where
 nm:c.nm.length<=1048576
 to:c.to.length<=1048576
 cn:c.co.nm.length<=1048576
 vs:c.df.s.length<=1048576
theorem C2m(t:Tb)(dc dk df dx:D)(h:M6 t dc dk df dx):B5 Tryz.prog A9b [eT t.nm dc dk df dx] [] (λr os=>(∀n,z6 n r=.mp (1+n))/\∀n,os.map (U2 n)=[.cells [.d (.str t.nm),.d dc,.d dk,.d df,.d dx],.map (A1m t),.cells [.mp (1+n)]]):=by
 refine(C1h t dc dk df dx h).mono ?_
 rintro r os ⟨rfl,rfl⟩
 refine⟨λn=>rfl,λn=>?_⟩
 have e:(A1m t).map (λp=>(p.1,shG n p.2))=A1m t:=by
  conv=>rhs;rw[<- w9 (A1m t)]
  refine T5 λp hp=>?_
  obtain⟨a,b,rfl⟩:=(B1q t).ks p hp
  rfl
 show[_,AO.map ((A1m t).map λp=>(p.1,shG n p.2)),_]=_
 rw[e]
 rfl
theorem U3(t:Tb)(dc dk df dx:D)(h:M6 t dc dk df dx)(c:Ch)(hc:G7 c):Pure Tryz.prog B5z [eT t.nm dc dk df dx,c.av] (.d (eI (D2 t c))):=by
 have hT:=B23 t dc dk df dx h
 have hS:=C1g c
 have hA:=C1f t dc dk df dx h c hc.cn hc.vs
 have hF:=R8 t.nm t.cs h.hl dc dk df dx h.dc c.nm
 have hG:=R8 t.nm t.cs h.hl dc dk df dx h.dc c.to
 have hN:=A4M c.to hc.to
 have hU:=C2m t dc dk df dx h
 have hl:=F4 t.cs
 have hme:=I4 t.cs
 have hdc:=h.dc
 obtain⟨q,hq⟩:∃q,q=D2 t c:=⟨_,rfl⟩
 rw[<- hq]
 unfold D2 A32 at hq
 have hfs:=λhh=>B0f (nm:=c.nm) (l:=t.cs) hh
 have hm:=(B1q t).str
 have hlk:=(B1q t).lk (D6 c.nm t.cs)
 have hcnt:∃n:Nat,n=(Z1 t).count (D6 c.nm t.cs):=⟨_,rfl⟩
 obtain⟨n0,hn0⟩:=hcnt
 rw[<- hn0] at hlk hq
 obtain⟨f,hf⟩:∃f,f=D6 c.nm t.cs:=⟨_,rfl⟩
 rw[<- hf] at hF hq hlk hfs
 obtain⟨g,hg⟩:∃f,f=D6 c.to t.cs:=⟨_,rfl⟩
 rw[<- hg] at hG hq
 obtain⟨nb,hnb⟩:∃f,f=K7 c.to:=⟨_,rfl⟩
 rw[<- hnb] at hN hq
 obtain⟨sb,hsb⟩:∃f,f=A2x c:=⟨_,rfl⟩
 rw[<- hsb] at hS hq
 obtain⟨ae,hae⟩:∃f,f=A07 t c:=⟨_,rfl⟩
 rw[<- hae] at hA hq
 obtain⟨te,hte⟩:∃f,f=K8 t:=⟨_,rfl⟩
 rw[<- hte] at hT hq
 obtain⟨kvs,hkvs⟩:∃f,f=A1m t:=⟨_,rfl⟩
 rw[<- hkvs] at hU hm hlk
 have m1:l6 .i (eI f) kvs:=A5W _ _ hm
 have hix:0<=f->∃s k b,(B2 t.cs)[f.toNat]?=some [.str s,eI k,.bool b]/\Z8 t f=k/\f<t.cs.length:=by
  intro hh
  obtain⟨d,h1,h2⟩:=hfs hh
  have h3:=(B3.1 h1).1
  exact⟨d.nm,d.k,d.nl,O2 h1,by unfold Z8;rw[h1],by omega⟩
 obtain⟨k,nm,to,⟨cn,ck,cl⟩,⟨vk,vn,vs⟩⟩:=c
 obtain⟨es,hes⟩:∃es,es=B2 t.cs:=⟨_,rfl⟩
 rw[<- hes] at hl hdc hix hme
 obtain⟨ka,hka⟩:∃x,x=Z8 t f:=⟨_,rfl⟩
 rw[<- hka] at hq hix
 obtain⟨m0,hm0⟩:∃m,m=t.cs.length:=⟨_,rfl⟩
 rw[<- hm0] at hl hix
 dsimp only at hq hF hG hN hS hA hT
 clear hfs hf hg hnb hsb hae hte hkvs hm hn0 hes hka hm0 hc h
 by_cases hf0:f<0
 ·clear hix
  refine B2b.go A6 rfl ?_
  repeat' first|refine st ?_|((with_reducible first|apply A8|apply A7);(·first|exact hF|exact hN|exact hG|exact hS|exact hA|exact hT))|(with_reducible first|apply A5|apply A4)<;>intro _
  all_goals (rw[hq];clear hq hF hN hG hS hA hT hU)
  all_goals (try dsimp only at *)
  all_goals repeat' split
  all_goals first|rfl|(exfalso;omega)|(exfalso;simp_all;done)|(exfalso;simp_all;omega)
 ·obtain⟨s,kk,b,hgt,rfl,hlt⟩:=hix (by omega)
  have hf1:0<=f:=by omega
  refine B2b.go A6 rfl ?_
  repeat' first|refine st ?_|((with_reducible apply I0);(· exact hU);(intro _ _ hr);(rw[hr.1,hr.2]))|((with_reducible first|apply A8|apply A7);(·first|exact hF|exact hN|exact hG|exact hS|exact hA|exact hT))|(with_reducible first|apply A5|apply A4)<;>intro _
  all_goals (rw[hq];clear hq hF hN hG hS hA hT hU)
  all_goals (try dsimp only at *)
  all_goals repeat' split
  all_goals first|rfl|(exfalso;omega)|(exfalso;simp_all;done)|(exfalso;simp_all;omega)
end Go.Proofs
end
section
namespace Go.Proofs
open Go.Bi
def S4(l:List Int)(n:Int):List Int:=l.takeWhile (λx=>decide (x<n))++([n]++(l.dropWhile λx=>decide (x<n)).filter λx=>decide (x≠n))
theorem B89(n:Int):S4 [] n=[n]:=rfl
theorem B87(a:Int)(l:List Int)(n:Int):S4 (a::l) n=if a<n then a::S4 l n else n::(a::l).filter λx=>decide (x≠n):=by
 unfold S4
 by_cases h:a<n
 ·rw[if_pos h,List.takeWhile_cons_of_pos (by simpa using h),List.dropWhile_cons_of_pos (by simpa using h)];rfl
 ·rw[if_neg h,List.takeWhile_cons_of_neg (by simpa using h),List.dropWhile_cons_of_neg (by simpa using h)];rfl
theorem B88:∀(l:List Int)(n:Int),(S4 l n).length<=l.length+1
 |[],n=>by simp[B89]
 |a::l,n=>by
  rw[B87]
  split
  ·have:=B88 l n
   simp only[I7];omega
  ·have:=List.length_filter_le (λx=>decide (x≠n)) (a::l)
   simp only[I7] at *;omega
theorem B8a:∀{l:List Int}(n:Int),i7 l->i7 (S4 l n)/\∀x,x∈S4 l n↔x=n\/x∈l
 |[],n,_=>by simp[B89,i7]
 |a::l,n,h=>by
  have g:=A2b.1 h
  rw[B87]
  split
  ·rename_i hlt
   obtain⟨h1,h2⟩:=B8a n g.2
   constructor
   ·refine A2b.2 ⟨λx hx=>?_,h1⟩
    rcases(h2 x).1 hx with rfl|hx
    ·exact hlt
    ·exact g.1 x hx
   ·intro x
    rw[I9,h2,I9]
    constructor
    ·rintro(h|h|h)
     ·exact .inr (.inl h)
     ·exact .inl h
     ·exact .inr (.inr h)
    ·rintro(h|h|h)
     ·exact .inr (.inl h)
     ·exact .inl h
     ·exact .inr (.inr h)
  ·rename_i hge
   constructor
   ·refine A2b.2 ⟨λx hx=>?_,h.filter _⟩
    rw[A3D] at hx
    have hne:x≠n:=by simpa using hx.2
    rcases I9.1 hx.1 with rfl|hx
    ·omega
    ·have:=g.1 x hx;omega
   ·intro x
    rw[I9,A3D]
    by_cases hx:x=n
    ·simp[hx]
    ·simp[hx]
theorem D10{l:List Int}{n:Int}{i:Nat}(h:∀(j:Nat) y,j<i->l[j]?=some y->y<n)(hi:∀y,l[i]?=some y->¬y<n):S4 l n=l.take i++([n]++(l.drop i).filter λx=>decide (x≠n)):=by
 have h1:∀x∈l.take i,decide (x<n)=true:=by
  intro x hx
  obtain⟨j,hj⟩:=A2K hx
  have hj2:=(B3.1 hj).1
  rw[L6] at hj2
  rw[Y3,if_pos (by omega)] at hj
  exact decide_eq_true (h j x (by omega) hj)
 have h2:(l.drop i).takeWhile (λx=>decide (x<n))=[]/\(l.drop i).dropWhile (λx=>decide (x<n))=l.drop i:=by
  cases hd:l.drop i with
  |nil=>exact⟨rfl,rfl⟩
  |cons y r=>
   have hy:l[i]?=some y:=by
    have:(l.drop i)[0]?=some y:=by rw[hd];rfl
    rwa [A03,A1E] at this
   have:=hi y hy
   exact⟨List.takeWhile_cons_of_neg (by simpa using this),List.dropWhile_cons_of_neg (by simpa using this)⟩
 have e:l=l.take i++l.drop i:=(List.take_append_drop i l).symm
 unfold S4
 rw[show l.takeWhile (λx=>decide (x<n))=(l.take i++l.drop i).takeWhile (λx=>decide (x<n)) by rw[<- e],show l.dropWhile (λx=>decide (x<n))=(l.take i++l.drop i).dropWhile (λx=>decide (x<n)) by rw[<- e]]
 rw[List.takeWhile_append_of_pos h1,List.dropWhile_append_of_pos h1,h2.1,h2.2,A1w]
theorem A7B:∀(l out:List Int),(l.foldl S4 out).length<=out.length+l.length
 |[],out=>by simp
 |a::l,out=>by
  have h1:=A7B l (S4 out a)
  have h2:=B88 out a
  rw[A2J]
  simp only[I7]
  omega
theorem B7U:∀(l:List Int){out:List Int},i7 out->i7 (l.foldl S4 out)/\∀x,x∈l.foldl S4 out↔x∈out\/x∈l
 |[],out,h=>⟨h,λx=>by simp⟩
 |a::l,out,h=>by
  obtain⟨h1,h2⟩:=B8a a h
  obtain⟨h3,h4⟩:=B7U l h1
  refine⟨h3,λx=>?_⟩
  rw[A2J,h4,h2,I9]
  constructor
  ·rintro((h|h)|h)
   ·exact .inr (.inl h)
   ·exact .inl h
   ·exact .inr (.inr h)
  ·rintro(h|h|h)
   ·exact .inl (.inr h)
   ·exact .inl (.inl h)
   ·exact .inr h
mutual
def u6:Ex->List Int
 |.mk op n v nm nl args=>rcL args (own op n)
def rcL:List Ex->List Int->List Int
 |[],out=>out
 |a::l,out=>rcL l ((u6 a).foldl S4 out)
end
def u7(out:List Int)(a:Ex):List Int:=(u6 a).foldl S4 out
theorem B9n:∀(l:List Ex)(out:List Int),rcL l out=l.foldl u7 out
 |[],out=>by simp[rcL]
 |a::l,out=>by rw[rcL,B9n l];rfl
theorem B9l(op n:Int)(v:Vl)(nm:List UInt8)(nl:Bool)(args:List Ex):u6 (.mk op n v nm nl args)=args.foldl u7 (own op n):=by rw[u6,B9n]
theorem B7V:∀(l:List Ex){out:List Int},(∀a∈l,∀x,x∈u6 a↔x∈K6 a)->i7 out->i7 (l.foldl u7 out)/\∀x,x∈l.foldl u7 out↔x∈out\/x∈l.flatMap K6
 |[],out,_,h=>⟨h,λx=>by simp⟩
 |a::l,out,hl,h=>by
  obtain⟨h1,h2⟩:=B7U (u6 a) h
  obtain⟨h3,h4⟩:=B7V l (λb hb=>hl b (I2 _ hb)) h1
  refine⟨h3,λx=>?_⟩
  rw[A2J,show u7 out a=(u6 a).foldl S4 out from rfl,h4,h2,hl a (Q4 ..),A1y,R9,or_assoc]
theorem D2s(op n:Int):i7 (own op n):=by unfold own;split<;>simp[i7]
theorem B9m:∀e:Ex,i7 (u6 e)/\∀x,x∈u6 e↔x∈K6 e:=by
 refine Ex.ind λop n v nm nl args ih=>?_
 rw[B9l,A3e,<- own]
 obtain⟨h1,h2⟩:=B7V args (λa ha=>(ih a ha).2) (D2s op n)
 exact⟨h1,λx=>by rw[h2,R9]⟩
theorem A81(e:Ex):u6 e=N5 e:=B6A (B9m e).1 (C9N e) λx=>by rw[(B9m e).2,A7p]
theorem B97(op n:Int):(own op n).length<=1:=by unfold own;split<;>simp
theorem B0o:∀(l:List Ex)(out:List Int),(l.foldl u7 out).length<=out.length+G6 (xL l)
 |[],out=>by simp
 |a::l,out=>by
  have h1:=B0o l (u7 out a)
  have h2:(u7 out a).length<=out.length+(u6 a).length:=A7B _ _
  have h3:=A3W a
  rw[<- A81] at h3
  rw[A2J]
  simp only[xL,Q3,G6]
  unfold Ex.bk at h3
  unfold xL at h1
  omega
theorem A9Q:∀(l:List Ex)(i:Nat),G6 (xL (l.take i))<=G6 (xL l)
 |[],i=>by simp
 |a::l,0=>by simp[xL,G6]
 |a::l,i+1=>by
  have:=A9Q l i
  rw[A2Q]
  simp only[xL,Q3,G6] at *
  omega
theorem B1U(l:List Int)(hl:l.length<=4194304)(n:Int)(d:D)(hd:B8 d (A0 l)):Pure Tryz.prog B5f [.d d,.d (eI n)] (.d (.sl (A0 (S4 l n)))):=by
 refine C2W.go A6 rfl ?_
 have hl1:=B7 l
 repeat' first|refine st ?_|(with_reducible first|apply A5|apply A4)<;>intro _
 refine J1 A6 C5E C4K (λ(i:Nat) (es:List (List D))=>[.arr 0 es.length,.d (eI i)]) (λi es=>[.arr es 1 0 false]) (λi es=>i<=l.length/\es=A0 (l.take i)/\∀(j:Nat) y,j<i->l[j]?=some y->y<n) (λi _=>l.length-i) 0 [] rfl rfl rfl rfl (λ_ _ _=>⟨rfl,rfl⟩) rfl ⟨by omega,rfl,by omega⟩ ?_
 repeat' first|refine st ?_|(with_reducible first|apply A5|apply A4)<;>intro _
 intro i es ⟨h1,h2,h3⟩
 have hes:es.length=i:=by rw[h2,B7,L6];omega
 have hem:∀e∈es,e.length=1:=by
  rw[h2]
  intro e he
  obtain⟨z,_,rfl⟩:=F1.1 he
  rfl
 have key:(∃y,l[i]?=some y/\y<n)\/((∀y,l[i]?=some y->¬y<n)/\((∃y,l[i]?=some y/\¬y<n)\/l.length<=i)):=by
  cases hx:l[i]? with
  |none=>exact .inr ⟨λy h=>(by cases h),.inr (D8.1 hx)⟩
  |some y=>
   by_cases hy:y<n
   ·exact .inl ⟨y,rfl,hy⟩
   ·exact .inr ⟨λz hz=>(by cases hz;exact hy),.inl ⟨y,rfl,hy⟩⟩
 have rest:(∀y,l[i]?=some y->¬y<n)->∀k:Nat,i<=k->A0 (l.take i)++([[eI n]]++A0 ((((l.take k).drop i)).filter λx=>decide (x≠n)))=A0 (l.take i++([n]++((l.take k).drop i).filter λx=>decide (x≠n))):=λ_ k _=>by simp[A0]
 rcases key with ⟨y,hy,hlt⟩|⟨hno,hx⟩
 ·have hil:=(B3.1 hy).1
  have hg:=N4 hy
  repeat' first|refine st ?_|(with_reducible first|apply A5|apply A4)<;>intro _
  refine⟨i+1,es++[[eI y]],rfl,rfl,rfl,by omega,by omega,?_,λj z hj hz=>?_⟩
  ·rw[h2,Q9,hy];simp[A0]
  ·rcases Nat.lt_succ_iff_lt_or_eq.1 hj with h|rfl
   ·exact h3 j z h hz
   ·rw[hy] at hz;cases hz;exact hlt
 ·have hat:=D10 h3 hno
  rcases hx with ⟨y,hy,hge⟩|hx
  ·have hg:=N4 hy
   have hil:=(B3.1 hy).1
   repeat' first|refine st ?_|(with_reducible first|apply A5|apply A4)<;>intro _
   refine J1 A6 B4S B4H (λ(k:Nat) (es:List (List D))=>[.arr 0 es.length,.d (eI k)]) (λk es=>[.arr es 1 0 false,.arr [[eI n]] 1 0 false]) (λk es2=>i<=k/\k<=l.length/\es2.length<=k+1/\es2=A0 (l.take i++([n]++((l.take k).drop i).filter λx=>decide (x≠n)))) (λk _=>l.length-k) i (es++[[eI n]]) rfl rfl rfl rfl (λ_ _ _=>⟨rfl,rfl⟩) rfl ⟨by omega,by omega,by simp;omega,by rw[h2,Y2 (by rw[L6];omega)];simp[A0]⟩ ?_
   repeat' first|refine st ?_|(with_reducible first|apply A5|apply A4)<;>intro _
   intro k es2 ⟨q1,q2,q4,q3⟩
   cases hz:l[k]? with
   |none=>
    have hge2:=D8.1 hz
    rw[M7 hge2,<- hat] at q3
    repeat' first|refine st ?_|(with_reducible first|apply A5|apply A4)<;>intro _
    rw[q3];rfl
   |some z=>
    have hkl:=(B3.1 hz).1
    have hg2:=N4 hz
    have hdr:(l.take (k+1)).drop i=(l.take k).drop i++[z]:=by
     rw[Q9,hz,List.drop_append_of_le_length (by rw[L6];omega)];rfl
    repeat' first|refine st ?_|(with_reducible first|apply A5|apply A4)<;>intro _
    ·rename_i he
     refine⟨k+1,es2,rfl,rfl,rfl,by omega,by omega,by omega,by omega,?_⟩
     rw[q3,hdr,List.filter_append]
     simp[he]
    ·rename_i he
     refine⟨k+1,es2++[[eI z]],rfl,rfl,rfl,by omega,by omega,by omega,by simp;omega,?_⟩
     rw[q3,hdr,List.filter_append]
     simp[he,A0]
  ·repeat' first|refine st ?_|(with_reducible first|apply A5|apply A4)<;>intro _
   refine J1 A6 B4S B4H (λ(k:Nat) (es:List (List D))=>[.arr 0 es.length,.d (eI k)]) (λk es=>[.arr es 1 0 false,.arr [[eI n]] 1 0 false]) (λk es2=>k=i/\es2=es++[[eI n]]) (λk _=>l.length-k) i (es++[[eI n]]) rfl rfl rfl rfl (λ_ _ _=>⟨rfl,rfl⟩) rfl ⟨rfl,rfl⟩ ?_
   repeat' first|refine st ?_|(with_reducible first|apply A5|apply A4)<;>intro _
   intro k es2 ⟨q1,q3⟩
   subst q1
   repeat' first|refine st ?_|(with_reducible first|apply A5|apply A4)<;>intro _
   rw[q3,h2,hat,Y2 hx]
   simp[A0]
   rfl
theorem C1y:∀e:Ex,e.bk<=1048576->Pure Tryz.prog B5a [e.av] (.d (.sl (A0 (u6 e)))):=by
 refine Ex.ind λop n v nm nl args ih hb=>?_
 obtain⟨b1,b2,b3,b4⟩:=Ex.bk_bounds hb
 have hbm:=Ex.bk_mk op n v nm nl args
 rw[B9l,Ex.av_mk]
 have h1:=I6 args
 have hm:=O7 args
 obtain⟨da,hda⟩:∃d,d=ng nl (xL args):=⟨_,rfl⟩
 have hsd:B8 da (xL args):=by rw[hda];exact p8
 rw[<- hda]
 have r0:v.k=v.k:=rfl
 have r1:v.s=v.s:=rfl
 have r2:nm=nm:=rfl
 refine C2P.go A6 rfl ?_
 have hown:(op=2/\own op n=[n])\/(op≠2/\own op n=[]):=by
  unfold own
  by_cases h:op=2
  ·rw[if_pos h];exact .inl ⟨h,rfl⟩
  ·rw[if_neg h];exact .inr ⟨h,rfl⟩
 rcases hown with ⟨h2,ho⟩|⟨h2,ho⟩
 ·repeat' first|refine st ?_|(with_reducible first|apply A5|apply A4)<;>intro _
  refine A2A 3 rfl rfl rfl ?_
  repeat' first|refine st ?_|(with_reducible first|apply A5|apply A4)<;>intro _
  refine J1 A6 B4P B4E (λ(i:Nat) (out:List Int)=>[.d (.sl (A0 out)),.d (eI i)]) (λi out=>[.cells [.d (eI op),.d (eI n),.d (eI v.k),.d (eI v.n),.d (.str v.s),.d (.str nm),.d da],.arr [[eI n]] 1 1 false,.arr [[eI n]] 1 0 false]) (λi out=>i<=args.length/\out=(args.take i).foldl u7 (own op n)) (λi _=>args.length-i) 0 (own op n) rfl rfl (by rw[ho];rfl) rfl (λ_ _ _=>⟨rfl,rfl⟩) rfl ⟨T6 _,rfl⟩ ?_
  repeat' first|refine st ?_|(with_reducible first|apply A5|apply A4)<;>intro _
  intro i out ⟨h4,h5⟩
  cases hx:args[i]? with
  |none=>
   have hge:=D8.1 hx
   rw[M7 hge] at h5
   repeat' first|refine st ?_|(with_reducible first|apply A5|apply A4)<;>intro _
   rw[h5]
  |some x=>
   have hlt:=(B3.1 hx).1
   have hgx:=r8 hx
   have hxm:=C4 hx
   have hxb:E4 x.ds<=G6 (xL args):=A1I (F1.2 ⟨x,hxm,rfl⟩)
   have hi:=ih x hxm (b4 x hxm)
   have hs:=A7C u7 (own op n) args i x hx
   rw[<- h5] at hs
   have hol:out.length<=1+G6 (xL args):=by
    have q1:=B0o (args.take i) (own op n)
    have q2:=B97 op n
    have q3:G6 (xL (args.take i))<=G6 (xL args):=A9Q args i
    rw[h5];omega
   have hrl:=A3W x
   rw[<- A81] at hrl
   obtain⟨ys,hys⟩:∃y,y=u6 x:=⟨_,rfl⟩
   have hss:u7 out x=ys.foldl S4 out:=by rw[hys];rfl
   rw[hss] at hs
   rw[<- hys] at hi hrl
   unfold Ex.bk at hrl
   have hyl:=B7 ys
   obtain⟨o1,n1,v1,m1,l1,a1⟩:=x
   rw[Ex.ds_mk] at hgx
   rw[Ex.av_mk] at hi
   repeat' first|refine st ?_|((with_reducible first|apply A8|apply A7);(·exact hi))|(with_reducible first|apply A5|apply A4)<;>intro _
   refine J1 A6 B4O B4D (λ(k:Nat) (o2:List Int)=>[.d (.sl (A0 o2)),.d (eI k)]) (λk o2=>[.cells [.d (eI op),.d (eI n),.d (eI v.k),.d (eI v.n),.d (.str v.s),.d (.str nm),.d da],.arr [[eI n]] 1 1 false,.arr [[eI n]] 1 0 false]) (λk o2=>k<=ys.length/\o2=(ys.take k).foldl S4 out) (λk _=>ys.length-k) 0 out rfl rfl rfl rfl (λ_ _ _=>⟨rfl,rfl⟩) rfl ⟨T6 _,rfl⟩ ?_
   repeat' first|refine st ?_|(with_reducible first|apply A5|apply A4)<;>intro _
   intro k o2 ⟨q1,q2⟩
   cases hy:ys[k]? with
   |none=>
    have hge:=D8.1 hy
    rw[M7 hge,<- hs] at q2
    repeat' first|refine st ?_|(with_reducible first|apply A5|apply A4)<;>intro _
    exact⟨i+1,o2,rfl,rfl,rfl,by omega,by omega,q2⟩
   |some y=>
    have hklt:=(B3.1 hy).1
    have hgy:=N4 hy
    have hs2:=A7C S4 out ys k y hy
    rw[<- q2] at hs2
    have hI:=B1U o2 (by
     have q3:=A7B (ys.take k) out
     rw[L6] at q3
     rw[q2];omega) y (.sl (A0 o2)) O6
    repeat' first|refine st ?_|((with_reducible first|apply A8|apply A7);(·exact hI))|(with_reducible first|apply A5|apply A4)<;>intro _
    exact⟨k+1,S4 o2 y,rfl,rfl,rfl,by omega,by omega,hs2.symm⟩
 ·repeat' first|refine st ?_|(with_reducible first|apply A5|apply A4)<;>intro _
  refine A2A 3 rfl rfl rfl ?_
  repeat' first|refine st ?_|(with_reducible first|apply A5|apply A4)<;>intro _
  refine J1 A6 B4P B4E (λ(i:Nat) (out:List Int)=>[.d (.sl (A0 out)),.d (eI i)]) (λi out=>[.cells [.d (eI op),.d (eI n),.d (eI v.k),.d (eI v.n),.d (.str v.s),.d (.str nm),.d da],.arr [] 1 0 false]) (λi out=>i<=args.length/\out=(args.take i).foldl u7 (own op n)) (λi _=>args.length-i) 0 (own op n) rfl rfl (by rw[ho];rfl) rfl (λ_ _ _=>⟨rfl,rfl⟩) rfl ⟨T6 _,rfl⟩ ?_
  repeat' first|refine st ?_|(with_reducible first|apply A5|apply A4)<;>intro _
  intro i out ⟨h4,h5⟩
  cases hx:args[i]? with
  |none=>
   have hge:=D8.1 hx
   rw[M7 hge] at h5
   repeat' first|refine st ?_|(with_reducible first|apply A5|apply A4)<;>intro _
   rw[h5]
  |some x=>
   have hlt:=(B3.1 hx).1
   have hgx:=r8 hx
   have hxm:=C4 hx
   have hxb:E4 x.ds<=G6 (xL args):=A1I (F1.2 ⟨x,hxm,rfl⟩)
   have hi:=ih x hxm (b4 x hxm)
   have hs:=A7C u7 (own op n) args i x hx
   rw[<- h5] at hs
   have hol:out.length<=1+G6 (xL args):=by
    have q1:=B0o (args.take i) (own op n)
    have q2:=B97 op n
    have q3:G6 (xL (args.take i))<=G6 (xL args):=A9Q args i
    rw[h5];omega
   have hrl:=A3W x
   rw[<- A81] at hrl
   obtain⟨ys,hys⟩:∃y,y=u6 x:=⟨_,rfl⟩
   have hss:u7 out x=ys.foldl S4 out:=by rw[hys];rfl
   rw[hss] at hs
   rw[<- hys] at hi hrl
   unfold Ex.bk at hrl
   have hyl:=B7 ys
   obtain⟨o1,n1,v1,m1,l1,a1⟩:=x
   rw[Ex.ds_mk] at hgx
   rw[Ex.av_mk] at hi
   repeat' first|refine st ?_|((with_reducible first|apply A8|apply A7);(·exact hi))|(with_reducible first|apply A5|apply A4)<;>intro _
   refine J1 A6 B4O B4D (λ(k:Nat) (o2:List Int)=>[.d (.sl (A0 o2)),.d (eI k)]) (λk o2=>[.cells [.d (eI op),.d (eI n),.d (eI v.k),.d (eI v.n),.d (.str v.s),.d (.str nm),.d da],.arr [] 1 0 false]) (λk o2=>k<=ys.length/\o2=(ys.take k).foldl S4 out) (λk _=>ys.length-k) 0 out rfl rfl rfl rfl (λ_ _ _=>⟨rfl,rfl⟩) rfl ⟨T6 _,rfl⟩ ?_
   repeat' first|refine st ?_|(with_reducible first|apply A5|apply A4)<;>intro _
   intro k o2 ⟨q1,q2⟩
   cases hy:ys[k]? with
   |none=>
    have hge:=D8.1 hy
    rw[M7 hge,<- hs] at q2
    repeat' first|refine st ?_|(with_reducible first|apply A5|apply A4)<;>intro _
    exact⟨i+1,o2,rfl,rfl,rfl,by omega,by omega,q2⟩
   |some y=>
    have hklt:=(B3.1 hy).1
    have hgy:=N4 hy
    have hs2:=A7C S4 out ys k y hy
    rw[<- q2] at hs2
    have hI:=B1U o2 (by
     have q3:=A7B (ys.take k) out
     rw[L6] at q3
     rw[q2];omega) y (.sl (A0 o2)) O6
    repeat' first|refine st ?_|((with_reducible first|apply A8|apply A7);(·exact hI))|(with_reducible first|apply A5|apply A4)<;>intro _
    exact⟨k+1,S4 o2 y,rfl,rfl,rfl,by omega,by omega,hs2.symm⟩
end Go.Proofs
end
section
namespace Go.Proofs
open Go.Bi
theorem A8B(l:List Int)(hl:l.length<=1048576)(d:D)(hd:B8 d (A0 l))(c:Int):Pure Tryz.prog B5q [.d d,.d (eI c)] (.d (.bool (decide (c∈l)))):=by
 refine C3a.go A6 rfl ?_
 have h1:=B7 l
 have hm:=D3 l
 obtain⟨q,hq⟩:∃q,q=decide (c∈l):=⟨_,rfl⟩
 rw[<- hq]
 repeat' first|refine st ?_|(with_reducible first|apply A5|apply A4)<;>intro _
 refine F7 A6 C5R C4X (λ(i:Nat)=>[.d (eI i)]) (λi=>[]) (λi=>i<=l.length/\q=decide (c∈l.drop i)) (λi=>l.length-i) 0 rfl rfl rfl rfl (λ_ _=>⟨rfl,rfl⟩) rfl ⟨by omega,hq⟩ ?_
 repeat' first|refine st ?_|(with_reducible first|apply A5|apply A4)<;>intro _
 intro i ⟨h4,h5⟩
 cases hx:l[i]? with
 |some x=>
  obtain⟨hlt,he⟩:=B3.1 hx
  have hg:=N4 hx
  rw[S5 hlt,he] at h5
  by_cases hc:x=c
  ·subst hc
   rw[show q=true by rw[h5];simp]
   repeat' first|refine st ?_|(with_reducible first|apply A5|apply A4)<;>intro _
   all_goals rfl
  ·repeat' first|refine st ?_|(with_reducible first|apply A5|apply A4)<;>intro _
   exact⟨i+1,rfl,rfl,rfl,by omega,by omega,by rw[h5];simp[m6 hc]⟩
 |none=>
  have hge:=D8.1 hx
  rw[A1x hge] at h5
  rw[h5]
  repeat' first|refine st ?_|(with_reducible first|apply A5|apply A4)<;>intro _
  all_goals rfl
theorem C1P(c:Ch):Pure Tryz.prog A99 [c.av] (if c.k=1 then chD c.k [] [] c.co.nm c.co.k c.co.nl c.df.k c.df.n c.df.s else if c.k=3 then chD c.k c.nm c.to [] 0 false 0 0 [] else chD c.k c.nm [] [] 0 false 0 0 []):=by
 obtain⟨k,nm,to,⟨cn,ck,cl⟩,⟨vk,vn,vs⟩⟩:=c
 dsimp only
 by_cases h1:k=1
 ·rw[if_pos h1]
  refine A8L.go A6 rfl ?_
  repeat' first|refine st ?_|(with_reducible first|apply A5|apply A4)<;>intro _
  all_goals rfl
 ·rw[if_neg h1]
  by_cases h3:k=3
  ·rw[if_pos h3]
   refine A8L.go A6 rfl ?_
   repeat' first|refine st ?_|(with_reducible first|apply A5|apply A4)<;>intro _
   all_goals rfl
  ·rw[if_neg h3]
   refine A8L.go A6 rfl ?_
   repeat' first|refine st ?_|(with_reducible first|apply A5|apply A4)<;>intro _
   all_goals rfl
end Go.Proofs
end
section
namespace Go.Proofs
open Go.Bi
theorem C1Q(t:Tb)(dc dk df dx:D)(h:M6 t dc dk df dx)(c:Int):Pure Tryz.prog A9a [eT t.nm dc dk df dx,.d (eI c)] (.d (.bool (decide (c∈Z1 t)))):=by
 obtain⟨q,hq⟩:∃q,q=decide (c∈Z1 t):=⟨_,rfl⟩
 rw[<- hq]
 unfold Z1 A24 A6p at hq
 obtain⟨n,l,ks,fs,xs⟩:=t
 obtain⟨hn,hl,hls,hk,hfl,hfc,hxs,hxb,hc,hdk,hdf,hdx⟩:=h
 dsimp only at *
 have hK:=A8B ks hk dk hdk c
 have f1:=A1M fs
 have f2:=A36 fs
 have x1:=I6 xs
 have x2:=O7 xs
 have fg0:=λi f=>A40 (l:=fs) (i:=i) (f:=f)
 obtain⟨FS,hFS⟩:∃es,es=H6 fs:=⟨_,rfl⟩
 rw[<- hFS] at f1 f2 hdf fg0
 have xg0:=m4 (args:=xs)
 obtain⟨XS,hXS⟩:∃es,es=xL xs:=⟨_,rfl⟩
 rw[<- hXS] at x1 x2 hdx xg0
 refine C3d.go A6 rfl ?_
 by_cases hin:c∈ks
 ·rw[decide_eq_true hin] at hK
  rw[show q=true by rw[hq];simp[hin]]
  repeat' first|refine st ?_|((with_reducible first|apply A8|apply A7);(·exact hK))|(with_reducible first|apply A5|apply A4)<;>intro _
  all_goals rfl
 rw[decide_eq_false hin] at hK
 have hq:q=decide (c∈fs.flatMap Fo.cs\/c∈xs.flatMap N5):=by rw[hq];simp[hin]
 repeat' first|refine st ?_|((with_reducible first|apply A8|apply A7);(·exact hK))|(with_reducible first|apply A5|apply A4)<;>intro _
 refine F7 A6 C5T C4Z (λ(i:Nat)=>[.d (eI i)]) (λi=>[.cells [.d (.str n),.d dc,.d dk,.d df,.d dx]]) (λi=>i<=fs.length/\q=decide (c∈(fs.drop i).flatMap Fo.cs\/c∈xs.flatMap N5)) (λi=>fs.length-i) 0 rfl rfl rfl rfl (λ_ _=>⟨rfl,rfl⟩) rfl ⟨by omega,hq⟩ ?_
 repeat' first|refine st ?_|(with_reducible first|apply A5|apply A4)<;>intro _
 intro i ⟨h4,h5⟩
 cases hx:fs[i]? with
 |some f=>
  obtain⟨hlt,he⟩:=B3.1 hx
  have hg:=fg0 _ _ hx
  obtain⟨hf,hft⟩:=hfc f (C4 hx)
  have hF:=A8B f.cs hf f.d f.sld c
  rw[S5 hlt,he] at h5
  obtain⟨nl,cs,tb⟩:=f
  obtain⟨fd,hfd⟩:∃fd,fd=Fo.d ⟨nl,cs,tb⟩:=⟨_,rfl⟩
  have hg:FS[i]?=some [Fo.d ⟨nl,cs,tb⟩,.str tb]:=hg
  rw[<- hfd] at hg hF
  dsimp only at hF h5
  by_cases hcin:c∈cs
  ·rw[decide_eq_true hcin] at hF
   rw[show q=true by rw[h5];simp[hcin]]
   repeat' first|refine st ?_|((with_reducible first|apply A8|apply A7);(·exact hF))|(with_reducible first|apply A5|apply A4)<;>intro _
   all_goals rfl
  ·rw[decide_eq_false hcin] at hF
   have h5:q=decide (c∈(fs.drop (i+1)).flatMap Fo.cs\/c∈xs.flatMap N5):=by rw[h5,A1y];simp only[R9,hcin,false_or]
   repeat' first|refine st ?_|((with_reducible first|apply A8|apply A7);(·exact hF))|(with_reducible first|apply A5|apply A4)<;>intro _
   exact⟨i+1,rfl,rfl,rfl,by omega,by omega,h5⟩
 |none=>
  have hge:=D8.1 hx
  rw[A1x hge] at h5
  have h5:q=decide (c∈xs.flatMap N5):=by rw[h5];simp
  repeat' first|refine st ?_|(with_reducible first|apply A5|apply A4)<;>intro _
  refine F7 A6 C5U C50 (λ(i:Nat)=>[.d (eI i)]) (λi=>[.cells [.d (.str n),.d dc,.d dk,.d df,.d dx]]) (λi=>i<=xs.length/\q=decide (c∈(xs.drop i).flatMap N5)) (λi=>xs.length-i) 0 rfl rfl rfl rfl (λ_ _=>⟨rfl,rfl⟩) rfl ⟨by omega,h5⟩ ?_
  repeat' first|refine st ?_|(with_reducible first|apply A5|apply A4)<;>intro _
  intro j ⟨h6,h7⟩
  cases hy:xs[j]? with
  |some e=>
   obtain⟨hlt,he⟩:=B3.1 hy
   have hb:=hxb e (C4 hy)
   have hCo:=C1y e hb
   rw[A81] at hCo
   have hF:=A8B (N5 e) (O9 (A3W e) hb) (.sl (A0 (N5 e))) O6 c
   rw[S5 hlt,he] at h7
   obtain⟨ce,hce⟩:∃d,d=N5 e:=⟨_,rfl⟩
   rw[A1y] at h7
   rw[<- hce] at hCo hF h7
   obtain⟨o1,n1,v1,m1,l1,a1⟩:=e
   have hg:=xg0 _ _ _ _ _ _ _ hy
   rw[Ex.av_mk] at hCo
   by_cases hcin:c∈ce
   ·rw[decide_eq_true hcin] at hF
    rw[show q=true by rw[h7];simp[hcin]]
    repeat' first|refine st ?_|((with_reducible first|apply A8|apply A7);(·first|exact hCo|exact hF))|(with_reducible first|apply A5|apply A4)<;>intro _
    all_goals rfl
   ·rw[decide_eq_false hcin] at hF
    have h7:q=decide (c∈(xs.drop (j+1)).flatMap N5):=by rw[h7];simp only[R9,hcin,false_or]
    repeat' first|refine st ?_|((with_reducible first|apply A8|apply A7);(·first|exact hCo|exact hF))|(with_reducible first|apply A5|apply A4)<;>intro _
    exact⟨j+1,rfl,rfl,rfl,by omega,by omega,h7⟩
  |none=>
   have hge:=D8.1 hy
   rw[A1x hge] at h7
   rw[show q=false by rw[h7];simp]
   repeat' first|refine st ?_|(with_reducible first|apply A5|apply A4)<;>intro _
   all_goals rfl
theorem C1N(t:Tb)(dc dk df dx:D)(h:M6 t dc dk df dx)(c:Ch)(hcn:c.co.nm.length<=1048576)(hcv:c.df.s.length<=1048576):Pure Tryz.prog A98 [eT t.nm dc dk df dx,c.av] (.d (eI (A07 t c))):=by
 have hF:=A1v t.nm t.cs h.hl dc dk df dx h.dc c.co.nm
 have hN:=A4J c.co.nm hcn
 have hV:=A4K c.df (by omega)
 have hl:=F4 t.cs
 have hdc:=h.dc
 obtain⟨q,hq⟩:∃q,q=A07 t c:=⟨_,rfl⟩
 rw[<- hq]
 unfold A07 at hq
 obtain⟨f,hf⟩:∃f,f=D6 c.co.nm t.cs:=⟨_,rfl⟩
 obtain⟨nb,hnb⟩:∃f,f=K7 c.co.nm:=⟨_,rfl⟩
 obtain⟨vb,hvb⟩:∃f,f=J9 c.df:=⟨_,rfl⟩
 rw[<- hf] at hF hq
 rw[<- hnb] at hN hq
 rw[<- hvb] at hV hq
 obtain⟨k,nm,to,⟨cn,ck,cl⟩,⟨vk,vn,vs⟩⟩:=c
 obtain⟨es,hes⟩:∃es,es=B2 t.cs:=⟨_,rfl⟩
 rw[<- hes] at hl hdc
 dsimp only at hq hF hN hV
 obtain⟨m0,hm0⟩:∃m,m=t.cs.length:=⟨_,rfl⟩
 rw[<- hm0] at hq hl
 clear hf hnb hvb hes hm0
 refine C39.go A6 rfl ?_
 repeat' first|refine st ?_|((with_reducible first|apply A8|apply A7);(·first|exact hF|exact hN|exact hV))|(with_reducible first|apply A5|apply A4)<;>intro _
 all_goals (rw[hq];clear hq hF hN hV)
 all_goals repeat' split
 all_goals first|rfl|(exfalso;omega)|(exfalso;simp_all;done)|(exfalso;simp_all;omega)
end Go.Proofs
end
