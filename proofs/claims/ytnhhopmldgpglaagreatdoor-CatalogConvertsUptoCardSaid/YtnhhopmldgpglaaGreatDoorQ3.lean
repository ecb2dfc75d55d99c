/- Texts of this claim, joined. No condition. -/
import Derived.Test.YtnhhopmldgpglaaGreatDoorQ2
import Derived.Shelf.Sort.Plain
import Derived.Ground.Names2Prog
import Derived.Shelf.Slices.CompactI
import Derived.Test.YtnhhopmldgpglaaGreatDoorProg
set_option linter.unusedSimpArgs false
set_option linter.unusedVariables false
set_option maxRecDepth 10000
set_option maxHeartbeats 4000000
section
namespace Go.Proofs
open Go.Shelf
def Tryz.lays189_ren:Go.Shelf.Ren:=⟨fun|189=>176|125=>133|257=>204|128=>170|129=>171|294=>221|295=>222|296=>223|297=>224|298=>225|299=>226|216=>227|300=>228|301=>229|328=>240|329=>199|330=>200|331=>241|332=>242|215=>243|343=>248|n=>n,fun|28=>23|3=>3|46=>147|0=>0|51=>177|53=>179|4=>4|183=>171|182=>170|131=>151|5=>5|9=>9|218=>205|222=>209|228=>220|229=>148|n=>n,fun|n=>n⟩
theorem Tryz.lays189:Go.Proofs.Lays.n189 Tryz.prog Tryz.lays189_ren:={
 mixed:=by kernel_rfl
 f125:=Tryz.func133.trans (congrArg some (by kernel_rfl))
 f128:=Tryz.func170.trans (congrArg some (by kernel_rfl))
 f129:=Tryz.func171.trans (congrArg some (by kernel_rfl))
 f189:=Tryz.func176.trans (congrArg some (by kernel_rfl))
 f215:=Tryz.func243.trans (congrArg some (by kernel_rfl))
 f216:=Tryz.func227.trans (congrArg some (by kernel_rfl))
 f257:=Tryz.func204.trans (congrArg some (by kernel_rfl))
 f294:=Tryz.func221.trans (congrArg some (by kernel_rfl))
 f295:=Tryz.func222.trans (congrArg some (by kernel_rfl))
 f296:=Tryz.func223.trans (congrArg some (by kernel_rfl))
 f297:=Tryz.func224.trans (congrArg some (by kernel_rfl))
 f298:=Tryz.func225.trans (congrArg some (by kernel_rfl))
 f299:=Tryz.func226.trans (congrArg some (by kernel_rfl))
 f300:=Tryz.func228.trans (congrArg some (by kernel_rfl))
 f301:=Tryz.func229.trans (congrArg some (by kernel_rfl))
 f328:=Tryz.func240.trans (congrArg some (by kernel_rfl))
 f329:=Tryz.func199.trans (congrArg some (by kernel_rfl))
 f330:=Tryz.func200.trans (congrArg some (by kernel_rfl))
 f331:=Tryz.func241.trans (congrArg some (by kernel_rfl))
 f332:=Tryz.func242.trans (congrArg some (by kernel_rfl))
 f343:=Tryz.func248.trans (congrArg some (by kernel_rfl))
 t0:=Tryz.underlying0
 a0:=Tryz.isAgg0
 z0:=Tryz.sizeOf0
 v0:=Tryz.zeroValue0
 t3:=Tryz.underlying3
 a3:=Tryz.isAgg3
 z3:=Tryz.sizeOf3
 v3:=Tryz.zeroValue3
 t4:=Tryz.underlying4
 a4:=Tryz.isAgg4
 z4:=Tryz.sizeOf4
 v4:=Tryz.zeroValue4
 t5:=Tryz.underlying5
 a5:=Tryz.isAgg5
 z5:=Tryz.sizeOf5
 v5:=Tryz.zeroValue5
 t9:=Tryz.underlying9
 a9:=Tryz.isAgg9
 z9:=Tryz.sizeOf9
 v9:=Tryz.zeroValue9
 t28:=Tryz.underlying23
 a28:=Tryz.isAgg23
 z28:=Tryz.sizeOf23
 v28:=Tryz.zeroValue23
 t46:=Tryz.underlying147
 a46:=Tryz.isAgg147
 z46:=Tryz.sizeOf147
 v46:=Tryz.zeroValue147
 t51:=Tryz.underlying177
 a51:=Tryz.isAgg177
 z51:=Tryz.sizeOf177
 v51:=Tryz.zeroValue177
 t53:=Tryz.underlying179
 a53:=Tryz.isAgg179
 z53:=Tryz.sizeOf179
 v53:=Tryz.zeroValue179
 t131:=Tryz.underlying151
 a131:=Tryz.isAgg151
 z131:=Tryz.sizeOf151
 v131:=Tryz.zeroValue151
 t182:=Tryz.underlying170
 a182:=Tryz.isAgg170
 z182:=Tryz.sizeOf170
 v182:=Tryz.zeroValue170
 t183:=Tryz.underlying171
 a183:=Tryz.isAgg171
 z183:=Tryz.sizeOf171
 v183:=Tryz.zeroValue171
 t218:=Tryz.underlying205
 a218:=Tryz.isAgg205
 z218:=Tryz.sizeOf205
 v218:=Tryz.zeroValue205
 t222:=Tryz.underlying209
 a222:=Tryz.isAgg209
 z222:=Tryz.sizeOf209
 v222:=Tryz.zeroValue209
 t228:=Tryz.underlying220
 a228:=Tryz.isAgg220
 z228:=Tryz.sizeOf220
 v228:=Tryz.zeroValue220
 t229:=Tryz.underlying148
 a229:=Tryz.isAgg148
 z229:=Tryz.sizeOf148
 v229:=Tryz.zeroValue148}
def Tryz.lays190_ren:Go.Shelf.Ren:=⟨fun|190=>96|125=>133|258=>132|128=>170|129=>171|302=>161|303=>162|304=>163|305=>164|306=>165|307=>166|308=>167|309=>168|310=>169|333=>198|329=>199|330=>200|334=>201|335=>202|336=>203|344=>220|n=>n,fun|31=>90|9=>9|3=>3|46=>147|0=>0|51=>177|53=>179|4=>4|183=>171|182=>170|131=>151|5=>5|218=>205|222=>209|228=>220|229=>148|n=>n,fun|n=>n⟩
theorem Tryz.lays190:Go.Proofs.Lays.n190 Tryz.prog Tryz.lays190_ren:={
 mixed:=by kernel_rfl
 f125:=Tryz.func133.trans (congrArg some (by kernel_rfl))
 f128:=Tryz.func170.trans (congrArg some (by kernel_rfl))
 f129:=Tryz.func171.trans (congrArg some (by kernel_rfl))
 f190:=Tryz.func96.trans (congrArg some (by kernel_rfl))
 f258:=Tryz.func132.trans (congrArg some (by kernel_rfl))
 f302:=Tryz.func161.trans (congrArg some (by kernel_rfl))
 f303:=Tryz.func162.trans (congrArg some (by kernel_rfl))
 f304:=Tryz.func163.trans (congrArg some (by kernel_rfl))
 f305:=Tryz.func164.trans (congrArg some (by kernel_rfl))
 f306:=Tryz.func165.trans (congrArg some (by kernel_rfl))
 f307:=Tryz.func166.trans (congrArg some (by kernel_rfl))
 f308:=Tryz.func167.trans (congrArg some (by kernel_rfl))
 f309:=Tryz.func168.trans (congrArg some (by kernel_rfl))
 f310:=Tryz.func169.trans (congrArg some (by kernel_rfl))
 f329:=Tryz.func199.trans (congrArg some (by kernel_rfl))
 f330:=Tryz.func200.trans (congrArg some (by kernel_rfl))
 f333:=Tryz.func198.trans (congrArg some (by kernel_rfl))
 f334:=Tryz.func201.trans (congrArg some (by kernel_rfl))
 f335:=Tryz.func202.trans (congrArg some (by kernel_rfl))
 f336:=Tryz.func203.trans (congrArg some (by kernel_rfl))
 f344:=Tryz.func220.trans (congrArg some (by kernel_rfl))
 t0:=Tryz.underlying0
 a0:=Tryz.isAgg0
 z0:=Tryz.sizeOf0
 v0:=Tryz.zeroValue0
 t3:=Tryz.underlying3
 a3:=Tryz.isAgg3
 z3:=Tryz.sizeOf3
 v3:=Tryz.zeroValue3
 t4:=Tryz.underlying4
 a4:=Tryz.isAgg4
 z4:=Tryz.sizeOf4
 v4:=Tryz.zeroValue4
 t5:=Tryz.underlying5
 a5:=Tryz.isAgg5
 z5:=Tryz.sizeOf5
 v5:=Tryz.zeroValue5
 t9:=Tryz.underlying9
 a9:=Tryz.isAgg9
 z9:=Tryz.sizeOf9
 v9:=Tryz.zeroValue9
 t31:=Tryz.underlying90
 a31:=Tryz.isAgg90
 z31:=Tryz.sizeOf90
 v31:=Tryz.zeroValue90
 t46:=Tryz.underlying147
 a46:=Tryz.isAgg147
 z46:=Tryz.sizeOf147
 v46:=Tryz.zeroValue147
 t51:=Tryz.underlying177
 a51:=Tryz.isAgg177
 z51:=Tryz.sizeOf177
 v51:=Tryz.zeroValue177
 t53:=Tryz.underlying179
 a53:=Tryz.isAgg179
 z53:=Tryz.sizeOf179
 v53:=Tryz.zeroValue179
 t131:=Tryz.underlying151
 a131:=Tryz.isAgg151
 z131:=Tryz.sizeOf151
 v131:=Tryz.zeroValue151
 t182:=Tryz.underlying170
 a182:=Tryz.isAgg170
 z182:=Tryz.sizeOf170
 v182:=Tryz.zeroValue170
 t183:=Tryz.underlying171
 a183:=Tryz.isAgg171
 z183:=Tryz.sizeOf171
 v183:=Tryz.zeroValue171
 t218:=Tryz.underlying205
 a218:=Tryz.isAgg205
 z218:=Tryz.sizeOf205
 v218:=Tryz.zeroValue205
 t222:=Tryz.underlying209
 a222:=Tryz.isAgg209
 z222:=Tryz.sizeOf209
 v222:=Tryz.zeroValue209
 t228:=Tryz.underlying220
 a228:=Tryz.isAgg220
 z228:=Tryz.sizeOf220
 v228:=Tryz.zeroValue220
 t229:=Tryz.underlying148
 a229:=Tryz.isAgg148
 z229:=Tryz.sizeOf148
 v229:=Tryz.zeroValue148}
def Tryz.laysNm220_ren:Go.Shelf.Ren:=⟨fun|20=>177|n=>n,fun|22=>23|3=>3|4=>4|0=>0|n=>n,fun|n=>n⟩
theorem Tryz.laysNm220:Go.Proofs.Lays2.n20 Tryz.prog Tryz.laysNm220_ren:={
 mixed:=by kernel_rfl
 f20:=Tryz.func177.trans (congrArg some (by kernel_rfl))
 t0:=Tryz.underlying0
 a0:=Tryz.isAgg0
 z0:=Tryz.sizeOf0
 v0:=Tryz.zeroValue0
 t3:=Tryz.underlying3
 a3:=Tryz.isAgg3
 z3:=Tryz.sizeOf3
 v3:=Tryz.zeroValue3
 t4:=Tryz.underlying4
 a4:=Tryz.isAgg4
 z4:=Tryz.sizeOf4
 v4:=Tryz.zeroValue4
 t22:=Tryz.underlying23
 a22:=Tryz.isAgg23
 z22:=Tryz.sizeOf23
 v22:=Tryz.zeroValue23
 i3:=by kernel_rfl}
end Go.Proofs
end
section
namespace Go.Bi
theorem A3g{P:Program}{n nb:Nat}{cd:IC}{N:Sl->List AO->Prop}{E0:Nat->Sl->List AO->Prop}{R:Sl->List AO->Prop}{L:Sl}{os:List AO}(id off sz:Nat)(hsz:Nat.blt 0 sz=true){cs:List AV}(ho:os[id]?=some (.cells cs))(hn:cs[off]?=some (.d .nil))
  (k:l8 P n nb cd N E0 R L ((os++[AO.arr [] sz 0 true]).set id (.cells (cs.set off (.arr os.length 0))))):l8 P n nb cd N E0 R L os:=by
 have hw:=C2h (n:=n) (nb:=nb) (ρ:=D1 L) (os:=os) id off sz (A2d Nat.zero_lt_one (P5 hsz)) ho hn
 refine⟨λcode hc c M G w a hR=>?_⟩
 obtain⟨M',G',hR'⟩:=hw c M G w a hR
 exact k.h code hc c M' G' w a hR'
end Go.Bi
namespace Go.Proofs
open Go.Bi
theorem C0s(f:Nat->Nat)(ds:List D):mG f (.agg (ds.map .d))=.agg (ds.map .d):=by
 simp only[mG,l7]
 congr 1
theorem A8J(f:Nat->Nat)(ds:List D):mA f (.agg (ds.map .d))=.agg (ds.map .d):=by
 simp only[mA,mG,l7]
 congr 1
theorem B0Q(ds:List D)(n:Nat):(AV.agg (ds.map .d)).bnd2 n:=by
 intro c hc
 obtain⟨x,_,rfl⟩:=D9.1 hc
 trivial
theorem C0l{g:FuncId}(a:AV){x y:D}{r:AV}(ds:List D)(h:B0 Tryz.prog g [.agg (ds.map .d),a] [.cells [.d x]] (λr' os'=>r'=r/\os'=[.cells [.d y]]))(a':Nat->AV)(ha:∀id n,mG (rn [id] n) a=a' id)(hba:a.bnd2 1)(hr:∀f,mA f r=r){os:List AO}{id:Nat}(ho:os[id]?=some (.cells [.d x])) :
  B0 Tryz.prog g [.agg (ds.map .d),a' id] os (λr' os'=>r'=r/\os'=os.set id (.cells [.d y])):=by
 have:=B0.frame (K:=λr' os'=>r'=r/\os'=os.set id (.cells [.d y])) h [id] os rfl (by simp) (λi o hx=>?_) (λz hz=>?_) (λo hx=>?_) ?_
 ·rw[Q8,Q8,List.map_nil,C0s,ha] at this;exact this
 ·cases i with
  |zero=>simp at hx;subst hx;exact ho
  |succ i=>simp at hx
 ·simp only[I6,o4,or_false] at hz
  rcases hz with rfl|rfl
  ·exact B0Q _ _
  ·exact hba
 ·cases i7.1 hx
  simp[AO.bnd,AV.bnd1]
 ·rintro _ _ ⟨rfl,rfl⟩
  refine⟨hr _,?_⟩
  simp[T6,mO,mC]
theorem D5q{g:FuncId}{x y:D}{r:AV}{ds:List D}(h:B0 Tryz.prog g [.agg (ds.map .d),.ptr 0 0] [.cells [.d x]] (λr' os'=>r'=r/\os'=[.cells [.d y]]))(hr:∀f,mA f r=r){os:List AO}{id:Nat}(ho:os[id]?=some (.cells [.d x])) :
  B0 Tryz.prog g [.agg (ds.map .d),.ptr id 0] os (λr' os'=>r'=r/\os'=os.set id (.cells [.d y])):=
 C0l _ _ h (λid=>.ptr id 0) (λid n=>rfl) (by simp[AV.bnd2,AV.bnd1]) hr ho
theorem B1G{g f:FuncId}{x y:D}{r:AV}{ds:List D}(h:B0 Tryz.prog g [.agg (ds.map .d),.clo f [0]] [.cells [.d x]] (λr' os'=>r'=r/\os'=[.cells [.d y]]))(hr:∀f,mA f r=r){os:List AO}{id:Nat}(ho:os[id]?=some (.cells [.d x])) :
  B0 Tryz.prog g [.agg (ds.map .d),.clo f [id]] os (λr' os'=>r'=r/\os'=os.set id (.cells [.d y])):=
 C0l _ _ h (λid=>.clo f [id]) (λid n=>rfl) (by simp[AV.bnd2,AV.bnd1]) hr ho
mutual
def O5(φ:Ex->Ex):Ex->Ex
 |.mk op n v nm nl args=>if op=2 then φ (.mk op n v nm true (A4R φ args)) else .mk op n v nm true (A4R φ args)
def A4R(φ:Ex->Ex):List Ex->List Ex
 |[]=>[]
 |a::l=>O5 φ a::A4R φ l
end
theorem C0x(φ:Ex->Ex):∀l,A4R φ l=l.map (O5 φ)
 |[]=>by simp[A4R]
 |a::l=>by simp[A4R,C0x φ l]
theorem A4Q(φ:Ex->Ex)(op n:Int)(v:Vl)(nm:List UInt8)(nl:Bool)(args:List Ex):O5 φ (.mk op n v nm nl args)=if op=2 then φ (.mk op n v nm true (args.map (O5 φ))) else .mk op n v nm true (args.map (O5 φ)):=by
 rw[O5,C0x]
def Mt(φ:Ex->Ex)(l:List Ex)(i:Nat):List (List D):=xL ((l.take i).map φ)
theorem A05(φ:Ex->Ex)(l:List Ex)(i:Nat)(h:i<=l.length):(Mt φ l i).length=i:=by
 unfold Mt
 rw[I7,C6,J1]
 omega
theorem A06(φ:Ex->Ex)(l:List Ex)(i:Nat):∀e∈Mt φ l i,e.length=7:=O7 _
theorem A07{φ:Ex->Ex}{l:List Ex}{i:Nat}{c:Ex}(h:l[i]?=some c):Mt φ l i++[(φ c).ds]=Mt φ l (i+1):=by
 unfold Mt
 rw[P1,h]
 simp[xL]
theorem A04{φ:Ex->Ex}{l:List Ex}{i:Nat}(h:l.length<=i):Mt φ l i=xL (l.map φ):=by
 unfold Mt
 rw[J5 h]
theorem A8O(l:List (List D)):ng true l=if l.isEmpty then .nil else .sl l:=by unfold ng;rw[Y9]
theorem B2L(g:FuncId)(y:D)(φ:Ex->Ex)(hg:∀x:Ex,B0 Tryz.prog g [x.av,.ptr 0 0] [.cells [.d y]] (λr os=>r=(φ x).av/\os=[.cells [.d y]])):∀e:Ex,e.bk<=1048576->B0 Tryz.prog A3v [e.av,.clo g [0]] [.cells [.d y]] (λr os=>r=(O5 φ e).av/\os=[.cells [.d y]]):=by
 refine Ex.ind λop n v nm nl args ih hb=>?_
 obtain⟨b1,b2,b3,b4⟩:=Ex.bk_bounds hb
 obtain⟨Z,hZ⟩:∃Z,Z=(O5 φ (.mk op n v nm nl args)).av:=⟨_,rfl⟩
 rw[<- hZ]
 rw[A4Q] at hZ
 rw[Ex.av_mk]
 refine B3q.goX A4 rfl ?_
 have h1:=I7 args
 have hm:=O7 args
 obtain⟨da,hda⟩:∃d,d=ng nl (xL args):=⟨_,rfl⟩
 have hsd:B3 da (xL args):=by rw[hda];exact t7
 rw[<- hda]
 have r0:v.k=v.k:=rfl
 have r1:v.s=v.s:=rfl
 have r2:nm=nm:=rfl
 repeat' first|refine st ?_|refine⟨λ_=>?_,λ_=>?_⟩|fail
 refine A00 5 7 rfl rfl ?_
 repeat' first|refine st ?_|refine⟨λ_=>?_,λ_=>?_⟩|fail
 refine I2 A4 B6v B6i (λ(i:Nat) (w:List (List D)×Bool)=>[.arr 3 w.1.length,.d (eI i)]) (λi w=>[.cells [.d y],.cells [.d (eI op),.d (eI n),.d (eI v.k),.d (eI v.n),.d (.str v.s),.d (.str nm),.d da],.cells [.d (eI 0),.d (eI 0),.d (eI 0),.d (eI 0),.d (.str []),.d (.str []),.d .nil],.arr w.1 7 0 w.2]) (λi w=>i<=args.length/\w.1=Mt (O5 φ) args i/\w.2=w.1.isEmpty) (λi _=>args.length-i) 0 ([],true) rfl rfl rfl rfl (λ_ _ _=>⟨rfl,rfl⟩) rfl ⟨by omega,rfl,rfl⟩ ?_
 repeat' first|refine st ?_|refine⟨λ_=>?_,λ_=>?_⟩|fail
 intro i w ⟨h4,h5,h6⟩
 obtain⟨A,b⟩:=w
 dsimp only at h5 h6 ⊢
 have hAl:A.length=i:=by rw[h5];exact A05 _ args i (by omega)
 have hAm:∀e∈A,e.length=7:=by rw[h5];exact A06 _ _ _
 cases hx:args[i]? with
 |some x=>
  have hlt:=(A7.1 hx).1
  have hs:=A07 (φ:=O5 φ) hx
  have hg:=t8 hx
  have hi:=ih x (B9 hx) (b4 x (B9 hx))
  rw[<- h5] at hs
  have hL:∀os:List AO,os[0]?=some (.cells [.d y])->B0 Tryz.prog A3v [x.av,.clo g [0]] os (λr' os'=>r'=(O5 φ x).av/\os'=os.set 0 (.cells [.d y])):=λos ho=>B1G (id:=0) hi (λf=>A8J f _) ho
  obtain⟨z,hz⟩:∃z,z=O5 φ x:=⟨_,rfl⟩
  rw[<- hz] at hs hL
  obtain⟨o1,n1,v1,m1,l1,a1⟩:=x
  obtain⟨o2,n2,v2,m2,l2,a2⟩:=z
  rw[Ex.ds_mk] at hg hs
  simp only[Ex.av_mk] at hL
  repeat' first|refine st ?_|((with_reducible first|apply I5|apply I8);(·exact hL _ rfl);(try rintro _ _ ⟨rfl,rfl⟩))|((with_reducible apply I9);(·exact hL _ rfl))|refine⟨λ_=>?_,λ_=>?_⟩|fail
  exact⟨i+1,(A++[W6 o2 n2 v2 m2 (ng l2 (xL a2))],false),rfl,rfl,rfl,by omega,by omega,hs,by simp⟩
 |none=>
  have hge:=C8.1 hx
  rw[A04 hge] at h5
  have hx':(Ex.mk op n v nm true (args.map (O5 φ))).av=eX op n v nm (if A.isEmpty then .nil else .sl A):=by rw[Ex.av_mk,A8O,<- h5]
  have hφ:∀os:List AO,os[0]?=some (.cells [.d y])->B0 Tryz.prog g [(Ex.mk op n v nm true (args.map (O5 φ))).av,.ptr 0 0] os (λr' os'=>r'=(φ (.mk op n v nm true (args.map (O5 φ)))).av/\os'=os.set 0 (.cells [.d y])):=λos ho=>D5q (id:=0) (hg _) (λf=>A8J f _) ho
  rw[<- h6] at hx'
  by_cases h2:op=2
  ·rw[if_pos h2] at hZ
   obtain⟨z,hz⟩:∃z,z=φ (.mk op n v nm true (args.map (O5 φ))):=⟨_,rfl⟩
   rw[<- hz] at hZ hφ
   rw[hx'] at hφ
   obtain⟨o2,n2,v2,m2,l2,a2⟩:=z
   simp only[Ex.av_mk] at hZ hφ
   rw[hZ]
   cases b with
   |true=>
    rw[if_pos rfl] at hφ
    repeat' first|refine st ?_|((with_reducible first|apply I5|apply I8);(·exact hφ _ rfl);(try rintro _ _ ⟨rfl,rfl⟩))|((with_reducible apply I9);(·exact hφ _ rfl))|refine⟨λ_=>?_,λ_=>?_⟩|fail
    all_goals exact⟨rfl,rfl⟩
   |false=>
    rw[if_neg (by simp)] at hφ
    repeat' first|refine st ?_|((with_reducible first|apply I5|apply I8);(·exact hφ _ rfl);(try rintro _ _ ⟨rfl,rfl⟩))|((with_reducible apply I9);(·exact hφ _ rfl))|refine⟨λ_=>?_,λ_=>?_⟩|fail
    all_goals exact⟨rfl,rfl⟩
  ·rw[if_neg h2,hx'] at hZ
   rw[hZ]
   cases b with
   |true=>
    repeat' first|refine st ?_|refine⟨λ_=>?_,λ_=>?_⟩|fail
    all_goals exact⟨rfl,rfl⟩
   |false=>
    repeat' first|refine st ?_|refine⟨λ_=>?_,λ_=>?_⟩|fail
    all_goals exact⟨rfl,rfl⟩
def n7(k:Int):Ex->Ex
 |.mk op n v nm nl args=>.mk op (w64 (n+k)) v nm nl args
def B7(k:Int)(e:Ex):Ex:=O5 (n7 k) e
theorem C2H(k:Int)(x:Ex):B0 Tryz.prog A7T [x.av,.ptr 0 0] [.cells [.d (eI k)]] (λr os=>r=(n7 k x).av/\os=[.cells [.d (eI k)]]):=by
 obtain⟨op,n,v,nm,nl,args⟩:=x
 rw[n7,Ex.av_mk,Ex.av_mk]
 refine C64.goX A4 rfl ?_
 repeat' first|refine st ?_|refine⟨λ_=>?_,λ_=>?_⟩|fail
 all_goals exact⟨rfl,rfl⟩
theorem A5f(e:Ex)(he:e.bk<=1048576)(k:Int):Pure Tryz.prog B7q [e.av,.d (eI k)] (B7 k e).av:=by
 have hM:=B2L A7T (eI k) (n7 k) (C2H k) e he
 have hL:∀os:List AO,os[1]?=some (.cells [.d (eI k)])->B0 Tryz.prog A3v [e.av,.clo A7T [1]] os (λr' os'=>r'=(O5 (n7 k) e).av/\os'=os.set 1 (.cells [.d (eI k)])):=λos ho=>B1G (id:=1) hM (λf=>A8J f _) ho
 unfold B7
 obtain⟨z,hz⟩:∃z,z=O5 (n7 k) e:=⟨_,rfl⟩
 rw[<- hz] at hL ⊢
 obtain⟨o1,n1,v1,m1,l1,a1⟩:=e
 obtain⟨o2,n2,v2,m2,l2,a2⟩:=z
 simp only[Ex.av_mk] at hL ⊢
 refine C63.go A4 rfl ?_
 repeat' first|refine st ?_|((with_reducible first|apply I5|apply I8);(·exact hL _ rfl);(try rintro _ _ ⟨rfl,rfl⟩))|((with_reducible apply I9);(·exact hL _ rfl))|refine⟨λ_=>?_,λ_=>?_⟩|fail
 all_goals rfl
theorem C1R(k op n:Int)(v:Vl)(nm:List UInt8)(nl:Bool)(args:List Ex):B7 k (.mk op n v nm nl args)=.mk op (if op=2 then w64 (n+k) else n) v nm true (args.map (B7 k)):=by
 unfold B7
 rw[A4Q]
 by_cases h:op=2
 ·rw[if_pos h,if_pos h];rfl
 ·rw[if_neg h,if_neg h]
theorem C3U(k:Int):∀e:Ex,e.bk<=1048576->Pure Tryz.prog B6M [e.av,.d (eI k)] (B7 k e).av:=by
 refine Ex.ind λop n v nm nl args ih hb=>?_
 obtain⟨b1,b2,b3,b4⟩:=Ex.bk_bounds hb
 rw[C1R,Ex.av_mk]
 refine C5l.go A4 rfl ?_
 have h1:=I7 args
 have hm:=O7 args
 obtain⟨da,hda⟩:∃d,d=ng nl (xL args):=⟨_,rfl⟩
 have hsd:B3 da (xL args):=by rw[hda];exact t7
 rw[<- hda]
 have r0:v.k=v.k:=rfl
 have r1:v.s=v.s:=rfl
 have r2:nm=nm:=rfl
 obtain⟨n',hn'⟩:∃n',n'=(if op=2 then w64 (n+k) else n):=⟨_,rfl⟩
 rw[<- hn',Ex.av_mk,A8O]
 by_cases h2:op=2
 ·rw[if_pos h2] at hn'
  subst hn'
  repeat' first|refine st ?_|refine⟨λ_=>?_,λ_=>?_⟩|fail
  refine A3g 2 6 7 rfl rfl rfl ?_
  refine I2 A4 B6n B6a (λ(i:Nat) (w:List (List D)×Bool)=>[.d (eI i)]) (λi w=>[.cells [.d (eI op),.d (eI n),.d (eI v.k),.d (eI v.n),.d (.str v.s),.d (.str nm),.d da],.cells [.d (eI 0),.d (eI 0),.d (eI 0),.d (eI 0),.d (.str []),.d (.str []),.d .nil],.cells [.d (eI op),.d (eI (w64 (n+k))),.d (eI v.k),.d (eI v.n),.d (.str v.s),.d (.str nm),.arr 3 w.1.length],.arr w.1 7 0 w.2]) (λi w=>i<=args.length/\w.1=Mt (B7 k) args i/\w.2=w.1.isEmpty) (λi _=>args.length-i) 0 ([],true) rfl rfl rfl rfl (λ_ _ _=>⟨rfl,rfl⟩) rfl ⟨by omega,rfl,rfl⟩ ?_
  repeat' first|refine st ?_|refine⟨λ_=>?_,λ_=>?_⟩|fail
  intro i w ⟨h4,h5,h6⟩
  obtain⟨A,b⟩:=w
  dsimp only at h5 h6 ⊢
  have hAl:A.length=i:=by rw[h5];exact A05 _ args i (by omega)
  have hAm:∀e∈A,e.length=7:=by rw[h5];exact A06 _ _ _
  cases hx:args[i]? with
  |some x=>
   have hlt:=(A7.1 hx).1
   have hs:=A07 (φ:=B7 k) hx
   have hg:=t8 hx
   have hi:=ih x (B9 hx) (b4 x (B9 hx))
   rw[<- h5] at hs
   obtain⟨z,hz⟩:∃z,z=B7 k x:=⟨_,rfl⟩
   rw[<- hz] at hs hi
   obtain⟨o1,n1,v1,m1,l1,a1⟩:=x
   obtain⟨o2,n2,v2,m2,l2,a2⟩:=z
   rw[Ex.ds_mk] at hg hs
   rw[Ex.av_mk,Ex.av_mk] at hi
   repeat' first|refine st ?_|refine⟨λ_=>?_,λ_=>?_⟩|fail
   exact⟨i+1,(A++[W6 o2 n2 v2 m2 (ng l2 (xL a2))],false),rfl,rfl,rfl,by omega,by omega,hs,by simp⟩
  |none=>
   have hge:=C8.1 hx
   rw[A04 hge] at h5
   rw[<- h5,<- h6]
   cases b with
   |true=>
    rw[if_pos rfl]
    repeat' first|refine st ?_|refine⟨λ_=>?_,λ_=>?_⟩|fail
    all_goals rfl
   |false=>
    rw[if_neg (by simp)]
    repeat' first|refine st ?_|refine⟨λ_=>?_,λ_=>?_⟩|fail
    all_goals rfl
 ·rw[if_neg h2] at hn'
  rw[hn']
  repeat' first|refine st ?_|refine⟨λ_=>?_,λ_=>?_⟩|fail
  refine A3g 2 6 7 rfl rfl rfl ?_
  refine I2 A4 B6n B6a (λ(i:Nat) (w:List (List D)×Bool)=>[.d (eI i)]) (λi w=>[.cells [.d (eI op),.d (eI n),.d (eI v.k),.d (eI v.n),.d (.str v.s),.d (.str nm),.d da],.cells [.d (eI 0),.d (eI 0),.d (eI 0),.d (eI 0),.d (.str []),.d (.str []),.d .nil],.cells [.d (eI op),.d (eI n),.d (eI v.k),.d (eI v.n),.d (.str v.s),.d (.str nm),.arr 3 w.1.length],.arr w.1 7 0 w.2]) (λi w=>i<=args.length/\w.1=Mt (B7 k) args i/\w.2=w.1.isEmpty) (λi _=>args.length-i) 0 ([],true) rfl rfl rfl rfl (λ_ _ _=>⟨rfl,rfl⟩) rfl ⟨by omega,rfl,rfl⟩ ?_
  repeat' first|refine st ?_|refine⟨λ_=>?_,λ_=>?_⟩|fail
  intro i w ⟨h4,h5,h6⟩
  obtain⟨A,b⟩:=w
  dsimp only at h5 h6 ⊢
  have hAl:A.length=i:=by rw[h5];exact A05 _ args i (by omega)
  have hAm:∀e∈A,e.length=7:=by rw[h5];exact A06 _ _ _
  cases hx:args[i]? with
  |some x=>
   have hlt:=(A7.1 hx).1
   have hs:=A07 (φ:=B7 k) hx
   have hg:=t8 hx
   have hi:=ih x (B9 hx) (b4 x (B9 hx))
   rw[<- h5] at hs
   obtain⟨z,hz⟩:∃z,z=B7 k x:=⟨_,rfl⟩
   rw[<- hz] at hs hi
   obtain⟨o1,n1,v1,m1,l1,a1⟩:=x
   obtain⟨o2,n2,v2,m2,l2,a2⟩:=z
   rw[Ex.ds_mk] at hg hs
   rw[Ex.av_mk,Ex.av_mk] at hi
   repeat' first|refine st ?_|refine⟨λ_=>?_,λ_=>?_⟩|fail
   exact⟨i+1,(A++[W6 o2 n2 v2 m2 (ng l2 (xL a2))],false),rfl,rfl,rfl,by omega,by omega,hs,by simp⟩
  |none=>
   have hge:=C8.1 hx
   rw[A04 hge] at h5
   rw[<- h5,<- h6]
   cases b with
   |true=>
    rw[if_pos rfl]
    repeat' first|refine st ?_|refine⟨λ_=>?_,λ_=>?_⟩|fail
    all_goals rfl
   |false=>
    rw[if_neg (by simp)]
    repeat' first|refine st ?_|refine⟨λ_=>?_,λ_=>?_⟩|fail
    all_goals rfl
end Go.Proofs
end
section
namespace Go.Bi
theorem A0J{f:Nat->Nat}{k:Nat}(hf:∀i,i<k->f i=i){c:AV}(h:c.bnd1 k):mC f c=c:=by
 cases c with
 |ptr id off=>simp only[mC];rw[hf id h]
 |aptr id len i off=>simp only[mC];rw[hf id h]
 |arr id len=>simp only[mC];rw[hf id h]
 |clo g caps=>
  simp only[mC]
  congr 1
  conv=>rhs;rw[<- A02 caps]
  exact T9 λi hi=>hf i (h i hi)
 |iter id=>simp only[mC];rw[hf id h]
 |mp id=>simp only[mC];rw[hf id h]
 |mit id=>simp only[mC];rw[hf id h]
 |rs id len=>simp only[mC];rw[hf id h]
 |rp id len i off=>simp only[mC];rw[hf id h]
 |_=>rfl
theorem C0t{f:Nat->Nat}{k:Nat}(hf:∀i,i<k->f i=i){c:AV}(h:c.bnd2 k):mG f c=c:=by
 cases c with
 |agg cs=>
  simp only[mG]
  congr 1
  conv=>rhs;rw[<- A02 cs]
  exact T9 λc hc=>A0J hf (h c hc)
 |ptr id off=>exact A0J (c:=.ptr id off) hf h
 |aptr id len i off=>exact A0J (c:=.aptr id len i off) hf h
 |arr id len=>exact A0J (c:=.arr id len) hf h
 |clo g caps=>exact A0J (c:=.clo g caps) hf h
 |iter id=>exact A0J (c:=.iter id) hf h
 |mp id=>exact A0J (c:=.mp id) hf h
 |mit id=>exact A0J (c:=.mit id) hf h
 |rs id len=>exact A0J (c:=.rs id len) hf h
 |rp id len i off=>exact A0J (c:=.rp id len i off) hf h
 |_=>rfl
theorem C0u{f:Nat->Nat}{k:Nat}(hf:∀i,i<k->f i=i){o:AO}(h:o.bnd k):mO f o=o:=by
 cases o with
 |cells cs=>
  simp only[mO]
  congr 1
  conv=>rhs;rw[<- A02 cs]
  exact T9 λc hc=>A0J hf (h c hc)
 |map kvs=>
  simp only[mO]
  congr 1
  conv=>rhs;rw[<- A02 kvs]
  exact T9 λp hp=>by rw[C0t hf (h p hp)];rfl
 |mit m n s=>simp only[mO];rw[hf m h]
 |rarr es sz nl=>
  simp only[mO]
  congr 1
  conv=>rhs;rw[<- A02 es]
  refine T9 λe he=>?_
  conv=>rhs;rw[id,<- A02 e]
  exact T9 λc hc=>A0J hf (h e he c hc)
 |_=>rfl
theorem B0.pre{P:Program}{g:FuncId}{args:List AV}{bs:List AO}{Q:AV->List AO->Prop}(h:B0 P g args bs Q)(rest:List AO)(hba:∀a∈args,a.bnd2 bs.length)(hbo:∀o∈bs,o.bnd bs.length){K:AV->List AO->Prop}
  (hk:∀r bs',Q r bs'->bs'.length=bs.length/\(∀o∈bs',o.bnd bs.length)/\(∀f,mA f r=r)/\K r (bs'++rest)):B0 P g args (bs++rest) K:=by
 have hf:∀n i,i<bs.length->rn (List.range bs.length) n i=i:=λn i hi=>by
  rw[B21 (by simpa using hi),E8]
  simp[hi]
 have:=B0.frame (K:=K) h (List.range bs.length) (bs++rest) (by simp) List.nodup_range (λi o hx=>?_) hba hbo (λr bs' hq=>?_)
 ·have e:args.map (mG (rn (List.range bs.length) (bs++rest).length))=args:=by
   conv=>rhs;rw[<- A02 args]
   exact T9 λa ha=>C0t (hf _) (hba a ha)
  rwa [e] at this
 ·have hi:=(A7.1 hx).1
  have e:=hf (bs++rest).length i hi
  rw[B21 (by simpa using hi)] at e
  rw[e,K4 hi,hx,C0u (hf _) (hbo o (B9 hx))]
 ·obtain⟨h1,h2,h3,h4⟩:=hk r bs' hq
  rw[h3]
  obtain⟨g1,g2,g3,g4⟩:=B1X (rn (List.range bs.length) (bs++rest).length) (List.range bs.length) bs' (bs++rest) List.nodup_range (λs hs=>by simp at hs ⊢;omega) (by simp[h1])
  have e:T6 (rn (List.range bs.length) (bs++rest).length) (List.range bs.length) bs' (bs++rest)=bs'++rest:=by
   refine A3o λj=>?_
   rcases Nat.lt_or_ge j bs.length with hj|hj
   ·have hb:bs'[j]?=some bs'[j]:=C3 (by omega)
    rw[g1 j j _ (by simp[hj]) hb,K4 (by omega),hb,C0u (hf _) (h2 _ (B9 hb))]
   ·rcases Nat.lt_or_ge j (bs++rest).length with hj2|hj2
    ·rw[g2 j hj2 (by simp;omega),P8 hj,P8 (by omega),h1]
    ·rw[A0p (by rw[g4];simp at hj2 ⊢;omega),A0p (by simp at hj2 ⊢;omega)]
  rw[e]
  exact h4
end Go.Bi
namespace Go.Proofs
open Go.Bi
end Go.Proofs
end
section
namespace Go.Proofs
open Go.Bi
theorem D47:Bi.Enters Tryz.prog B0v:=⟨_,Tryz.func176,by kernel_rfl,by decide⟩
theorem D46:Bi.Enters Tryz.prog B0t:=⟨_,Tryz.func177,by kernel_rfl,by decide⟩
def R8(zs:List Int):List Int:=zs.mergeSort λx y=>decide (x<=y)
theorem C1X(zs:List Int):(R8 zs).length=zs.length:=by simp[R8]
def B8T(zs:List Int):List Int:=Lib.compact zs++List.replicate (zs.length-(Lib.compact zs).length) 0
theorem B0P(n:Nat)(es:List (List D))(sz frz:Nat)(nl:Bool):(AO.arr es sz frz nl).bnd n:=by simp[AO.bnd]
theorem C4J(zs:List Int)(nl:Bool)(hz:zs.length<4611686018427387904){os:List AO}{id:Nat}(ho:os[id]?=some (.arr (A0 zs) 1 0 nl)) :
  B0 Tryz.prog B0v [.arr id (A0 zs).length] os (λr os'=>r=.tup []/\os'=os.set id (.arr (A0 (R8 zs)) 1 0 nl)):=
 B1F (λid=>[.arr id (A0 zs).length]) (D7m Tryz.lays189 D47 zs nl hz) (λ_=>rfl) (λ_=>rfl) (λ_=>rfl) (λ_ _=>rfl) (by simp[AV.bnd2,AV.bnd1]) (B0P ..) ho
theorem C4F(zs:List Int)(nl:Bool)(hz:zs.length<=9223372036854775807){os:List AO}{id:Nat}(ho:os[id]?=some (.arr (A0 zs) 1 0 nl)) :
  B0 Tryz.prog B0t [.arr id (A0 zs).length] os (λr os'=>r=.d (if nl then .nil else .sl (A0 (Lib.compact zs)))/\os'=os.set id (.arr (A0 (B8T zs)) 1 (if nl then 0 else (Lib.compact zs).length) nl)):=
 B1F (λid=>[.arr id (A0 zs).length]) (D3o Tryz.laysNm220 D46 zs nl hz) (λ_=>rfl) (λ_=>rfl) (λ_=>rfl) (λ_ _=>rfl) (by simp[AV.bnd2,AV.bnd1]) (B0P ..) ho
mutual
def L0:Ex->List Int
 |.mk op n v nm nl args=>(if op=2 then [n] else [])++A6O args
def A6O:List Ex->List Int
 |[]=>[]
 |a::l=>L0 a++A6O l
end
theorem C1m:∀l,A6O l=l.flatMap L0
 |[]=>by simp[A6O]
 |a::l=>by simp[A6O,C1m l]
theorem A3T(op n:Int)(v:Vl)(nm:List UInt8)(nl:Bool)(args:List Ex):L0 (.mk op n v nm nl args)=(if op=2 then [n] else [])++args.flatMap L0:=by rw[L0,C1m]
theorem B9B{l:List Ex}{f:Ex->List Int}(h:∀a∈l,(f a).length<=a.bk):(l.flatMap f).length<=H4 (xL l):=by
 induction l with
 |nil=>simp
 |cons a l ih=>
  have h1:=h a (by simp)
  have h2:=ih λb hb=>h b (by simp[hb])
  rw[A28,J0]
  simp only[xL,Q8,H4]
  unfold Ex.bk at h1
  unfold xL at h2
  omega
theorem A8V:∀e:Ex,(L0 e).length<=e.bk:=by
 refine Ex.ind λop n v nm nl args ih=>?_
 have hb:=Ex.bk_mk op n v nm nl args
 have:=B9B ih
 rw[A3T,J0]
 split<;>simp only[H7,P9]<;>omega
def own(op n:Int):List Int:=if op=2 then [n] else []
theorem D3X(a b:List Int):A0 (a++b)=A0 a++A0 b:=by simp[A0]
theorem C2E(op n:Int)(v:Vl)(nm:List UInt8)(d:D)(zs:List Int)(hz:zs.length<=4194304) :
  B0 Tryz.prog A4n [eX op n v nm d,.ptr 0 0] [.cells [.arr 1 (A0 zs).length],.arr (A0 zs) 1 0 (A0 zs).isEmpty] (λr os=>r=.tup []/\os=[.cells [.arr 1 (A0 (zs++own op n)).length],.arr (A0 (zs++own op n)) 1 0 (A0 (zs++own op n)).isEmpty]):=by
 obtain⟨b,hb⟩:∃b,b=(A0 zs).isEmpty:=⟨_,rfl⟩
 rw[<- hb]
 have hl:=B4 zs
 unfold own
 by_cases h:op=2
 ·rw[if_pos h,D3X]
  have e1:(A0 zs++A0 [n]).isEmpty=false:=by simp[A0]
  rw[e1]
  refine B3o.goX A4 rfl ?_
  repeat' first|refine st ?_|refine⟨λ_=>?_,λ_=>?_⟩|fail
  all_goals exact⟨rfl,by simp[A0]⟩
 ·rw[if_neg h,u7,<- hb]
  refine B3o.goX A4 rfl ?_
  repeat' first|refine st ?_|refine⟨λ_=>?_,λ_=>?_⟩|fail
  all_goals exact⟨rfl,rfl⟩
theorem A6x{α:Type}{x a b:α}(h:x∈[a,b]):x=a\/x=b:=by simpa using h
theorem C1g{g:FuncId}{ds:List D}{a:AV}(ha:a.bnd2 2){zs ys:List Int}(h:B0 Tryz.prog g [.agg (ds.map .d),a] [.cells [.arr 1 (A0 zs).length],.arr (A0 zs) 1 0 (A0 zs).isEmpty] (λr os=>r=.tup []/\os=[.cells [.arr 1 (A0 ys).length],.arr (A0 ys) 1 0 (A0 ys).isEmpty]))(rest:List AO) :
  B0 Tryz.prog g [.agg (ds.map .d),a] ([.cells [.arr 1 (A0 zs).length],.arr (A0 zs) 1 0 (A0 zs).isEmpty]++rest) (λr os=>r=.tup []/\os=[.cells [.arr 1 (A0 ys).length],.arr (A0 ys) 1 0 (A0 ys).isEmpty]++rest):=by
 refine B0.pre h rest (λx hx=>?_) (λo ho=>?_) ?_
 ·rcases A6x hx with rfl|rfl
  ·exact B0Q _ _
  ·exact ha
 ·rcases A6x ho with rfl|rfl<;>simp[AO.bnd,AV.bnd1]
 ·rintro r bs' ⟨rfl,rfl⟩
  refine⟨rfl,λo ho=>?_,λf=>rfl,rfl,rfl⟩
  rcases A6x ho with rfl|rfl<;>simp[AO.bnd,AV.bnd1]
theorem D6O{l:List Ex}{i:Nat}{x:Ex}(h:l[i]?=some x):(l.take (i+1)).flatMap L0=(l.take i).flatMap L0++L0 x:=by
 rw[P1,h];simp
theorem D6N(l:List Ex)(i:Nat):((l.take i).flatMap L0).length<=H4 (xL l):=by
 have h1:((l.take i).flatMap L0).length<=(l.flatMap L0).length:=by
  conv=>rhs;rw[<- List.take_append_drop i l,List.flatMap_append,J0]
  omega
 have h2:=B9B (l:=l) (f:=L0) (λa _=>A8V a)
 omega
theorem C1n:∀{l:List Ex}{i:Nat}{x:Ex},l[i]?=some x->((l.take i).flatMap L0).length+x.bk<=H4 (xL l)
 |[],i,x,h=>by simp at h
 |a::l,0,x,h=>by
  simp at h
  subst h
  simp only[xL,Q8,H4,List.take_zero,List.flatMap_nil,P9]
  unfold Ex.bk
  omega
 |a::l,i+1,x,h=>by
  have:=C1n (l:=l) (i:=i) (x:=x) (by simpa using h)
  have h1:=A8V a
  rw[A3t,A28,J0]
  simp only[xL,Q8,H4]
  unfold Ex.bk at *
  unfold xL at this
  omega
theorem C50:∀e:Ex,e.bk<=1048576->∀zs:List Int,zs.length+e.bk<=2097152->B0 Tryz.prog A7W [e.av,.clo A4n [0]] [.cells [.arr 1 (A0 zs).length],.arr (A0 zs) 1 0 (A0 zs).isEmpty] (λr os=>r=.tup []/\os=[.cells [.arr 1 (A0 (zs++L0 e)).length],.arr (A0 (zs++L0 e)) 1 0 (A0 (zs++L0 e)).isEmpty]):=by
 refine Ex.ind λop n v nm nl args ih hb zs hz=>?_
 obtain⟨b1,b2,b3,b4⟩:=Ex.bk_bounds hb
 have hbm:=Ex.bk_mk op n v nm nl args
 have hC1:∀rest,B0 Tryz.prog A4n [eX op n v nm (ng nl (xL args)),.ptr 0 0] ([.cells [.arr 1 (A0 zs).length],.arr (A0 zs) 1 0 (A0 zs).isEmpty]++rest) (λr os=>r=.tup []/\os=[.cells [.arr 1 (A0 (zs++own op n)).length],.arr (A0 (zs++own op n)) 1 0 (A0 (zs++own op n)).isEmpty]++rest):=λrest=>
  C1g (ds:=W6 op n v nm (ng nl (xL args))) (by simp[AV.bnd2,AV.bnd1]) (C2E op n v nm _ zs (by omega)) rest
 rw[A3T,<- own,<- List.append_assoc,Ex.av_mk]
 obtain⟨z1,hz1⟩:∃z,z=zs++own op n:=⟨_,rfl⟩
 have hz1l:z1.length<=zs.length+1:=by
  rw[hz1,J0]
  unfold own
  split<;>simp
 rw[<- hz1] at hC1 ⊢
 have h1:=I7 args
 have hm:=O7 args
 obtain⟨da,hda⟩:∃d,d=ng nl (xL args):=⟨_,rfl⟩
 have hsd:B3 da (xL args):=by rw[hda];exact t7
 rw[<- hda] at hC1 ⊢
 have r0:v.k=v.k:=rfl
 have r1:v.s=v.s:=rfl
 have r2:nm=nm:=rfl
 refine C6e.goX A4 rfl ?_
 obtain⟨e0,he0⟩:∃b,b=(A0 zs).isEmpty:=⟨_,rfl⟩
 rw[<- he0] at hC1 ⊢
 repeat' first|refine st ?_|((with_reducible first|apply I5|apply I8);(·exact hC1 _);(try rintro _ _ ⟨rfl,rfl⟩))|((with_reducible apply I9);(·exact hC1 _))|refine⟨λ_=>?_,λ_=>?_⟩|fail
 refine F2 A4 C9d C85 (λ(i:Nat)=>[.d (eI i)]) (λi=>[.cells [.arr 1 (A0 (z1++(args.take i).flatMap L0)).length],.arr (A0 (z1++(args.take i).flatMap L0)) 1 0 (A0 (z1++(args.take i).flatMap L0)).isEmpty]++[.cells [.d (eI op),.d (eI n),.d (eI v.k),.d (eI v.n),.d (.str v.s),.d (.str nm),.d da]]) (λi=>i<=args.length) (λi=>args.length-i) 0 rfl rfl rfl (by simp) (λ_ _=>⟨rfl,rfl⟩) rfl (R1 _) ?_
 repeat' first|refine st ?_|refine⟨λ_=>?_,λ_=>?_⟩|fail
 intro i h4
 have hrl:=D6N args i
 cases hx:args[i]? with
 |some x=>
  have hlt:=(A7.1 hx).1
  have hgx:=t8 hx
  have hxm:=B9 hx
  have hxb:E4 x.ds<=H4 (xL args):=A2g (D9.2 ⟨x,hxm,rfl⟩)
  have hxk:=Ex.bk_arg (op:=op) (n:=n) (v:=v) (name:=nm) (nl:=nl) hxm
  have hs:=D6O hx
  obtain⟨t,ht⟩:∃t,t=z1++(args.take i).flatMap L0:=⟨_,rfl⟩
  have hi:=ih x hxm (b4 x hxm) t (by
   have h0:=C1n hx
   rw[ht,J0]
   omega)
  have hn:z1++(args.take (i+1)).flatMap L0=t++L0 x:=by rw[hs,ht,List.append_assoc]
  rw[<- hn] at hi
  rw[<- ht]
  have hL:=λrest=>C1g (ds:=x.ds) (by simp[AV.bnd2,AV.bnd1]) hi rest
  obtain⟨e1,he1⟩:∃b,b=(A0 t).isEmpty:=⟨_,rfl⟩
  rw[<- he1] at hL ⊢
  obtain⟨o1,n1,v1,m1,l1,a1⟩:=x
  rw[Ex.ds_mk] at hgx hL
  repeat' first|refine st ?_|((with_reducible first|apply I5|apply I8);(·exact hL _);(try rintro _ _ ⟨rfl,rfl⟩))|((with_reducible apply I9);(·exact hL _))|refine⟨λ_=>?_,λ_=>?_⟩|fail
  exact⟨i+1,rfl,rfl,rfl,by omega,by omega⟩
 |none=>
  have hge:=C8.1 hx
  rw[J5 hge]
  repeat' first|refine st ?_|refine⟨λ_=>?_,λ_=>?_⟩|fail
  all_goals exact⟨rfl,rfl⟩
end Go.Proofs
end
section
namespace Go.Proofs
open Go.Bi
def l4(l:List Int):Prop:=l.Pairwise (·<·)
theorem B8q:∀{l m:List Int},l4 l->l4 m->(∀x,x∈l↔x∈m)->l=m
 |[],[],_,_,_=>rfl
 |[],b::m,_,_,h=>by have:=(h b).2 (by simp);simp at this
 |a::l,[],_,_,h=>by have:=(h a).1 (by simp);simp at this
 |a::l,b::m,h1,h2,h=>by
  have g1:=A03.1 h1
  have g2:=A03.1 h2
  have hab:a=b:=by
   have ha:=(h a).1 (by simp)
   have hb:=(h b).2 (by simp)
   rcases I6.1 ha with e|ha
   ·exact e
   ·rcases I6.1 hb with e|hb
    ·exact e.symm
    ·have q1:=g1.1 b hb
     have q2:=g2.1 a ha
     omega
  subst hab
  congr 1
  refine B8q g1.2 g2.2 λx=>⟨λhx=>?_,λhx=>?_⟩
  ·have q:=g1.1 x hx
   rcases I6.1 ((h x).1 (J2 _ hx)) with e|hx'
   ·omega
   ·exact hx'
  ·have q:=g2.1 x hx
   rcases I6.1 ((h x).2 (J2 _ hx)) with e|hx'
   ·omega
   ·exact hx'
theorem B8X(d:Array Int)(hs:∀i j:Nat,i<=j->j<d.size->d[i]!<=d[j]!):∀m,m<=d.size->l4 (Lib.compactUpTo d m)/\∀x,x∈Lib.compactUpTo d m↔∃j,j<m/\d[j]! = x
 |0,_=>by
  refine⟨by simp[Lib.compactUpTo,l4],λx=>?_⟩
  simp[Lib.compactUpTo]
 |m+1,hm=>by
  obtain⟨h1,h2⟩:=B8X d hs m (by omega)
  rw[Lib.compactUpTo_succ]
  cases hk:Lib.keeps d m with
  |true=>
   rw[if_pos rfl]
   have hk':m=0\/d[m]!≠d[m-1]!:=of_decide_eq_true hk
   constructor
   ·refine List.pairwise_append.2 ⟨h1,by simp,λx hx y hy=>?_⟩
    simp at hy
    subst hy
    obtain⟨j,hj,rfl⟩:=(h2 x).1 hx
    have q1:=hs j (m-1) (by omega) (by omega)
    have q2:=hs (m-1) m (by omega) (by omega)
    rcases hk' with h0|hne
    ·omega
    ·omega
   ·intro x
    rw[P4,h2]
    constructor
    ·rintro(⟨j,hj,e⟩|hx)
     ·exact⟨j,by omega,e⟩
     ·simp at hx;exact⟨m,by omega,hx.symm⟩
    ·rintro⟨j,hj,e⟩
     rcases Nat.lt_succ_iff_lt_or_eq.1 hj with h|rfl
     ·exact .inl ⟨j,h,e⟩
     ·exact .inr (by simp[e])
  |false=>
   rw[if_neg (by decide),u7]
   have hk':¬(m=0\/d[m]!≠d[m-1]!):=of_decide_eq_false hk
   refine⟨h1,λx=>?_⟩
   rw[h2]
   constructor
   ·rintro⟨j,hj,e⟩;exact⟨j,by omega,e⟩
   ·rintro⟨j,hj,e⟩
    rcases Nat.lt_succ_iff_lt_or_eq.1 hj with h|rfl
    ·exact⟨j,h,e⟩
    ·have q1:¬j=0:=λe=>hk' (.inl e)
     have q2:d[j]! = d[j-1]!:=Classical.byContradiction λe=>hk' (.inr e)
     exact⟨j-1,by omega,by rw[<- q2];exact e⟩
theorem B8Z(zs:List Int):l4 (Lib.compact (R8 zs))/\∀x,x∈Lib.compact (R8 zs)↔x∈zs:=by
 have hp:(R8 zs).Pairwise λa b=>a<=b:=by
  have:=List.pairwise_mergeSort (le:=λx y:Int=>decide (x<=y)) (by intro a b c h1 h2;simp at *;omega) (by intro a b;simp;omega) zs
  refine this.imp λh=>?_
  simpa using h
 have hsz:(R8 zs).toArray.size=(R8 zs).length:=by simp
 have hget:∀i,i<(R8 zs).length->(R8 zs).toArray[i]! = (R8 zs).getD i 0:=by
  intro i hi
  rw[getElem!_pos _ i (by simpa using hi),E8,C3 hi]
  simp
 have hs:∀i j:Nat,i<=j->j<(R8 zs).toArray.size->(R8 zs).toArray[i]!<=(R8 zs).toArray[j]!:=by
  intro i j hij hj
  rw[hsz] at hj
  rw[hget i (by omega),hget j hj]
  rcases Nat.lt_or_ge i j with h|h
  ·have:=List.pairwise_iff_getElem.1 hp i j (by omega) hj h
   rw[E8,E8,C3 (show i<_ by omega),C3 hj]
   exact this
  ·obtain rfl:i=j:=by omega
   exact Int.le_refl _
 obtain⟨h1,h2⟩:=B8X (R8 zs).toArray hs (R8 zs).length (by simp)
 refine⟨h1,λx=>?_⟩
 unfold Lib.compact
 rw[h2]
 have hmem:x∈R8 zs↔x∈zs:=by unfold R8;exact List.mem_mergeSort
 rw[<- hmem,A1t]
 constructor
 ·rintro⟨j,hj,e⟩
  refine⟨j,?_⟩
  rw[hget j hj,E8,C3 hj] at e
  rw[C3 hj]
  exact congrArg some e
 ·rintro⟨j,e⟩
  have hj:=(A7.1 e).1
  refine⟨j,hj,?_⟩
  rw[hget j hj,E8,e];rfl
def N7(e:Ex):List Int:=Lib.compact (R8 (L0 e))
def A4x(e:Ex):D:=if (A0 (L0 e)).isEmpty then .nil else .sl (A0 (N7 e))
theorem D3l(e:Ex):l4 (N7 e):=(B8Z (L0 e)).1
theorem A8g(e:Ex)(x:Int):x∈N7 e↔x∈L0 e:=(B8Z (L0 e)).2 x
theorem A4y(e:Ex):(N7 e).length<=e.bk:=by
 have h1:=B8Y (R8 (L0 e))
 have h2:=C1X (L0 e)
 have h3:=A8V e
 unfold N7
 omega
theorem D3k(e:Ex):B3 (A4x e) (A0 (N7 e)):=by
 unfold A4x
 split
 ·rename_i h
  have:L0 e=[]:=by
   cases hx:L0 e with
   |nil=>rfl
   |cons a l=>rw[hx] at h;cases h
  refine .inl ⟨rfl,?_⟩
  have hc:N7 e=[]:=by
   rw[List.eq_nil_iff_forall_not_mem]
   intro x hx
   rw[A8g,this] at hx
   cases hx
  rw[hc];rfl
 ·exact .inr rfl
theorem C3w(e:Ex)(he:e.bk<=1048576):Pure Tryz.prog B7o [e.av] (.d (A4x e)):=by
 have hv:=C50 e he [] (by simp;omega)
 rw[A1v] at hv
 have hrl:=A8V e
 unfold A4x N7
 obtain⟨zs,hzs⟩:∃z,z=L0 e:=⟨_,rfl⟩
 rw[<- hzs] at hv hrl ⊢
 have hb:∀ds:List D,B0 Tryz.prog A7W [.agg (ds.map .d),.clo A4n [0]] [.cells [.arr 1 0],.arr [] 1 0 true] (λr os=>r=.tup []/\os=[.cells [.arr 1 (A0 zs).length],.arr (A0 zs) 1 0 (A0 zs).isEmpty])->∀E:List AV,B0 Tryz.prog A7W [.agg (ds.map .d),.clo A4n [1]] [.cells E,.cells [.d .nil]] (λr os=>r=.tup []/\os=[.cells E,.cells [.arr 2 (A0 zs).length],.arr (A0 zs) 1 0 (A0 zs).isEmpty]):=by
  intro ds hE E
  refine B0.nilc 1 0 1 rfl (cs:=[.d .nil]) rfl rfl ?_
  have:=B0.frame (K:=λr os=>r=.tup []/\os=[.cells E,.cells [.arr 2 (A0 zs).length],.arr (A0 zs) 1 0 (A0 zs).isEmpty]) hE [1,2] [.cells E,.cells [.arr 2 0],.arr [] 1 0 true] rfl (by decide) (λi o h=>by
   match i,h with
   |0,h=>cases h;rfl
   |1,h=>cases h;rfl
   |i+2,h=>simp at h) (λa ha=>by
    rcases A6x ha with rfl|rfl
    ·exact B0Q _ _
    ·simp[AV.bnd2,AV.bnd1]) (λo ho=>by
    rcases A6x ho with rfl|rfl<;>simp[AO.bnd,AV.bnd1]) (by rintro r bs' ⟨rfl,rfl⟩;exact⟨rfl,rfl⟩)
  rw[Q8,Q8,List.map_nil,C0s] at this
  exact this
 have hB:=hb e.ds hv
 obtain⟨op,n,v,nm,nl,args⟩:=e
 rw[Ex.ds_mk] at hB
 rw[Ex.av_mk]
 obtain⟨b,hbb⟩:∃b,b=(A0 zs).isEmpty:=⟨_,rfl⟩
 rw[<- hbb] at hB ⊢
 have s1:∀(os:List AO) (id:Nat),os[id]?=some (.arr (A0 zs) 1 0 b)->B0 Tryz.prog B0v [.arr id (A0 zs).length] os (λr os'=>r=.tup []/\os'=os.set id (.arr (A0 (R8 zs)) 1 0 b)):=λos id ho=>C4J zs b (by omega) ho
 have hsl:=C1X zs
 have hle:(A0 zs).length=(A0 (R8 zs)).length:=by rw[B4,B4,hsl]
 have s2:∀(os:List AO) (id:Nat),os[id]?=some (.arr (A0 (R8 zs)) 1 0 b)->B0 Tryz.prog B0t [.arr id (A0 zs).length] os (λr os'=>r=.d (if b then .nil else .sl (A0 (Lib.compact (R8 zs))))/\os'=os.set id (.arr (A0 (B8T (R8 zs))) 1 (if b then 0 else (Lib.compact (R8 zs)).length) b)):=λos id ho=>by rw[hle];exact C4F (R8 zs) b (by omega) ho
 refine C61.go A4 rfl ?_
 cases b with
 |true=>
  repeat' first|(with_reducible apply A35)|refine st ?_|((with_reducible first|apply I5|apply I8);(·first|exact hB _|exact s1 _ _ rfl|exact s2 _ _ rfl);(try rintro _ _ ⟨rfl,rfl⟩))|((with_reducible apply I9);(·first|exact hB _|exact s1 _ _ rfl|exact s2 _ _ rfl))|refine⟨λ_=>?_,λ_=>?_⟩|fail
  all_goals rfl
 |false=>
  repeat' first|(with_reducible apply A35)|refine st ?_|((with_reducible first|apply I5|apply I8);(·first|exact hB _|exact s1 _ _ rfl|exact s2 _ _ rfl);(try rintro _ _ ⟨rfl,rfl⟩))|((with_reducible apply I9);(·first|exact hB _|exact s1 _ _ rfl|exact s2 _ _ rfl))|refine⟨λ_=>?_,λ_=>?_⟩|fail
  all_goals rfl
end Go.Proofs
end
section
namespace Go.Proofs
open Go.Bi
def A1K(kvs:List (D×AV))(c:Int):Int:=match J6 .i (eI c) kvs with
 |some (.d (.int _ n))=>n
 |_=>0
def Q6(kvs:List (D×AV))(c:Int):List (D×AV):=K9 .i (eI c) (.d (eI (A1K kvs c+1))) kvs
structure R4(l:List Int)(kvs:List (D×AV)):Prop where
 ks:∀p∈kvs,∃t n,p=(eI t,.d (eI n))
 ct:∀c,A1K kvs c=(l.count c:Nat)
theorem R4.nil:R4 [] []:=⟨λp hp=>by simp at hp,λc=>by simp[A1K,J6]⟩
theorem R4.str{l:List Int}{kvs:List (D×AV)}(h:R4 l kvs):∀p∈kvs,∃t,p.1=eI t:=λp hp=>by
 obtain⟨t,n,rfl⟩:=h.ks p hp;exact⟨t,rfl⟩
theorem R4.lk{l:List Int}{kvs:List (D×AV)}(h:R4 l kvs)(c:Int):lkR false (zv false [.int .i64 0]) (J6 .i (eI c) kvs)=.d (eI (l.count c:Nat)):=by
 rw[<- h.ct c]
 unfold A1K
 have key:∀{kvs:List (D×AV)},(∀p∈kvs,∃t n,p=(eI t,.d (eI n)))->J6 .i (eI c) kvs=none\/∃n,J6 .i (eI c) kvs=some (.d (eI n)):=by
  intro kvs
  induction kvs with
  |nil=>intro _;exact .inl rfl
  |cons q kvs ih=>
   intro hk
   unfold J6
   split
   ·obtain⟨t,n,rfl⟩:=hk q (by simp)
    exact .inr ⟨n,rfl⟩
   ·exact ih λp hp=>hk p (by simp[hp])
 rcases key h.ks with e|⟨n,e⟩<;>rw[e]<;>rfl
theorem C0A{s t:Int}(hst:s≠t){v:AV}:∀{kvs:List (D×AV)},(∀p∈kvs,∃t,p.1=eI t)->J6 .i (eI s) (K9 .i (eI t) v kvs)=J6 .i (eI s) kvs
 |[],_=>by simp[K9,J6,A1e,hst]
 |q::kvs,h=>by
  obtain⟨u,hu⟩:=h q (by simp)
  unfold K9
  rw[hu,A1e]
  by_cases e:t=u
  ·subst e
   rw[if_pos (by simp),J6,A1e,if_neg (by simp[hst]),J6,hu,A1e,if_neg (by simp[hst])]
  ·rw[if_neg (by simp[e]),J6,J6]
   rw[C0A hst (λp hp=>h p (by simp[hp]))]
theorem C0D{s n:Int}:∀{kvs:List (D×AV)},(∀p∈kvs,∃t n,p=(eI t,.d (eI n)))->∀p∈K9 .i (eI s) (.d (eI n)) kvs,∃t n,p=(eI t,.d (eI n))
 |[],h,p,hp=>by simp[K9] at hp;subst hp;exact⟨s,n,rfl⟩
 |q::kvs,h,p,hp=>by
  unfold K9 at hp
  split at hp
  ·rcases I6.1 hp with rfl|hp
   ·exact⟨s,n,rfl⟩
   ·exact h p (by simp[hp])
  ·rcases I6.1 hp with rfl|hp
   ·exact h _ (by simp)
   ·exact C0D (λp hp=>h p (by simp[hp])) p hp
theorem R4.add{l:List Int}{kvs:List (D×AV)}(h:R4 l kvs)(c:Int):R4 (l++[c]) (Q6 kvs c):=by
 refine⟨C0D h.ks,λd=>?_⟩
 unfold Q6
 rw[List.count_append]
 by_cases e:d=c
 ·subst e
  unfold A1K
  rw[B1K]
  show A1K kvs d+1=_
  rw[h.ct]
  simp
 ·have:A1K (K9 .i (eI c) (.d (eI (A1K kvs c+1))) kvs) d=A1K kvs d:=by
   unfold A1K
   rw[C0A e h.str]
  rw[this,h.ct,List.count_singleton]
  simp[o5 e]
theorem R4.adds{l:List Int}{kvs:List (D×AV)}(h:R4 l kvs):∀cs:List Int,R4 (l++cs) (cs.foldl Q6 kvs)
 |[]=>by simpa using h
 |c::cs=>by
  have:=R4.adds (h.add c) cs
  simpa using this
theorem R4.bnd{l:List Int}{kvs:List (D×AV)}(h:R4 l kvs)(m:Nat):(AO.map kvs).bndB m=true:=by
 refine O3.2 λp hp=>?_
 obtain⟨t,n,rfl⟩:=h.ks p hp
 rfl
theorem R4.mO{l:List Int}{kvs:List (D×AV)}(h:R4 l kvs)(f:Nat->Nat):mO f (.map kvs)=.map kvs:=by
 show AO.map _=_
 congr 1
 conv=>rhs;rw[<- A02 kvs]
 refine T9 λp hp=>?_
 obtain⟨t,n,rfl⟩:=h.ks p hp
 rfl
theorem C4S(l:List Int)(kvs:List (D×AV))(hk:R4 l kvs)(cs:List Int)(hl:l.length+cs.length<=1152921504606846976)(d:D)(hd:B3 d (A0 cs)) :
  B0 Tryz.prog B0j [.d d,.ptr 1 0] [.map kvs,.cells [.mp 0]] (λr os=>r=.tup []/\os=[.map (cs.foldl Q6 kvs),.cells [.mp 0]]):=by
 refine C5Z.goX A4 rfl ?_
 have h1:=B4 cs
 have hm:=C9 cs
 repeat' first|refine st ?_|refine⟨λ_=>?_,λ_=>?_⟩|fail
 refine F2 A4 C97 C7Z (λ(k:Nat)=>[.d (eI k)]) (λk=>[.map ((cs.take k).foldl Q6 kvs),.cells [.mp 0]]) (λk=>k<=cs.length) (λk=>cs.length-k) 0 rfl rfl rfl rfl (λk _=>⟨rfl,(by rw[i6,R4.bnd (hk.adds _)];rfl)⟩) rfl (by omega) ?_
 repeat' first|refine st ?_|refine⟨λ_=>?_,λ_=>?_⟩|fail
 intro k h6
 cases hy:cs[k]? with
 |some c=>
  have hlt2:=(A7.1 hy).1
  have hg2:=K5 hy
  have hts:cs.take (k+1)=cs.take k++[c]:=by rw[P1,hy];rfl
  have hK:=hk.adds (cs.take k)
  have hS:=hK.lk c
  have hC:=hK.ct c
  have hcl:((l++cs.take k).count c)<=l.length+k:=by
   have:=List.count_le_length (a:=c) (l:=l++cs.take k)
   rw[J0,J1] at this
   omega
  have e2:K9 .i (eI c) (.d (eI (((l++cs.take k).count c:Nat)+1))) ((cs.take k).foldl Q6 kvs)=(cs.take (k+1)).foldl Q6 kvs:=by
   rw[hts,A2I,<- hC];rfl
  obtain⟨kv,hkv⟩:∃kv,kv=(cs.take k).foldl Q6 kvs:=⟨_,rfl⟩
  have m1:n5 .i (eI c) kv:=by rw[hkv];exact A6F _ _ hK.str
  rw[<- hkv] at hS e2 ⊢
  obtain⟨kv2,hkv2⟩:∃kv,kv=(cs.take (k+1)).foldl Q6 kvs:=⟨_,rfl⟩
  rw[<- hkv2] at e2
  obtain⟨q,hq⟩:∃q:Nat,q=(l++cs.take k).count c:=⟨_,rfl⟩
  rw[<- hq] at hS e2 hcl
  repeat' first|refine st ?_|refine⟨λ_=>?_,λ_=>?_⟩|fail
  rw[hkv2]
  exact⟨k+1,rfl,rfl,rfl,by omega,by omega⟩
 |none=>
  have hge:=C8.1 hy
  rw[J5 hge]
  have hB:=(hk.adds cs).bnd 2
  have hB2:([AO.map (cs.foldl Q6 kvs),AO.cells [AV.mp 0]].all λo=>o.bndB 2)=true:=by rw[i6,hB];rfl
  repeat' first|refine st ?_|refine⟨λ_=>?_,λ_=>?_⟩|fail
  exact⟨rfl,rfl⟩
end Go.Proofs
end
section
namespace Go.Proofs
open Go.Bi
theorem A9G(T:AO)(rest:List AO)(l:List Int)(kvs:List (D×AV))(hk:R4 l kvs)(cs:List Int)(hl:l.length+cs.length<=1152921504606846976)(d:D)(hd:B3 d (A0 cs)) :
  B0 Tryz.prog B0j [.d d,.ptr 2 0] (T::.map kvs::.cells [.mp 1]::rest) (λr os=>r=.tup []/\os=T::.map (cs.foldl Q6 kvs)::.cells [.mp 1]::rest):=by
 have hK:=hk.adds cs
 have:=B0.frame (K:=λr os=>r=.tup []/\os=T::.map (cs.foldl Q6 kvs)::.cells [.mp 1]::rest) (C4S l kvs hk cs hl d hd) [1,2] (T::.map kvs::.cells [.mp 1]::rest) rfl (by decide) (λi o h=>by
   match i,h with
   |0,h=>cases h;rw[hk.mO];rfl
   |1,h=>cases h;rfl
   |i+2,h=>simp at h) (λa ha=>by
    simp only[I6,o4,or_false] at ha
    rcases ha with rfl|rfl<;>simp[AV.bnd2,AV.bnd1]) (λo ho=>by
    simp only[I6,o4,or_false] at ho
    rcases ho with rfl|rfl
    ·exact M6 (hk.bnd 2)
    ·simp[AO.bnd,AV.bnd1]) (by
   rintro r bs' ⟨rfl,rfl⟩
   refine⟨rfl,?_⟩
   simp only[T6,hK.mO,List.map_nil,u7]
   rfl)
 exact this
def A2B(fs:List Fo):List Int:=fs.flatMap Fo.cs
def A7b(xs:List Ex):List Int:=xs.flatMap N7
def c9(t:Tb):List Int:=t.ks++A2B t.fs++A7b t.xs
theorem B9C{α:Type}(g:α->List Int)(m:Nat):∀(l:List α),(∀x∈l,(g x).length<=m)->(l.flatMap g).length<=l.length*m
 |[],_=>by simp
 |x::l,h=>by
  have:=B9C g m l (λy hy=>h y (by simp[hy]))
  have h1:=h x (by simp)
  rw[A28,J0,H7,Nat.succ_mul]
  omega
theorem B9E{α:Type}(g:α->List Int){l:List α}{i:Nat}{x:α}(h:l[i]?=some x):(l.take (i+1)).flatMap g=(l.take i).flatMap g++g x:=by
 rw[P1,h,List.flatMap_append]
 simp
theorem B9F{α:Type}(g:α->List Int)(l:List α)(i:Nat)(hl:l.length<=1048576)(h:∀x∈l,(g x).length<=1048576):((l.take i).flatMap g).length<=1099511627776:=by
 have h1:=B9C g 1048576 (l.take i) (λx hx=>h x (Z1 hx))
 have h2:(l.take i).length<=1048576:=by rw[J1];omega
 have h3:(l.take i).length*1048576<=1048576*1048576:=Y3 _ h2
 omega
def A20(t:Tb):List (D×AV):=(c9 t).foldl Q6 []
theorem B2q(t:Tb):R4 (c9 t) (A20 t):=by
 have:=R4.nil.adds (c9 t)
 rw[A1v] at this
 exact this
theorem C3u(t:Tb)(dc dk df dx:D)(h:N6 t dc dk df dx):B0 Tryz.prog B0i [eT t.nm dc dk df dx] [] (λr os=>r=.mp 1/\os=[.cells [.d (.str t.nm),.d dc,.d dk,.d df,.d dx],.map (A20 t),.cells [.mp 1]]):=by
 have hM:A20 t=(A7b t.xs).foldl Q6 ((A2B t.fs).foldl Q6 (t.ks.foldl Q6 [])):=by unfold A20 c9;rw[A2I,A2I]
 rw[hM]
 obtain⟨n,l,ks,fs,xs⟩:=t
 obtain⟨hn,hl,hls,hk,hfl,hfc,hxs,hxb,hc,hdk,hdf,hdx⟩:=h
 dsimp only at *
 have k0:=R4.nil.adds ks
 rw[A1v] at k0
 have kF:∀i,R4 (ks++(fs.take i).flatMap Fo.cs) (((fs.take i).flatMap Fo.cs).foldl Q6 (ks.foldl Q6 [])):=λi=>k0.adds _
 have kX:∀i,R4 (ks++A2B fs++(xs.take i).flatMap N7) (((xs.take i).flatMap N7).foldl Q6 ((A2B fs).foldl Q6 (ks.foldl Q6 []))):=λi=>(k0.adds _).adds _
 have lF:∀i,((fs.take i).flatMap Fo.cs).length<=1099511627776:=λi=>B9F _ fs i hfl (λf hf=>(hfc f hf).1)
 have lF0:(A2B fs).length<=1099511627776:=by have:=lF fs.length;rw[List.take_length] at this;exact this
 have lX:∀i,((xs.take i).flatMap N7).length<=1099511627776:=λi=>B9F _ xs i hxs (λe he=>O4 (A4y e) (hxb e he))
 have hU:=λT rest=>A9G T rest [] [] .nil ks (by simp;omega) dk hdk
 have f1:=A0C fs
 have f2:=A2j fs
 have x1:=I7 xs
 have x2:=O7 xs
 obtain⟨K0,hK0⟩:∃K,K=ks.foldl Q6 []:=⟨_,rfl⟩
 rw[<- hK0] at kF kX hU k0 ⊢
 refine C5Y.goO A4 rfl ?_
 repeat' first|refine st ?_|((with_reducible first|apply I5|apply I8);(·exact hU _ _);(try rintro _ _ ⟨rfl,rfl⟩))|((with_reducible apply I9);(·exact hU _ _))|refine⟨λ_=>?_,λ_=>?_⟩|fail
 refine F2 A4 C98 C80 (λ(i:Nat)=>[.d (eI i)]) (λi=>[.cells [.d (.str n),.d dc,.d dk,.d df,.d dx],.map (((fs.take i).flatMap Fo.cs).foldl Q6 K0),.cells [.mp 1]]) (λi=>i<=fs.length) (λi=>fs.length-i) 0 rfl rfl rfl rfl (λi _=>⟨rfl,(by rw[i6,i6,R4.bnd (kF i)];rfl)⟩) rfl (by omega) ?_
 repeat' first|refine st ?_|refine⟨λ_=>?_,λ_=>?_⟩|fail
 intro i h4
 cases hx:fs[i]? with
 |some f=>
  have hlt:=(A7.1 hx).1
  have hg:=A2V hx
  obtain⟨hf,hft⟩:=hfc f (B9 hx)
  have hsd:=f.sld
  have hFt:=B9E Fo.cs hx
  have hli:=lF i
  have hU:=λT rest=>A9G T rest _ _ (kF i) f.cs (by rw[J0];omega) f.d hsd
  rw[<- A2I,<- hFt] at hU
  obtain⟨nl,cs,tb⟩:=f
  obtain⟨fd,hfd⟩:∃fd,fd=Fo.d ⟨nl,cs,tb⟩:=⟨_,rfl⟩
  have hg:(G5 fs)[i]?=some [Fo.d ⟨nl,cs,tb⟩,.str tb]:=hg
  rw[<- hfd] at hg hU
  obtain⟨K1,hK1⟩:∃K,K=((fs.take i).flatMap Fo.cs).foldl Q6 K0:=⟨_,rfl⟩
  obtain⟨K2,hK2⟩:∃K,K=((fs.take (i+1)).flatMap Fo.cs).foldl Q6 K0:=⟨_,rfl⟩
  rw[<- hK1,<- hK2] at hU
  rw[<- hK1]
  repeat' first|refine st ?_|((with_reducible first|apply I5|apply I8);(·exact hU _ _);(try rintro _ _ ⟨rfl,rfl⟩))|((with_reducible apply I9);(·exact hU _ _))|refine⟨λ_=>?_,λ_=>?_⟩|fail
  rw[hK2]
  exact⟨i+1,rfl,rfl,rfl,by omega,by omega⟩
 |none=>
  have hge:=C8.1 hx
  rw[J5 hge]
  rw[show fs.flatMap Fo.cs=A2B fs from rfl]
  obtain⟨K1,hK1⟩:∃K,K=(A2B fs).foldl Q6 K0:=⟨_,rfl⟩
  rw[<- hK1] at kX ⊢
  repeat' first|refine st ?_|refine⟨λ_=>?_,λ_=>?_⟩|fail
  refine F2 A4 C99 C81 (λ(i:Nat)=>[.d (eI i)]) (λi=>[.cells [.d (.str n),.d dc,.d dk,.d df,.d dx],.map (((xs.take i).flatMap N7).foldl Q6 K1),.cells [.mp 1]]) (λi=>i<=xs.length) (λi=>xs.length-i) 0 rfl rfl rfl rfl (λi _=>⟨rfl,(by rw[i6,i6,R4.bnd (kX i)];rfl)⟩) rfl (by omega) ?_
  repeat' first|refine st ?_|refine⟨λ_=>?_,λ_=>?_⟩|fail
  intro j h5
  cases hy:xs[j]? with
  |some e=>
   have hlt:=(A7.1 hy).1
   have hb:=hxb e (B9 hy)
   have hCo:=C3w e hb
   have hsl:=D3k e
   have hFt:=B9E N7 hy
   have hli:=lX j
   have hcl:=A4y e
   have hU:=λT rest=>A9G T rest _ _ (kX j) (N7 e) (by rw[J0,J0];omega) (A4x e) hsl
   rw[<- A2I,<- hFt] at hU
   obtain⟨dc2,hdc2⟩:∃d,d=A4x e:=⟨_,rfl⟩
   rw[<- hdc2] at hCo hU
   obtain⟨K2,hK2⟩:∃K,K=((xs.take j).flatMap N7).foldl Q6 K1:=⟨_,rfl⟩
   obtain⟨K3,hK3⟩:∃K,K=((xs.take (j+1)).flatMap N7).foldl Q6 K1:=⟨_,rfl⟩
   rw[<- hK2,<- hK3] at hU
   rw[<- hK2]
   obtain⟨o1,n1,v1,m1,l1,a1⟩:=e
   have hg:=o3 (args:=xs) _ _ _ _ _ _ _ hy
   rw[Ex.av_mk] at hCo
   repeat' first|refine st ?_|((with_reducible first|apply I5|apply I8);(·exact hU _ _);(try rintro _ _ ⟨rfl,rfl⟩))|((with_reducible apply I9);(·exact hU _ _))|refine⟨λ_=>?_,λ_=>?_⟩|fail
   rw[hK3]
   exact⟨j+1,rfl,rfl,rfl,by omega,by omega⟩
  |none=>
   have hge:=C8.1 hy
   rw[J5 hge]
   rw[show xs.flatMap N7=A7b xs from rfl]
   repeat' first|refine st ?_|refine⟨λ_=>?_,λ_=>?_⟩|fail
   all_goals exact⟨rfl,rfl⟩
end Go.Proofs
end
section
namespace Go.Proofs
open Go.Bi
structure Ch where
 k:Int
 nm:List UInt8
 to:List UInt8
 co:Co
 df:Vl
abbrev chD(k:Int)(nm to cn:List UInt8)(ck:Int)(cl:Bool)(vk vn:Int)(vs:List UInt8):AV:=.agg [.d (eI k),.d (.str nm),.d (.str to),.d (.str cn),.d (eI ck),.d (.bool cl),.d (eI vk),.d (eI vn),.d (.str vs)]
abbrev Ch.av(c:Ch):AV:=chD c.k c.nm c.to c.co.nm c.co.k c.co.nl c.df.k c.df.n c.df.s
def A3d(c:Ch):Bool:=
 if c.k=1 then !(decide (c.nm=[])&&decide (c.to=[]))
 else !((decide (c.k=3)||decide (c.to=[]))&&(decide (c.co.nm=[])&&decide (c.co.k=0)&&!c.co.nl)&&(decide (c.df.k=0)&&decide (c.df.n=0)&&decide (c.df.s=[])))
theorem C3t(c:Ch):Pure Tryz.prog B7m [c.av] (.d (.bool (A3d c))):=by
 obtain⟨k,nm,to,⟨cn,ck,cl⟩,⟨vk,vn,vs⟩⟩:=c
 obtain⟨q,hq⟩:∃q,q=A3d ⟨k,nm,to,⟨cn,ck,cl⟩,⟨vk,vn,vs⟩⟩:=⟨_,rfl⟩
 rw[<- hq]
 simp only[A3d] at hq
 have r1:nm=nm:=rfl
 have r2:to=to:=rfl
 have r3:cn=cn:=rfl
 have r4:vs=vs:=rfl
 have r5:([]:List UInt8)=[]:=rfl
 refine C5X.go A4 rfl ?_
 repeat' first|refine st ?_|refine⟨λ_=>?_,λ_=>?_⟩|fail
 all_goals (have e1:(0=ck)=(ck=0):=propext eq_comm)
 all_goals (have e2:(0=vk)=(vk=0):=propext eq_comm)
 all_goals (have e3:(0=vn)=(vn=0):=propext eq_comm)
 all_goals first
  |(simp_all;done)
  |(simp_all;simp only[e1,e2,e3,Bool.or_assoc])
def A0t(t:Tb)(c:Ch):Int:=
 if 12<=t.cs.length then 13 else if L5 c.co.nm=false then 1 else if ¬(1<=c.co.k/\c.co.k<=3) then 7 else if 0<=D4 c.co.nm t.cs then 10 else if K7 c.df=false then 8
 else if c.df.k=0/\c.co.nl=false then 12 else if c.df.k≠0/\c.df.k≠c.co.k then 7 else 0
theorem C3s(t:Tb)(dc dk df dx:D)(h:N6 t dc dk df dx)(c:Ch)(hcn:c.co.nm.length<=1048576)(hcv:c.df.s.length<=1048576):Pure Tryz.prog B7l [eT t.nm dc dk df dx,c.av] (.d (eI (A0t t c))):=by
 have hF:=S7 t.nm t.cs h.hl dc dk df dx h.dc c.co.nm
 have hN:=A5k c.co.nm hcn
 have hV:=A5m c.df (by omega)
 have hl:=F3 t.cs
 have hdc:=h.dc
 obtain⟨q,hq⟩:∃q,q=A0t t c:=⟨_,rfl⟩
 rw[<- hq]
 unfold A0t at hq
 obtain⟨f,hf⟩:∃f,f=D4 c.co.nm t.cs:=⟨_,rfl⟩
 obtain⟨nb,hnb⟩:∃f,f=L5 c.co.nm:=⟨_,rfl⟩
 obtain⟨vb,hvb⟩:∃f,f=K7 c.df:=⟨_,rfl⟩
 rw[<- hf] at hF hq
 rw[<- hnb] at hN hq
 rw[<- hvb] at hV hq
 obtain⟨k,nm,to,⟨cn,ck,cl⟩,⟨vk,vn,vs⟩⟩:=c
 obtain⟨es,hes⟩:∃es,es=A9 t.cs:=⟨_,rfl⟩
 rw[<- hes] at hl hdc
 dsimp only at hq hF hN hV
 obtain⟨m0,hm0⟩:∃m,m=t.cs.length:=⟨_,rfl⟩
 rw[<- hm0] at hq hl
 clear hf hnb hvb hes hm0
 refine C5W.go A4 rfl ?_
 repeat' first|refine st ?_|refine⟨λ_=>?_,λ_=>?_⟩|fail
 all_goals (rw[hq];clear hq hF hN hV)
 all_goals repeat' split
 all_goals first|rfl|(exfalso;omega)|(exfalso;simp_all;done)|(exfalso;simp_all;omega)
end Go.Proofs
end
section
namespace Go.Proofs
open Go.Bi
theorem B9y(nm:List UInt8):∀(l:List Co)(i:Nat),m7 nm i l=-1\/∃(j:Nat)(c:Co),l[j]?=some c/\c.nm=nm/\m7 nm i l=((i+j:Nat):Int)
 |[],i=>.inl rfl
 |c::l,i=>by
  unfold m7
  by_cases h:c.nm=nm
  ·exact .inr ⟨0,c,rfl,h,by simp[h]⟩
  ·rcases B9y nm l (i+1) with e|⟨j,d,h1,h2,h3⟩
   ·exact .inl (by simp[h,e])
   ·exact .inr ⟨j+1,d,by simpa using h1,h2,by simp only[h,if_false];rw[h3];omega⟩
theorem B1i{nm:List UInt8}{l:List Co}(h:0<=D4 nm l):∃c,l[(D4 nm l).toNat]?=some c/\c.nm=nm:=by
 unfold D4 at *
 rcases B9y nm l 0 with e|⟨j,d,h1,h2,h3⟩
 ·omega
 ·exact⟨d,by rw[h3];simpa using h1,h2⟩
def j5(t:Tb)(i:Int):Int:=match t.cs[i.toNat]? with
 |some c=>c.k
 |none=>0
def A3F(t:Tb)(c:Ch):Int:=
 if D4 c.nm t.cs<0 then 11 else if c.k≠3/\0<(c9 t).count (D4 c.nm t.cs) then 25 else if c.k=4/\j5 t (D4 c.nm t.cs)=2 then 7
 else if c.k=3/\L5 c.to=false then 1 else if c.k=3/\0<=D4 c.to t.cs then 10 else 0
def C7(t:Tb)(c:Ch):Int:=
 if H9 t≠0 then H9 t else if ¬(1<=c.k/\c.k<=4) then 7 else if A3d c then 8 else if c.k=1 then A0t t c else A3F t c
structure H6(c:Ch):Prop where
 nm:c.nm.length<=1048576
 to:c.to.length<=1048576
 cn:c.co.nm.length<=1048576
 vs:c.df.s.length<=1048576
theorem C4R(t:Tb)(dc dk df dx:D)(h:N6 t dc dk df dx):B0 Tryz.prog B0i [eT t.nm dc dk df dx] [] (λr os=>(∀n,shA n r=.mp (1+n))/\∀n,os.map (U3 n)=[.cells [.d (.str t.nm),.d dc,.d dk,.d df,.d dx],.map (A20 t),.cells [.mp (1+n)]]):=by
 refine(C3u t dc dk df dx h).mono ?_
 rintro r os ⟨rfl,rfl⟩
 refine⟨λn=>rfl,λn=>?_⟩
 have e:(A20 t).map (λp=>(p.1,shG n p.2))=A20 t:=by
  conv=>rhs;rw[<- A02 (A20 t)]
  refine T9 λp hp=>?_
  obtain⟨a,b,rfl⟩:=(B2q t).ks p hp
  rfl
 show[_,AO.map ((A20 t).map λp=>(p.1,shG n p.2)),_]=_
 rw[e]
 rfl
theorem U4(t:Tb)(dc dk df dx:D)(h:N6 t dc dk df dx)(c:Ch)(hc:H6 c):Pure Tryz.prog B7j [eT t.nm dc dk df dx,c.av] (.d (eI (C7 t c))):=by
 have hT:=A7u t dc dk df dx h
 have hS:=C3t c
 have hA:=C3s t dc dk df dx h c hc.cn hc.vs
 have hF:=S7 t.nm t.cs h.hl dc dk df dx h.dc c.nm
 have hG:=S7 t.nm t.cs h.hl dc dk df dx h.dc c.to
 have hN:=A5k c.to hc.to
 have hU:=C4R t dc dk df dx h
 have hl:=F3 t.cs
 have hme:=H8 t.cs
 have hdc:=h.dc
 obtain⟨q,hq⟩:∃q,q=C7 t c:=⟨_,rfl⟩
 rw[<- hq]
 unfold C7 A3F at hq
 have hfs:=λhh=>B1i (nm:=c.nm) (l:=t.cs) hh
 have hm:=(B2q t).str
 have hlk:=(B2q t).lk (D4 c.nm t.cs)
 have hcnt:∃n:Nat,n=(c9 t).count (D4 c.nm t.cs):=⟨_,rfl⟩
 obtain⟨n0,hn0⟩:=hcnt
 rw[<- hn0] at hlk hq
 obtain⟨f,hf⟩:∃f,f=D4 c.nm t.cs:=⟨_,rfl⟩
 rw[<- hf] at hF hq hlk hfs
 obtain⟨g,hg⟩:∃f,f=D4 c.to t.cs:=⟨_,rfl⟩
 rw[<- hg] at hG hq
 obtain⟨nb,hnb⟩:∃f,f=L5 c.to:=⟨_,rfl⟩
 rw[<- hnb] at hN hq
 obtain⟨sb,hsb⟩:∃f,f=A3d c:=⟨_,rfl⟩
 rw[<- hsb] at hS hq
 obtain⟨ae,hae⟩:∃f,f=A0t t c:=⟨_,rfl⟩
 rw[<- hae] at hA hq
 obtain⟨te,hte⟩:∃f,f=H9 t:=⟨_,rfl⟩
 rw[<- hte] at hT hq
 obtain⟨kvs,hkvs⟩:∃f,f=A20 t:=⟨_,rfl⟩
 rw[<- hkvs] at hU hm hlk
 have m1:n5 .i (eI f) kvs:=A6F _ _ hm
 have hix:0<=f->∃s k b,(A9 t.cs)[f.toNat]?=some [.str s,eI k,.bool b]/\j5 t f=k/\f<t.cs.length:=by
  intro hh
  obtain⟨d,h1,h2⟩:=hfs hh
  have h3:=(A7.1 h1).1
  exact⟨d.nm,d.k,d.nl,L4 h1,by unfold j5;rw[h1],by omega⟩
 obtain⟨k,nm,to,⟨cn,ck,cl⟩,⟨vk,vn,vs⟩⟩:=c
 obtain⟨es,hes⟩:∃es,es=A9 t.cs:=⟨_,rfl⟩
 rw[<- hes] at hl hdc hix hme
 obtain⟨ka,hka⟩:∃x,x=j5 t f:=⟨_,rfl⟩
 rw[<- hka] at hq hix
 obtain⟨m0,hm0⟩:∃m,m=t.cs.length:=⟨_,rfl⟩
 rw[<- hm0] at hl hix
 dsimp only at hq hF hG hN hS hA hT
 clear hfs hf hg hnb hsb hae hte hkvs hm hn0 hes hka hm0 hc h
 by_cases hf0:f<0
 ·clear hix
  refine B3l.go A4 rfl ?_
  repeat' first|refine st ?_|refine⟨λ_=>?_,λ_=>?_⟩|fail
  all_goals (rw[hq];clear hq hF hN hG hS hA hT hU)
  all_goals (try dsimp only at *)
  all_goals repeat' split
  all_goals first|rfl|(exfalso;omega)|(exfalso;simp_all;done)|(exfalso;simp_all;omega)
 ·obtain⟨s,kk,b,hgt,rfl,hlt⟩:=hix (by omega)
  have hf1:0<=f:=by omega
  refine B3l.go A4 rfl ?_
  repeat' first|refine st ?_|((with_reducible apply I5);(· exact hU);(intro _ _ hr);(rw[hr.1,hr.2]))|refine⟨λ_=>?_,λ_=>?_⟩|fail
  all_goals (rw[hq];clear hq hF hN hG hS hA hT hU)
  all_goals (try dsimp only at *)
  all_goals repeat' split
  all_goals first|rfl|(exfalso;omega)|(exfalso;simp_all;done)|(exfalso;simp_all;omega)
end Go.Proofs
end
section
namespace Go.Proofs
open Go.Bi
def S6(l:List Int)(n:Int):List Int:=l.takeWhile (λx=>decide (x<n))++([n]++(l.dropWhile λx=>decide (x<n)).filter λx=>decide (x≠n))
theorem C06(n:Int):S6 [] n=[n]:=rfl
theorem C04(a:Int)(l:List Int)(n:Int):S6 (a::l) n=if a<n then a::S6 l n else n::(a::l).filter λx=>decide (x≠n):=by
 unfold S6
 by_cases h:a<n
 ·rw[if_pos h,List.takeWhile_cons_of_pos (by simpa using h),List.dropWhile_cons_of_pos (by simpa using h)];rfl
 ·rw[if_neg h,List.takeWhile_cons_of_neg (by simpa using h),List.dropWhile_cons_of_neg (by simpa using h)];rfl
theorem C05:∀(l:List Int)(n:Int),(S6 l n).length<=l.length+1
 |[],n=>by simp[C06]
 |a::l,n=>by
  rw[C04]
  split
  ·have:=C05 l n
   simp only[H7];omega
  ·have:=A0X (λx=>decide (x≠n)) (a::l)
   simp only[H7] at *;omega
theorem C07:∀{l:List Int}(n:Int),l4 l->l4 (S6 l n)/\∀x,x∈S6 l n↔x=n\/x∈l
 |[],n,_=>by simp[C06,l4]
 |a::l,n,h=>by
  have g:=A03.1 h
  rw[C04]
  split
  ·rename_i hlt
   obtain⟨h1,h2⟩:=C07 n g.2
   constructor
   ·refine A03.2 ⟨λx hx=>?_,h1⟩
    rcases(h2 x).1 hx with rfl|hx
    ·exact hlt
    ·exact g.1 x hx
   ·intro x
    rw[I6,h2,I6]
    constructor
    ·rintro(h|h|h)
     ·exact .inr (.inl h)
     ·exact .inl h
     ·exact .inr (.inr h)
    ·rintro(h|h|h)
     ·exact .inr (.inl h)
     ·exact .inl h
     ·exact .inr (.inr h)
  ·rename_i hge
   constructor
   ·refine A03.2 ⟨λx hx=>?_,h.filter _⟩
    rw[v6] at hx
    have hne:x≠n:=by simpa using hx.2
    rcases I6.1 hx.1 with rfl|hx
    ·omega
    ·have:=g.1 x hx;omega
   ·intro x
    rw[I6,v6]
    by_cases hx:x=n
    ·simp[hx]
    ·simp[hx]
theorem D4V{l:List Int}{n:Int}{i:Nat}(h:∀(j:Nat) y,j<i->l[j]?=some y->y<n)(hi:∀y,l[i]?=some y->¬y<n):S6 l n=l.take i++([n]++(l.drop i).filter λx=>decide (x≠n)):=by
 have h1:∀x∈l.take i,decide (x<n)=true:=by
  intro x hx
  obtain⟨j,hj⟩:=A3q hx
  have hj2:=(A7.1 hj).1
  rw[J1] at hj2
  rw[Z0,if_pos (by omega)] at hj
  exact decide_eq_true (h j x (by omega) hj)
 have h2:(l.drop i).takeWhile (λx=>decide (x<n))=[]/\(l.drop i).dropWhile (λx=>decide (x<n))=l.drop i:=by
  cases hd:l.drop i with
  |nil=>exact⟨rfl,rfl⟩
  |cons y r=>
   have hy:l[i]?=some y:=by
    have:(l.drop i)[0]?=some y:=by rw[hd];rfl
    rwa [A0W,A1y] at this
   have:=hi y hy
   exact⟨List.takeWhile_cons_of_neg (by simpa using this),List.dropWhile_cons_of_neg (by simpa using this)⟩
 have e:l=l.take i++l.drop i:=(List.take_append_drop i l).symm
 unfold S6
 rw[show l.takeWhile (λx=>decide (x<n))=(l.take i++l.drop i).takeWhile (λx=>decide (x<n)) by rw[<- e],show l.dropWhile (λx=>decide (x<n))=(l.take i++l.drop i).dropWhile (λx=>decide (x<n)) by rw[<- e]]
 rw[List.takeWhile_append_of_pos h1,List.dropWhile_append_of_pos h1,h2.1,h2.2,u7]
theorem A8w:∀(l out:List Int),(l.foldl S6 out).length<=out.length+l.length
 |[],out=>by simp
 |a::l,out=>by
  have h1:=A8w l (S6 out a)
  have h2:=C05 out a
  rw[A2J]
  simp only[H7]
  omega
theorem B9N:∀(l:List Int){out:List Int},l4 out->l4 (l.foldl S6 out)/\∀x,x∈l.foldl S6 out↔x∈out\/x∈l
 |[],out,h=>⟨h,λx=>by simp⟩
 |a::l,out,h=>by
  obtain⟨h1,h2⟩:=C07 a h
  obtain⟨h3,h4⟩:=B9N l h1
  refine⟨h3,λx=>?_⟩
  rw[A2J,h4,h2,I6]
  constructor
  ·rintro((h|h)|h)
   ·exact .inr (.inl h)
   ·exact .inl h
   ·exact .inr (.inr h)
  ·rintro(h|h|h)
   ·exact .inl (.inr h)
   ·exact .inl (.inl h)
   ·exact .inr h
mutual
def y7:Ex->List Int
 |.mk op n v nm nl args=>rcL args (own op n)
def rcL:List Ex->List Int->List Int
 |[],out=>out
 |a::l,out=>rcL l ((y7 a).foldl S6 out)
end
def y8(out:List Int)(a:Ex):List Int:=(y7 a).foldl S6 out
theorem C1q:∀(l:List Ex)(out:List Int),rcL l out=l.foldl y8 out
 |[],out=>by simp[rcL]
 |a::l,out=>by rw[rcL,C1q l];rfl
theorem C1o(op n:Int)(v:Vl)(nm:List UInt8)(nl:Bool)(args:List Ex):y7 (.mk op n v nm nl args)=args.foldl y8 (own op n):=by rw[y7,C1q]
theorem B9O:∀(l:List Ex){out:List Int},(∀a∈l,∀x,x∈y7 a↔x∈L0 a)->l4 out->l4 (l.foldl y8 out)/\∀x,x∈l.foldl y8 out↔x∈out\/x∈l.flatMap L0
 |[],out,_,h=>⟨h,λx=>by simp⟩
 |a::l,out,hl,h=>by
  obtain⟨h1,h2⟩:=B9N (y7 a) h
  obtain⟨h3,h4⟩:=B9O l (λb hb=>hl b (J2 _ hb)) h1
  refine⟨h3,λx=>?_⟩
  rw[A2J,show y8 out a=(y7 a).foldl S6 out from rfl,h4,h2,hl a (R5 ..),A28,P4,or_assoc]
theorem D6w(op n:Int):l4 (own op n):=by unfold own;split<;>simp[l4]
theorem C1p:∀e:Ex,l4 (y7 e)/\∀x,x∈y7 e↔x∈L0 e:=by
 refine Ex.ind λop n v nm nl args ih=>?_
 rw[C1o,A3T,<- own]
 obtain⟨h1,h2⟩:=B9O args (λa ha=>(ih a ha).2) (D6w op n)
 exact⟨h1,λx=>by rw[h2,P4]⟩
theorem A8W(e:Ex):y7 e=N7 e:=B8q (C1p e).1 (D3l e) λx=>by rw[(C1p e).2,A8g]
theorem C19(op n:Int):(own op n).length<=1:=by unfold own;split<;>simp
theorem B1r:∀(l:List Ex)(out:List Int),(l.foldl y8 out).length<=out.length+H4 (xL l)
 |[],out=>by simp
 |a::l,out=>by
  have h1:=B1r l (y8 out a)
  have h2:(y8 out a).length<=out.length+(y7 a).length:=A8w _ _
  have h3:=A4y a
  rw[<- A8W] at h3
  rw[A2J]
  simp only[xL,Q8,H4]
  unfold Ex.bk at h3
  unfold xL at h1
  omega
theorem B0S:∀(l:List Ex)(i:Nat),H4 (xL (l.take i))<=H4 (xL l)
 |[],i=>by simp
 |a::l,0=>by simp[xL,H4]
 |a::l,i+1=>by
  have:=B0S l i
  rw[A3t]
  simp only[xL,Q8,H4] at *
  omega
theorem B2S(l:List Int)(hl:l.length<=4194304)(n:Int)(d:D)(hd:B3 d (A0 l)):Pure Tryz.prog B6O [.d d,.d (eI n)] (.d (.sl (A0 (S6 l n)))):=by
 refine C5p.go A4 rfl ?_
 have hl1:=B4 l
 repeat' first|refine st ?_|refine⟨λ_=>?_,λ_=>?_⟩|fail
 refine I2 A4 C8y C7q (λ(i:Nat) (es:List (List D))=>[.arr 0 es.length,.d (eI i)]) (λi es=>[.arr es 1 0 false]) (λi es=>i<=l.length/\es=A0 (l.take i)/\∀(j:Nat) y,j<i->l[j]?=some y->y<n) (λi _=>l.length-i) 0 [] rfl rfl rfl rfl (λ_ _ _=>⟨rfl,rfl⟩) rfl ⟨by omega,rfl,by omega⟩ ?_
 repeat' first|refine st ?_|refine⟨λ_=>?_,λ_=>?_⟩|fail
 intro i es ⟨h1,h2,h3⟩
 have hes:es.length=i:=by rw[h2,B4,J1];omega
 have hem:∀e∈es,e.length=1:=by
  rw[h2]
  intro e he
  obtain⟨z,_,rfl⟩:=D9.1 he
  rfl
 have key:(∃y,l[i]?=some y/\y<n)\/((∀y,l[i]?=some y->¬y<n)/\((∃y,l[i]?=some y/\¬y<n)\/l.length<=i)):=by
  cases hx:l[i]? with
  |none=>exact .inr ⟨λy h=>(by cases h),.inr (C8.1 hx)⟩
  |some y=>
   by_cases hy:y<n
   ·exact .inl ⟨y,rfl,hy⟩
   ·exact .inr ⟨λz hz=>(by cases hz;exact hy),.inl ⟨y,rfl,hy⟩⟩
 have rest:(∀y,l[i]?=some y->¬y<n)->∀k:Nat,i<=k->A0 (l.take i)++([[eI n]]++A0 ((((l.take k).drop i)).filter λx=>decide (x≠n)))=A0 (l.take i++([n]++((l.take k).drop i).filter λx=>decide (x≠n))):=λ_ k _=>by simp[A0]
 rcases key with ⟨y,hy,hlt⟩|⟨hno,hx⟩
 ·have hil:=(A7.1 hy).1
  have hg:=K5 hy
  repeat' first|refine st ?_|refine⟨λ_=>?_,λ_=>?_⟩|fail
  refine⟨i+1,es++[[eI y]],rfl,rfl,rfl,by omega,by omega,?_,λj z hj hz=>?_⟩
  ·rw[h2,P1,hy];simp[A0]
  ·rcases Nat.lt_succ_iff_lt_or_eq.1 hj with h|rfl
   ·exact h3 j z h hz
   ·rw[hy] at hz;cases hz;exact hlt
 ·have hat:=D4V h3 hno
  rcases hx with ⟨y,hy,hge⟩|hx
  ·have hg:=K5 hy
   have hil:=(A7.1 hy).1
   repeat' first|refine st ?_|refine⟨λ_=>?_,λ_=>?_⟩|fail
   refine I2 A4 B6p B6c (λ(k:Nat) (es:List (List D))=>[.arr 0 es.length,.d (eI k)]) (λk es=>[.arr es 1 0 false,.arr [[eI n]] 1 0 false]) (λk es2=>i<=k/\k<=l.length/\es2.length<=k+1/\es2=A0 (l.take i++([n]++((l.take k).drop i).filter λx=>decide (x≠n)))) (λk _=>l.length-k) i (es++[[eI n]]) rfl rfl rfl rfl (λ_ _ _=>⟨rfl,rfl⟩) rfl ⟨by omega,by omega,by simp;omega,by rw[h2,S1 (by rw[J1];omega)];simp[A0]⟩ ?_
   repeat' first|refine st ?_|refine⟨λ_=>?_,λ_=>?_⟩|fail
   intro k es2 ⟨q1,q2,q4,q3⟩
   cases hz:l[k]? with
   |none=>
    have hge2:=C8.1 hz
    rw[J5 hge2,<- hat] at q3
    repeat' first|refine st ?_|refine⟨λ_=>?_,λ_=>?_⟩|fail
    rw[q3];rfl
   |some z=>
    have hkl:=(A7.1 hz).1
    have hg2:=K5 hz
    have hdr:(l.take (k+1)).drop i=(l.take k).drop i++[z]:=by
     rw[P1,hz,List.drop_append_of_le_length (by rw[J1];omega)];rfl
    repeat' first|refine st ?_|refine⟨λ_=>?_,λ_=>?_⟩|fail
    ·rename_i he
     refine⟨k+1,es2,rfl,rfl,rfl,by omega,by omega,by omega,by omega,?_⟩
     rw[q3,hdr,A3p]
     simp[he]
    ·rename_i he
     refine⟨k+1,es2++[[eI z]],rfl,rfl,rfl,by omega,by omega,by omega,by simp;omega,?_⟩
     rw[q3,hdr,A3p]
     simp[he,A0]
  ·repeat' first|refine st ?_|refine⟨λ_=>?_,λ_=>?_⟩|fail
   refine I2 A4 B6p B6c (λ(k:Nat) (es:List (List D))=>[.arr 0 es.length,.d (eI k)]) (λk es=>[.arr es 1 0 false,.arr [[eI n]] 1 0 false]) (λk es2=>k=i/\es2=es++[[eI n]]) (λk _=>l.length-k) i (es++[[eI n]]) rfl rfl rfl rfl (λ_ _ _=>⟨rfl,rfl⟩) rfl ⟨rfl,rfl⟩ ?_
   repeat' first|refine st ?_|refine⟨λ_=>?_,λ_=>?_⟩|fail
   intro k es2 ⟨q1,q3⟩
   subst q1
   repeat' first|refine st ?_|refine⟨λ_=>?_,λ_=>?_⟩|fail
   rw[q3,h2,hat,S1 hx]
   simp[A0]
   rfl
theorem C3R:∀e:Ex,e.bk<=1048576->Pure Tryz.prog B6J [e.av] (.d (.sl (A0 (y7 e)))):=by
 refine Ex.ind λop n v nm nl args ih hb=>?_
 obtain⟨b1,b2,b3,b4⟩:=Ex.bk_bounds hb
 have hbm:=Ex.bk_mk op n v nm nl args
 rw[C1o,Ex.av_mk]
 have h1:=I7 args
 have hm:=O7 args
 obtain⟨da,hda⟩:∃d,d=ng nl (xL args):=⟨_,rfl⟩
 have hsd:B3 da (xL args):=by rw[hda];exact t7
 rw[<- hda]
 have r0:v.k=v.k:=rfl
 have r1:v.s=v.s:=rfl
 have r2:nm=nm:=rfl
 refine C5i.go A4 rfl ?_
 have hown:(op=2/\own op n=[n])\/(op≠2/\own op n=[]):=by
  unfold own
  by_cases h:op=2
  ·rw[if_pos h];exact .inl ⟨h,rfl⟩
  ·rw[if_neg h];exact .inr ⟨h,rfl⟩
 rcases hown with ⟨h2,ho⟩|⟨h2,ho⟩
 ·repeat' first|refine st ?_|refine⟨λ_=>?_,λ_=>?_⟩|fail
  refine A2F 3 rfl rfl rfl ?_
  repeat' first|refine st ?_|refine⟨λ_=>?_,λ_=>?_⟩|fail
  refine I2 A4 B6m B69 (λ(i:Nat) (out:List Int)=>[.d (.sl (A0 out)),.d (eI i)]) (λi out=>[.cells [.d (eI op),.d (eI n),.d (eI v.k),.d (eI v.n),.d (.str v.s),.d (.str nm),.d da],.arr [[eI n]] 1 1 false,.arr [[eI n]] 1 0 false]) (λi out=>i<=args.length/\out=(args.take i).foldl y8 (own op n)) (λi _=>args.length-i) 0 (own op n) rfl rfl (by rw[ho];rfl) rfl (λ_ _ _=>⟨rfl,rfl⟩) rfl ⟨R1 _,rfl⟩ ?_
  repeat' first|refine st ?_|refine⟨λ_=>?_,λ_=>?_⟩|fail
  intro i out ⟨h4,h5⟩
  cases hx:args[i]? with
  |none=>
   have hge:=C8.1 hx
   rw[J5 hge] at h5
   repeat' first|refine st ?_|refine⟨λ_=>?_,λ_=>?_⟩|fail
   rw[h5]
  |some x=>
   have hlt:=(A7.1 hx).1
   have hgx:=t8 hx
   have hxm:=B9 hx
   have hxb:E4 x.ds<=H4 (xL args):=A2g (D9.2 ⟨x,hxm,rfl⟩)
   have hi:=ih x hxm (b4 x hxm)
   have hs:=A8x y8 (own op n) args i x hx
   rw[<- h5] at hs
   have hol:out.length<=1+H4 (xL args):=by
    have q1:=B1r (args.take i) (own op n)
    have q2:=C19 op n
    have q3:H4 (xL (args.take i))<=H4 (xL args):=B0S args i
    rw[h5];omega
   have hrl:=A4y x
   rw[<- A8W] at hrl
   obtain⟨ys,hys⟩:∃y,y=y7 x:=⟨_,rfl⟩
   have hss:y8 out x=ys.foldl S6 out:=by rw[hys];rfl
   rw[hss] at hs
   rw[<- hys] at hi hrl
   unfold Ex.bk at hrl
   have hyl:=B4 ys
   obtain⟨o1,n1,v1,m1,l1,a1⟩:=x
   rw[Ex.ds_mk] at hgx
   rw[Ex.av_mk] at hi
   repeat' first|refine st ?_|refine⟨λ_=>?_,λ_=>?_⟩|fail
   refine I2 A4 B6l B68 (λ(k:Nat) (o2:List Int)=>[.d (.sl (A0 o2)),.d (eI k)]) (λk o2=>[.cells [.d (eI op),.d (eI n),.d (eI v.k),.d (eI v.n),.d (.str v.s),.d (.str nm),.d da],.arr [[eI n]] 1 1 false,.arr [[eI n]] 1 0 false]) (λk o2=>k<=ys.length/\o2=(ys.take k).foldl S6 out) (λk _=>ys.length-k) 0 out rfl rfl rfl rfl (λ_ _ _=>⟨rfl,rfl⟩) rfl ⟨R1 _,rfl⟩ ?_
   repeat' first|refine st ?_|refine⟨λ_=>?_,λ_=>?_⟩|fail
   intro k o2 ⟨q1,q2⟩
   cases hy:ys[k]? with
   |none=>
    have hge:=C8.1 hy
    rw[J5 hge,<- hs] at q2
    repeat' first|refine st ?_|refine⟨λ_=>?_,λ_=>?_⟩|fail
    exact⟨i+1,o2,rfl,rfl,rfl,by omega,by omega,q2⟩
   |some y=>
    have hklt:=(A7.1 hy).1
    have hgy:=K5 hy
    have hs2:=A8x S6 out ys k y hy
    rw[<- q2] at hs2
    have hI:=B2S o2 (by
     have q3:=A8w (ys.take k) out
     rw[J1] at q3
     rw[q2];omega) y (.sl (A0 o2)) J7
    repeat' first|refine st ?_|refine⟨λ_=>?_,λ_=>?_⟩|fail
    exact⟨k+1,S6 o2 y,rfl,rfl,rfl,by omega,by omega,hs2.symm⟩
 ·repeat' first|refine st ?_|refine⟨λ_=>?_,λ_=>?_⟩|fail
  refine A2F 3 rfl rfl rfl ?_
  repeat' first|refine st ?_|refine⟨λ_=>?_,λ_=>?_⟩|fail
  refine I2 A4 B6m B69 (λ(i:Nat) (out:List Int)=>[.d (.sl (A0 out)),.d (eI i)]) (λi out=>[.cells [.d (eI op),.d (eI n),.d (eI v.k),.d (eI v.n),.d (.str v.s),.d (.str nm),.d da],.arr [] 1 0 false]) (λi out=>i<=args.length/\out=(args.take i).foldl y8 (own op n)) (λi _=>args.length-i) 0 (own op n) rfl rfl (by rw[ho];rfl) rfl (λ_ _ _=>⟨rfl,rfl⟩) rfl ⟨R1 _,rfl⟩ ?_
  repeat' first|refine st ?_|refine⟨λ_=>?_,λ_=>?_⟩|fail
  intro i out ⟨h4,h5⟩
  cases hx:args[i]? with
  |none=>
   have hge:=C8.1 hx
   rw[J5 hge] at h5
   repeat' first|refine st ?_|refine⟨λ_=>?_,λ_=>?_⟩|fail
   rw[h5]
  |some x=>
   have hlt:=(A7.1 hx).1
   have hgx:=t8 hx
   have hxm:=B9 hx
   have hxb:E4 x.ds<=H4 (xL args):=A2g (D9.2 ⟨x,hxm,rfl⟩)
   have hi:=ih x hxm (b4 x hxm)
   have hs:=A8x y8 (own op n) args i x hx
   rw[<- h5] at hs
   have hol:out.length<=1+H4 (xL args):=by
    have q1:=B1r (args.take i) (own op n)
    have q2:=C19 op n
    have q3:H4 (xL (args.take i))<=H4 (xL args):=B0S args i
    rw[h5];omega
   have hrl:=A4y x
   rw[<- A8W] at hrl
   obtain⟨ys,hys⟩:∃y,y=y7 x:=⟨_,rfl⟩
   have hss:y8 out x=ys.foldl S6 out:=by rw[hys];rfl
   rw[hss] at hs
   rw[<- hys] at hi hrl
   unfold Ex.bk at hrl
   have hyl:=B4 ys
   obtain⟨o1,n1,v1,m1,l1,a1⟩:=x
   rw[Ex.ds_mk] at hgx
   rw[Ex.av_mk] at hi
   repeat' first|refine st ?_|refine⟨λ_=>?_,λ_=>?_⟩|fail
   refine I2 A4 B6l B68 (λ(k:Nat) (o2:List Int)=>[.d (.sl (A0 o2)),.d (eI k)]) (λk o2=>[.cells [.d (eI op),.d (eI n),.d (eI v.k),.d (eI v.n),.d (.str v.s),.d (.str nm),.d da],.arr [] 1 0 false]) (λk o2=>k<=ys.length/\o2=(ys.take k).foldl S6 out) (λk _=>ys.length-k) 0 out rfl rfl rfl rfl (λ_ _ _=>⟨rfl,rfl⟩) rfl ⟨R1 _,rfl⟩ ?_
   repeat' first|refine st ?_|refine⟨λ_=>?_,λ_=>?_⟩|fail
   intro k o2 ⟨q1,q2⟩
   cases hy:ys[k]? with
   |none=>
    have hge:=C8.1 hy
    rw[J5 hge,<- hs] at q2
    repeat' first|refine st ?_|refine⟨λ_=>?_,λ_=>?_⟩|fail
    exact⟨i+1,o2,rfl,rfl,rfl,by omega,by omega,q2⟩
   |some y=>
    have hklt:=(A7.1 hy).1
    have hgy:=K5 hy
    have hs2:=A8x S6 out ys k y hy
    rw[<- q2] at hs2
    have hI:=B2S o2 (by
     have q3:=A8w (ys.take k) out
     rw[J1] at q3
     rw[q2];omega) y (.sl (A0 o2)) J7
    repeat' first|refine st ?_|refine⟨λ_=>?_,λ_=>?_⟩|fail
    exact⟨k+1,S6 o2 y,rfl,rfl,rfl,by omega,by omega,hs2.symm⟩
end Go.Proofs
end
section
namespace Go.Proofs
open Go.Bi
theorem A9C(l:List Int)(hl:l.length<=1048576)(d:D)(hd:B3 d (A0 l))(c:Int):Pure Tryz.prog B6Y [.d d,.d (eI c)] (.d (.bool (decide (c∈l)))):=by
 refine C5E.go A4 rfl ?_
 have h1:=B4 l
 have hm:=C9 l
 obtain⟨q,hq⟩:∃q,q=decide (c∈l):=⟨_,rfl⟩
 rw[<- hq]
 repeat' first|refine st ?_|refine⟨λ_=>?_,λ_=>?_⟩|fail
 refine F2 A4 C8O C7G (λ(i:Nat)=>[.d (eI i)]) (λi=>[]) (λi=>i<=l.length/\q=decide (c∈l.drop i)) (λi=>l.length-i) 0 rfl rfl rfl rfl (λ_ _=>⟨rfl,rfl⟩) rfl ⟨by omega,hq⟩ ?_
 repeat' first|refine st ?_|refine⟨λ_=>?_,λ_=>?_⟩|fail
 intro i ⟨h4,h5⟩
 cases hx:l[i]? with
 |some x=>
  obtain⟨hlt,he⟩:=A7.1 hx
  have hg:=K5 hx
  rw[P7 hlt,he] at h5
  by_cases hc:x=c
  ·subst hc
   rw[show q=true by rw[h5];simp]
   repeat' first|refine st ?_|refine⟨λ_=>?_,λ_=>?_⟩|fail
   all_goals rfl
  ·repeat' first|refine st ?_|refine⟨λ_=>?_,λ_=>?_⟩|fail
   exact⟨i+1,rfl,rfl,rfl,by omega,by omega,by rw[h5];simp[o5 hc]⟩
 |none=>
  have hge:=C8.1 hx
  rw[A0V hge] at h5
  rw[h5]
  repeat' first|refine st ?_|refine⟨λ_=>?_,λ_=>?_⟩|fail
  all_goals rfl
theorem C49(c:Ch):Pure Tryz.prog B0a [c.av] (if c.k=1 then chD c.k [] [] c.co.nm c.co.k c.co.nl c.df.k c.df.n c.df.s else if c.k=3 then chD c.k c.nm c.to [] 0 false 0 0 [] else chD c.k c.nm [] [] 0 false 0 0 []):=by
 obtain⟨k,nm,to,⟨cn,ck,cl⟩,⟨vk,vn,vs⟩⟩:=c
 dsimp only
 by_cases h1:k=1
 ·rw[if_pos h1]
  refine A9L.go A4 rfl ?_
  repeat' first|refine st ?_|refine⟨λ_=>?_,λ_=>?_⟩|fail
  all_goals rfl
 ·rw[if_neg h1]
  by_cases h3:k=3
  ·rw[if_pos h3]
   refine A9L.go A4 rfl ?_
   repeat' first|refine st ?_|refine⟨λ_=>?_,λ_=>?_⟩|fail
   all_goals rfl
  ·rw[if_neg h3]
   refine A9L.go A4 rfl ?_
   repeat' first|refine st ?_|refine⟨λ_=>?_,λ_=>?_⟩|fail
   all_goals rfl
end Go.Proofs
end
section
namespace Go.Proofs
open Go.Bi
theorem C4a(t:Tb)(dc dk df dx:D)(h:N6 t dc dk df dx)(c:Int):Pure Tryz.prog B0b [eT t.nm dc dk df dx,.d (eI c)] (.d (.bool (decide (c∈c9 t)))):=by
 obtain⟨q,hq⟩:∃q,q=decide (c∈c9 t):=⟨_,rfl⟩
 rw[<- hq]
 unfold c9 A2B A7b at hq
 obtain⟨n,l,ks,fs,xs⟩:=t
 obtain⟨hn,hl,hls,hk,hfl,hfc,hxs,hxb,hc,hdk,hdf,hdx⟩:=h
 dsimp only at *
 have hK:=A9C ks hk dk hdk c
 have f1:=A0C fs
 have f2:=A2j fs
 have x1:=I7 xs
 have x2:=O7 xs
 have fg0:=λi f=>A2V (l:=fs) (i:=i) (f:=f)
 obtain⟨FS,hFS⟩:∃es,es=G5 fs:=⟨_,rfl⟩
 rw[<- hFS] at f1 f2 hdf fg0
 have xg0:=o3 (args:=xs)
 obtain⟨XS,hXS⟩:∃es,es=xL xs:=⟨_,rfl⟩
 rw[<- hXS] at x1 x2 hdx xg0
 refine C5H.go A4 rfl ?_
 by_cases hin:c∈ks
 ·rw[decide_eq_true hin] at hK
  rw[show q=true by rw[hq];simp[hin]]
  repeat' first|refine st ?_|refine⟨λ_=>?_,λ_=>?_⟩|fail
  all_goals rfl
 rw[decide_eq_false hin] at hK
 have hq:q=decide (c∈fs.flatMap Fo.cs\/c∈xs.flatMap N7):=by rw[hq];simp[hin]
 repeat' first|refine st ?_|refine⟨λ_=>?_,λ_=>?_⟩|fail
 refine F2 A4 C8Q C7I (λ(i:Nat)=>[.d (eI i)]) (λi=>[.cells [.d (.str n),.d dc,.d dk,.d df,.d dx]]) (λi=>i<=fs.length/\q=decide (c∈(fs.drop i).flatMap Fo.cs\/c∈xs.flatMap N7)) (λi=>fs.length-i) 0 rfl rfl rfl rfl (λ_ _=>⟨rfl,rfl⟩) rfl ⟨by omega,hq⟩ ?_
 repeat' first|refine st ?_|refine⟨λ_=>?_,λ_=>?_⟩|fail
 intro i ⟨h4,h5⟩
 cases hx:fs[i]? with
 |some f=>
  obtain⟨hlt,he⟩:=A7.1 hx
  have hg:=fg0 _ _ hx
  obtain⟨hf,hft⟩:=hfc f (B9 hx)
  have hF:=A9C f.cs hf f.d f.sld c
  rw[P7 hlt,he] at h5
  obtain⟨nl,cs,tb⟩:=f
  obtain⟨fd,hfd⟩:∃fd,fd=Fo.d ⟨nl,cs,tb⟩:=⟨_,rfl⟩
  have hg:FS[i]?=some [Fo.d ⟨nl,cs,tb⟩,.str tb]:=hg
  rw[<- hfd] at hg hF
  dsimp only at hF h5
  by_cases hcin:c∈cs
  ·rw[decide_eq_true hcin] at hF
   rw[show q=true by rw[h5];simp[hcin]]
   repeat' first|refine st ?_|refine⟨λ_=>?_,λ_=>?_⟩|fail
   all_goals rfl
  ·rw[decide_eq_false hcin] at hF
   have h5:q=decide (c∈(fs.drop (i+1)).flatMap Fo.cs\/c∈xs.flatMap N7):=by rw[h5,A28];simp only[P4,hcin,false_or]
   repeat' first|refine st ?_|refine⟨λ_=>?_,λ_=>?_⟩|fail
   exact⟨i+1,rfl,rfl,rfl,by omega,by omega,h5⟩
 |none=>
  have hge:=C8.1 hx
  rw[A0V hge] at h5
  have h5:q=decide (c∈xs.flatMap N7):=by rw[h5];simp
  repeat' first|refine st ?_|refine⟨λ_=>?_,λ_=>?_⟩|fail
  refine F2 A4 C8R C7J (λ(i:Nat)=>[.d (eI i)]) (λi=>[.cells [.d (.str n),.d dc,.d dk,.d df,.d dx]]) (λi=>i<=xs.length/\q=decide (c∈(xs.drop i).flatMap N7)) (λi=>xs.length-i) 0 rfl rfl rfl rfl (λ_ _=>⟨rfl,rfl⟩) rfl ⟨by omega,h5⟩ ?_
  repeat' first|refine st ?_|refine⟨λ_=>?_,λ_=>?_⟩|fail
  intro j ⟨h6,h7⟩
  cases hy:xs[j]? with
  |some e=>
   obtain⟨hlt,he⟩:=A7.1 hy
   have hb:=hxb e (B9 hy)
   have hCo:=C3R e hb
   rw[A8W] at hCo
   have hF:=A9C (N7 e) (O4 (A4y e) hb) (.sl (A0 (N7 e))) J7 c
   rw[P7 hlt,he] at h7
   obtain⟨ce,hce⟩:∃d,d=N7 e:=⟨_,rfl⟩
   rw[A28] at h7
   rw[<- hce] at hCo hF h7
   obtain⟨o1,n1,v1,m1,l1,a1⟩:=e
   have hg:=xg0 _ _ _ _ _ _ _ hy
   rw[Ex.av_mk] at hCo
   by_cases hcin:c∈ce
   ·rw[decide_eq_true hcin] at hF
    rw[show q=true by rw[h7];simp[hcin]]
    repeat' first|refine st ?_|refine⟨λ_=>?_,λ_=>?_⟩|fail
    all_goals rfl
   ·rw[decide_eq_false hcin] at hF
    have h7:q=decide (c∈(xs.drop (j+1)).flatMap N7):=by rw[h7];simp only[P4,hcin,false_or]
    repeat' first|refine st ?_|refine⟨λ_=>?_,λ_=>?_⟩|fail
    exact⟨j+1,rfl,rfl,rfl,by omega,by omega,h7⟩
  |none=>
   have hge:=C8.1 hy
   rw[A0V hge] at h7
   rw[show q=false by rw[h7];simp]
   repeat' first|refine st ?_|refine⟨λ_=>?_,λ_=>?_⟩|fail
   all_goals rfl
theorem C47(t:Tb)(dc dk df dx:D)(h:N6 t dc dk df dx)(c:Ch)(hcn:c.co.nm.length<=1048576)(hcv:c.df.s.length<=1048576):Pure Tryz.prog B09 [eT t.nm dc dk df dx,c.av] (.d (eI (A0t t c))):=by
 have hF:=A3j t.nm t.cs h.hl dc dk df dx h.dc c.co.nm
 have hN:=A5i c.co.nm hcn
 have hV:=A5j c.df (by omega)
 have hl:=F3 t.cs
 have hdc:=h.dc
 obtain⟨q,hq⟩:∃q,q=A0t t c:=⟨_,rfl⟩
 rw[<- hq]
 unfold A0t at hq
 obtain⟨f,hf⟩:∃f,f=D4 c.co.nm t.cs:=⟨_,rfl⟩
 obtain⟨nb,hnb⟩:∃f,f=L5 c.co.nm:=⟨_,rfl⟩
 obtain⟨vb,hvb⟩:∃f,f=K7 c.df:=⟨_,rfl⟩
 rw[<- hf] at hF hq
 rw[<- hnb] at hN hq
 rw[<- hvb] at hV hq
 obtain⟨k,nm,to,⟨cn,ck,cl⟩,⟨vk,vn,vs⟩⟩:=c
 obtain⟨es,hes⟩:∃es,es=A9 t.cs:=⟨_,rfl⟩
 rw[<- hes] at hl hdc
 dsimp only at hq hF hN hV
 obtain⟨m0,hm0⟩:∃m,m=t.cs.length:=⟨_,rfl⟩
 rw[<- hm0] at hq hl
 clear hf hnb hvb hes hm0
 refine C5D.go A4 rfl ?_
 repeat' first|refine st ?_|refine⟨λ_=>?_,λ_=>?_⟩|fail
 all_goals (rw[hq];clear hq hF hN hV)
 all_goals repeat' split
 all_goals first|rfl|(exfalso;omega)|(exfalso;simp_all;done)|(exfalso;simp_all;omega)
end Go.Proofs
end
