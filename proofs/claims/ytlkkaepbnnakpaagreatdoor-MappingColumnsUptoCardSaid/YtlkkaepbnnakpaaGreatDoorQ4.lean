/- Texts of this claim, joined. No condition. -/
import Derived.Test.YtlkkaepbnnakpaaGreatDoorQ3
import Derived.Shelf.Sort.Plain
import Derived.Ground.Names2Prog
import Derived.Shelf.Slices.CompactI
import Derived.Test.YtlkkaepbnnakpaaGreatDoorProg
set_option linter.unusedSimpArgs false
set_option linter.unusedVariables false
set_option maxRecDepth 10000
set_option maxHeartbeats 4000000
section
namespace Go.Proofs
open Go.Shelf
def Tryz.lays189_ren:Go.Shelf.Ren:=⟨fun|189=>160|125=>181|257=>180|128=>206|129=>183|294=>197|295=>198|296=>199|297=>200|298=>201|299=>202|216=>203|300=>204|301=>205|328=>211|329=>212|330=>213|331=>214|332=>215|215=>216|343=>217|n=>n,fun|28=>23|3=>3|46=>175|0=>0|51=>179|53=>157|4=>4|183=>192|182=>191|131=>100|5=>5|9=>9|218=>201|222=>205|228=>209|229=>165|n=>n,fun|n=>n⟩
theorem Tryz.lays189:Go.Proofs.Lays.n189 Tryz.prog Tryz.lays189_ren:={
 mixed:=by kernel_rfl
 f125:=Tryz.func181.trans (congrArg some (by kernel_rfl))
 f128:=Tryz.func206.trans (congrArg some (by kernel_rfl))
 f129:=Tryz.func183.trans (congrArg some (by kernel_rfl))
 f189:=Tryz.func160.trans (congrArg some (by kernel_rfl))
 f215:=Tryz.func216.trans (congrArg some (by kernel_rfl))
 f216:=Tryz.func203.trans (congrArg some (by kernel_rfl))
 f257:=Tryz.func180.trans (congrArg some (by kernel_rfl))
 f294:=Tryz.func197.trans (congrArg some (by kernel_rfl))
 f295:=Tryz.func198.trans (congrArg some (by kernel_rfl))
 f296:=Tryz.func199.trans (congrArg some (by kernel_rfl))
 f297:=Tryz.func200.trans (congrArg some (by kernel_rfl))
 f298:=Tryz.func201.trans (congrArg some (by kernel_rfl))
 f299:=Tryz.func202.trans (congrArg some (by kernel_rfl))
 f300:=Tryz.func204.trans (congrArg some (by kernel_rfl))
 f301:=Tryz.func205.trans (congrArg some (by kernel_rfl))
 f328:=Tryz.func211.trans (congrArg some (by kernel_rfl))
 f329:=Tryz.func212.trans (congrArg some (by kernel_rfl))
 f330:=Tryz.func213.trans (congrArg some (by kernel_rfl))
 f331:=Tryz.func214.trans (congrArg some (by kernel_rfl))
 f332:=Tryz.func215.trans (congrArg some (by kernel_rfl))
 f343:=Tryz.func217.trans (congrArg some (by kernel_rfl))
 t0:=Tryz.underlying0
 a0:=Tryz.isAgg0
 z0:=Tryz.sizeOf0
 v0:=Tryz.zeroValue0
 t3:=Tryz.underlying3
 a3:=Tryz.isAgg3
 z3:=Tryz.sizeOf3
 v3:=Tryz.zeroValue3
 t4:=Tryz.underlying4
 a4:=Tryz.isAgg4
 z4:=Tryz.sizeOf4
 v4:=Tryz.zeroValue4
 t5:=Tryz.underlying5
 a5:=Tryz.isAgg5
 z5:=Tryz.sizeOf5
 v5:=Tryz.zeroValue5
 t9:=Tryz.underlying9
 a9:=Tryz.isAgg9
 z9:=Tryz.sizeOf9
 v9:=Tryz.zeroValue9
 t28:=Tryz.underlying23
 a28:=Tryz.isAgg23
 z28:=Tryz.sizeOf23
 v28:=Tryz.zeroValue23
 t46:=Tryz.underlying175
 a46:=Tryz.isAgg175
 z46:=Tryz.sizeOf175
 v46:=Tryz.zeroValue175
 t51:=Tryz.underlying179
 a51:=Tryz.isAgg179
 z51:=Tryz.sizeOf179
 v51:=Tryz.zeroValue179
 t53:=Tryz.underlying157
 a53:=Tryz.isAgg157
 z53:=Tryz.sizeOf157
 v53:=Tryz.zeroValue157
 t131:=Tryz.underlying100
 a131:=Tryz.isAgg100
 z131:=Tryz.sizeOf100
 v131:=Tryz.zeroValue100
 t182:=Tryz.underlying191
 a182:=Tryz.isAgg191
 z182:=Tryz.sizeOf191
 v182:=Tryz.zeroValue191
 t183:=Tryz.underlying192
 a183:=Tryz.isAgg192
 z183:=Tryz.sizeOf192
 v183:=Tryz.zeroValue192
 t218:=Tryz.underlying201
 a218:=Tryz.isAgg201
 z218:=Tryz.sizeOf201
 v218:=Tryz.zeroValue201
 t222:=Tryz.underlying205
 a222:=Tryz.isAgg205
 z222:=Tryz.sizeOf205
 v222:=Tryz.zeroValue205
 t228:=Tryz.underlying209
 a228:=Tryz.isAgg209
 z228:=Tryz.sizeOf209
 v228:=Tryz.zeroValue209
 t229:=Tryz.underlying165
 a229:=Tryz.isAgg165
 z229:=Tryz.sizeOf165
 v229:=Tryz.zeroValue165}
def Tryz.laysNm220_ren:Go.Shelf.Ren:=⟨fun|20=>161|n=>n,fun|22=>23|3=>3|4=>4|0=>0|n=>n,fun|n=>n⟩
theorem Tryz.laysNm220:Go.Proofs.Lays2.n20 Tryz.prog Tryz.laysNm220_ren:={
 mixed:=by kernel_rfl
 f20:=Tryz.func161.trans (congrArg some (by kernel_rfl))
 t0:=Tryz.underlying0
 a0:=Tryz.isAgg0
 z0:=Tryz.sizeOf0
 v0:=Tryz.zeroValue0
 t3:=Tryz.underlying3
 a3:=Tryz.isAgg3
 z3:=Tryz.sizeOf3
 v3:=Tryz.zeroValue3
 t4:=Tryz.underlying4
 a4:=Tryz.isAgg4
 z4:=Tryz.sizeOf4
 v4:=Tryz.zeroValue4
 t22:=Tryz.underlying23
 a22:=Tryz.isAgg23
 z22:=Tryz.sizeOf23
 v22:=Tryz.zeroValue23
 i3:=by kernel_rfl}
end Go.Proofs
end
section
namespace Go.Bi
theorem x_nilc{P:Program}{n nb:Nat}{cd:IC}{N:Sl->List AO->Prop}{E0:Nat->Sl->List AO->Prop}{R:Sl->List AO->Prop}{L:Sl}{os:List AO}(id off sz:Nat)(hsz:Nat.blt 0 sz=true){cs:List AV}(ho:os[id]?=some (.cells cs))(hn:cs[off]?=some (.d .nil))
  (k:LoopX P n nb cd N E0 R L ((os++[AO.arr [] sz 0 true]).set id (.cells (cs.set off (.arr os.length 0))))):LoopX P n nb cd N E0 R L os:=by
 have hw:=weak_nilc (n:=n) (nb:=nb) (ρ:=ofL L) (os:=os) id off sz (Nat.lt_of_lt_of_le Nat.zero_lt_one (Nat.le_of_ble_eq_true hsz)) ho hn
 refine⟨λcode hc c M G w a hR=>?_⟩
 obtain⟨M',G',hR'⟩:=hw c M G w a hR
 exact k.h code hc c M' G' w a hR'
end Go.Bi
namespace Go.Proofs
open Go.Bi
theorem mG_ds(f:Nat->Nat)(ds:List D):mG f (.agg (ds.map .d))=.agg (ds.map .d):=by
 simp only[mG,List.map_map]
 congr 1
theorem mA_ds(f:Nat->Nat)(ds:List D):mA f (.agg (ds.map .d))=.agg (ds.map .d):=by
 simp only[mA,mG,List.map_map]
 congr 1
theorem bnd_ds(ds:List D)(n:Nat):(AV.agg (ds.map .d)).bnd2 n:=by
 intro c hc
 obtain⟨x,_,rfl⟩:=List.mem_map.1 hc
 trivial
theorem liftA{g:FuncId}(a:AV){x y:D}{r:AV}(ds:List D)(h:CallSpec Tryz.prog g [.agg (ds.map .d),a] [.cells [.d x]] (λr' os'=>r'=r/\os'=[.cells [.d y]]))(a':Nat->AV)(ha:∀id n,mG (rn [id] n) a=a' id)(hba:a.bnd2 1)(hr:∀f,mA f r=r){os:List AO}{id:Nat}(ho:os[id]?=some (.cells [.d x])) :
  CallSpec Tryz.prog g [.agg (ds.map .d),a' id] os (λr' os'=>r'=r/\os'=os.set id (.cells [.d y])):=by
 have:=CallSpec.frame (K:=λr' os'=>r'=r/\os'=os.set id (.cells [.d y])) h [id] os rfl (by simp) (λi o hx=>?_) (λz hz=>?_) (λo hx=>?_) ?_
 ·rw[List.map_cons,List.map_cons,List.map_nil,mG_ds,ha] at this;exact this
 ·cases i with
  |zero=>simp at hx;subst hx;exact ho
  |succ i=>simp at hx
 ·simp only[List.mem_cons,List.not_mem_nil,or_false] at hz
  rcases hz with rfl|rfl
  ·exact bnd_ds _ _
  ·exact hba
 ·cases List.mem_singleton.1 hx
  simp[AO.bnd,AV.bnd1]
 ·rintro _ _ ⟨rfl,rfl⟩
  refine⟨hr _,?_⟩
  simp[putA,mO,mC]
theorem liftP{g:FuncId}{x y:D}{r:AV}{ds:List D}(h:CallSpec Tryz.prog g [.agg (ds.map .d),.ptr 0 0] [.cells [.d x]] (λr' os'=>r'=r/\os'=[.cells [.d y]]))(hr:∀f,mA f r=r){os:List AO}{id:Nat}(ho:os[id]?=some (.cells [.d x])) :
  CallSpec Tryz.prog g [.agg (ds.map .d),.ptr id 0] os (λr' os'=>r'=r/\os'=os.set id (.cells [.d y])):=
 liftA _ _ h (λid=>.ptr id 0) (λid n=>rfl) (by simp[AV.bnd2,AV.bnd1]) hr ho
theorem liftF{g f:FuncId}{x y:D}{r:AV}{ds:List D}(h:CallSpec Tryz.prog g [.agg (ds.map .d),.clo f [0]] [.cells [.d x]] (λr' os'=>r'=r/\os'=[.cells [.d y]]))(hr:∀f,mA f r=r){os:List AO}{id:Nat}(ho:os[id]?=some (.cells [.d x])) :
  CallSpec Tryz.prog g [.agg (ds.map .d),.clo f [id]] os (λr' os'=>r'=r/\os'=os.set id (.cells [.d y])):=
 liftA _ _ h (λid=>.clo f [id]) (λid n=>rfl) (by simp[AV.bnd2,AV.bnd1]) hr ho
mutual
def mapX(φ:Ex->Ex):Ex->Ex
 |.mk op n v nm nl args=>if op=2 then φ (.mk op n v nm true (mapXs φ args)) else .mk op n v nm true (mapXs φ args)
def mapXs(φ:Ex->Ex):List Ex->List Ex
 |[]=>[]
 |a::l=>mapX φ a::mapXs φ l
end
theorem mapXs_eq(φ:Ex->Ex):∀l,mapXs φ l=l.map (mapX φ)
 |[]=>by simp[mapXs]
 |a::l=>by simp[mapXs,mapXs_eq φ l]
theorem mapX_mk(φ:Ex->Ex)(op n:Int)(v:Vl)(nm:List UInt8)(nl:Bool)(args:List Ex):mapX φ (.mk op n v nm nl args)=if op=2 then φ (.mk op n v nm true (args.map (mapX φ))) else .mk op n v nm true (args.map (mapX φ)):=by
 rw[mapX,mapXs_eq]
def Mt(φ:Ex->Ex)(l:List Ex)(i:Nat):List (List D):=xL ((l.take i).map φ)
theorem Mt_len(φ:Ex->Ex)(l:List Ex)(i:Nat)(h:i<=l.length):(Mt φ l i).length=i:=by
 unfold Mt
 rw[xL_len,List.length_map,List.length_take]
 omega
theorem Mt_mem(φ:Ex->Ex)(l:List Ex)(i:Nat):∀e∈Mt φ l i,e.length=7:=xL_mem _
theorem Mt_succ{φ:Ex->Ex}{l:List Ex}{i:Nat}{c:Ex}(h:l[i]?=some c):Mt φ l i++[(φ c).ds]=Mt φ l (i+1):=by
 unfold Mt
 rw[List.take_add_one,h]
 simp[xL]
theorem Mt_end{φ:Ex->Ex}{l:List Ex}{i:Nat}(h:l.length<=i):Mt φ l i=xL (l.map φ):=by
 unfold Mt
 rw[List.take_of_length_le h]
theorem ng_true(l:List (List D)):ng true l=if l.isEmpty then .nil else .sl l:=by unfold ng;rw[Bool.true_and]
theorem C.expr_mapped(g:FuncId)(y:D)(φ:Ex->Ex)(hg:∀x:Ex,CallSpec Tryz.prog g [x.av,.ptr 0 0] [.cells [.d y]] (λr os=>r=(φ x).av/\os=[.cells [.d y]])):∀e:Ex,e.bk<=1048576->CallSpec Tryz.prog N.expr_mapped [e.av,.clo g [0]] [.cells [.d y]] (λr os=>r=(mapX φ e).av/\os=[.cells [.d y]]):=by
 refine Ex.ind λop n v nm nl args ih hb=>?_
 obtain⟨b1,b2,b3,b4⟩:=Ex.bk_bounds hb
 obtain⟨Z,hZ⟩:∃Z,Z=(mapX φ (.mk op n v nm nl args)).av:=⟨_,rfl⟩
 rw[<- hZ]
 rw[mapX_mk] at hZ
 rw[Ex.av_mk]
 refine F.expr_mapped.goX mixed rfl ?_
 have h1:=xL_len args
 have hm:=xL_mem args
 obtain⟨da,hda⟩:∃d,d=ng nl (xL args):=⟨_,rfl⟩
 have hsd:SlD da (xL args):=by rw[hda];exact sld_ng
 rw[<- hda]
 have r0:v.k=v.k:=rfl
 have r1:v.s=v.s:=rfl
 have r2:nm=nm:=rfl
 repeat' first|refine st ?_|(with_reducible first|apply k_d|apply k_b)<;>intro _
 refine x_nil 5 7 rfl rfl ?_
 repeat' first|refine st ?_|(with_reducible first|apply k_d|apply k_b)<;>intro _
 refine x_loop2 mixed Lt.expr_mapped_l0 Lk.expr_mapped_l0 (λ(i:Nat) (w:List (List D)×Bool)=>[.arr 3 w.1.length,.d (eI i)]) (λi w=>[.cells [.d y],.cells [.d (eI op),.d (eI n),.d (eI v.k),.d (eI v.n),.d (.str v.s),.d (.str nm),.d da],.cells [.d (eI 0),.d (eI 0),.d (eI 0),.d (eI 0),.d (.str []),.d (.str []),.d .nil],.arr w.1 7 0 w.2]) (λi w=>i<=args.length/\w.1=Mt (mapX φ) args i/\w.2=w.1.isEmpty) (λi _=>args.length-i) 0 ([],true) rfl rfl rfl rfl (λ_ _ _=>⟨rfl,rfl⟩) rfl ⟨by omega,rfl,rfl⟩ ?_
 repeat' first|refine st ?_|(with_reducible first|apply k_d|apply k_b)<;>intro _
 intro i w ⟨h4,h5,h6⟩
 obtain⟨A,b⟩:=w
 dsimp only at h5 h6 ⊢
 have hAl:A.length=i:=by rw[h5];exact Mt_len _ args i (by omega)
 have hAm:∀e∈A,e.length=7:=by rw[h5];exact Mt_mem _ _ _
 cases hx:args[i]? with
 |some x=>
  have hlt:=(List.getElem?_eq_some_iff.1 hx).1
  have hs:=Mt_succ (φ:=mapX φ) hx
  have hg:=xL_get hx
  have hi:=ih x (List.mem_of_getElem? hx) (b4 x (List.mem_of_getElem? hx))
  rw[<- h5] at hs
  have hL:∀os:List AO,os[0]?=some (.cells [.d y])->CallSpec Tryz.prog N.expr_mapped [x.av,.clo g [0]] os (λr' os'=>r'=(mapX φ x).av/\os'=os.set 0 (.cells [.d y])):=λos ho=>liftF (id:=0) hi (λf=>mA_ds f _) ho
  obtain⟨z,hz⟩:∃z,z=mapX φ x:=⟨_,rfl⟩
  rw[<- hz] at hs hL
  obtain⟨o1,n1,v1,m1,l1,a1⟩:=x
  obtain⟨o2,n2,v2,m2,l2,a2⟩:=z
  rw[Ex.ds_mk] at hg hs
  simp only[Ex.av_mk] at hL
  repeat' first|refine st ?_|((with_reducible first|apply k_nc|apply k_cs);(·exact hL _ rfl);(try rintro _ _ ⟨rfl,rfl⟩))|((with_reducible apply k_pr);(·exact hL _ rfl))|((with_reducible apply k_cal);refine st ?_;(with_reducible apply k_chk);(·exact rfl);refine st ?_;(with_reducible apply k_cs);(·exact hL _ rfl);(try rintro _ _ ⟨rfl,rfl⟩))|(with_reducible first|apply k_d|apply k_b)<;>intro _
  exact⟨i+1,(A++[xds o2 n2 v2 m2 (ng l2 (xL a2))],false),rfl,rfl,rfl,by omega,by omega,hs,by simp⟩
 |none=>
  have hge:=List.getElem?_eq_none_iff.1 hx
  rw[Mt_end hge] at h5
  have hx':(Ex.mk op n v nm true (args.map (mapX φ))).av=eX op n v nm (if A.isEmpty then .nil else .sl A):=by rw[Ex.av_mk,ng_true,<- h5]
  have hφ:∀os:List AO,os[0]?=some (.cells [.d y])->CallSpec Tryz.prog g [(Ex.mk op n v nm true (args.map (mapX φ))).av,.ptr 0 0] os (λr' os'=>r'=(φ (.mk op n v nm true (args.map (mapX φ)))).av/\os'=os.set 0 (.cells [.d y])):=λos ho=>liftP (id:=0) (hg _) (λf=>mA_ds f _) ho
  rw[<- h6] at hx'
  by_cases h2:op=2
  ·rw[if_pos h2] at hZ
   obtain⟨z,hz⟩:∃z,z=φ (.mk op n v nm true (args.map (mapX φ))):=⟨_,rfl⟩
   rw[<- hz] at hZ hφ
   rw[hx'] at hφ
   obtain⟨o2,n2,v2,m2,l2,a2⟩:=z
   simp only[Ex.av_mk] at hZ hφ
   rw[hZ]
   cases b with
   |true=>
    rw[if_pos rfl] at hφ
    repeat' first|refine st ?_|((with_reducible first|apply k_nc|apply k_cs);(·exact hφ _ rfl);(try rintro _ _ ⟨rfl,rfl⟩))|((with_reducible apply k_pr);(·exact hφ _ rfl))|((with_reducible apply k_cal);refine st ?_;(with_reducible apply k_chk);(·exact rfl);refine st ?_;(with_reducible apply k_cs);(·exact hφ _ rfl);(try rintro _ _ ⟨rfl,rfl⟩))|(with_reducible first|apply k_d|apply k_b)<;>intro _
    all_goals exact⟨rfl,rfl⟩
   |false=>
    rw[if_neg (by simp)] at hφ
    repeat' first|refine st ?_|((with_reducible first|apply k_nc|apply k_cs);(·exact hφ _ rfl);(try rintro _ _ ⟨rfl,rfl⟩))|((with_reducible apply k_pr);(·exact hφ _ rfl))|((with_reducible apply k_cal);refine st ?_;(with_reducible apply k_chk);(·exact rfl);refine st ?_;(with_reducible apply k_cs);(·exact hφ _ rfl);(try rintro _ _ ⟨rfl,rfl⟩))|(with_reducible first|apply k_d|apply k_b)<;>intro _
    all_goals exact⟨rfl,rfl⟩
  ·rw[if_neg h2,hx'] at hZ
   rw[hZ]
   cases b with
   |true=>
    repeat' first|refine st ?_|(with_reducible first|apply k_d|apply k_b)<;>intro _
    all_goals exact⟨rfl,rfl⟩
   |false=>
    repeat' first|refine st ?_|(with_reducible first|apply k_d|apply k_b)<;>intro _
    all_goals exact⟨rfl,rfl⟩
def shC(k:Int):Ex->Ex
 |.mk op n v nm nl args=>.mk op (w64 (n+k)) v nm nl args
def shf(k:Int)(e:Ex):Ex:=mapX (shC k) e
theorem C.Shift_c1(k:Int)(x:Ex):CallSpec Tryz.prog N.expr_Shift_c1 [x.av,.ptr 0 0] [.cells [.d (eI k)]] (λr os=>r=(shC k x).av/\os=[.cells [.d (eI k)]]):=by
 obtain⟨op,n,v,nm,nl,args⟩:=x
 rw[shC,Ex.av_mk,Ex.av_mk]
 refine F.expr_Shift_c1.goX mixed rfl ?_
 repeat' first|refine st ?_|(with_reducible first|apply k_d|apply k_b)<;>intro _
 all_goals exact⟨rfl,rfl⟩
theorem C.expr_Shift(e:Ex)(he:e.bk<=1048576)(k:Int):Pure Tryz.prog N.expr_Shift [e.av,.d (eI k)] (shf k e).av:=by
 have hM:=C.expr_mapped N.expr_Shift_c1 (eI k) (shC k) (C.Shift_c1 k) e he
 have hL:∀os:List AO,os[1]?=some (.cells [.d (eI k)])->CallSpec Tryz.prog N.expr_mapped [e.av,.clo N.expr_Shift_c1 [1]] os (λr' os'=>r'=(mapX (shC k) e).av/\os'=os.set 1 (.cells [.d (eI k)])):=λos ho=>liftF (id:=1) hM (λf=>mA_ds f _) ho
 unfold shf
 obtain⟨z,hz⟩:∃z,z=mapX (shC k) e:=⟨_,rfl⟩
 rw[<- hz] at hL ⊢
 obtain⟨o1,n1,v1,m1,l1,a1⟩:=e
 obtain⟨o2,n2,v2,m2,l2,a2⟩:=z
 simp only[Ex.av_mk] at hL ⊢
 refine F.expr_Shift.go mixed rfl ?_
 repeat' first|refine st ?_|((with_reducible first|apply k_nc|apply k_cs);(·exact hL _ rfl);(try rintro _ _ ⟨rfl,rfl⟩))|((with_reducible apply k_pr);(·exact hL _ rfl))|((with_reducible apply k_cal);refine st ?_;(with_reducible apply k_chk);(·exact rfl);refine st ?_;(with_reducible apply k_cs);(·exact hL _ rfl);(try rintro _ _ ⟨rfl,rfl⟩))|(with_reducible first|apply k_d|apply k_b)<;>intro _
 all_goals rfl
theorem shf_mk(k op n:Int)(v:Vl)(nm:List UInt8)(nl:Bool)(args:List Ex):shf k (.mk op n v nm nl args)=.mk op (if op=2 then w64 (n+k) else n) v nm true (args.map (shf k)):=by
 unfold shf
 rw[mapX_mk]
 by_cases h:op=2
 ·rw[if_pos h,if_pos h];rfl
 ·rw[if_neg h,if_neg h]
theorem C.r11_Shift(k:Int):∀e:Ex,e.bk<=1048576->Pure Tryz.prog N.bt_ref11_Shift [e.av,.d (eI k)] (shf k e).av:=by
 refine Ex.ind λop n v nm nl args ih hb=>?_
 obtain⟨b1,b2,b3,b4⟩:=Ex.bk_bounds hb
 rw[shf_mk,Ex.av_mk]
 refine F.bt_ref11_Shift.go mixed rfl ?_
 have h1:=xL_len args
 have hm:=xL_mem args
 obtain⟨da,hda⟩:∃d,d=ng nl (xL args):=⟨_,rfl⟩
 have hsd:SlD da (xL args):=by rw[hda];exact sld_ng
 rw[<- hda]
 have r0:v.k=v.k:=rfl
 have r1:v.s=v.s:=rfl
 have r2:nm=nm:=rfl
 obtain⟨n',hn'⟩:∃n',n'=(if op=2 then w64 (n+k) else n):=⟨_,rfl⟩
 rw[<- hn',Ex.av_mk,ng_true]
 by_cases h2:op=2
 ·rw[if_pos h2] at hn'
  subst hn'
  repeat' first|refine st ?_|(with_reducible first|apply k_d|apply k_b)<;>intro _
  refine x_nilc 2 6 7 rfl rfl rfl ?_
  refine x_loop2 mixed Lt.bt_ref11_Shift_l0 Lk.bt_ref11_Shift_l0 (λ(i:Nat) (w:List (List D)×Bool)=>[.d (eI i)]) (λi w=>[.cells [.d (eI op),.d (eI n),.d (eI v.k),.d (eI v.n),.d (.str v.s),.d (.str nm),.d da],.cells [.d (eI 0),.d (eI 0),.d (eI 0),.d (eI 0),.d (.str []),.d (.str []),.d .nil],.cells [.d (eI op),.d (eI (w64 (n+k))),.d (eI v.k),.d (eI v.n),.d (.str v.s),.d (.str nm),.arr 3 w.1.length],.arr w.1 7 0 w.2]) (λi w=>i<=args.length/\w.1=Mt (shf k) args i/\w.2=w.1.isEmpty) (λi _=>args.length-i) 0 ([],true) rfl rfl rfl rfl (λ_ _ _=>⟨rfl,rfl⟩) rfl ⟨by omega,rfl,rfl⟩ ?_
  repeat' first|refine st ?_|(with_reducible first|apply k_d|apply k_b)<;>intro _
  intro i w ⟨h4,h5,h6⟩
  obtain⟨A,b⟩:=w
  dsimp only at h5 h6 ⊢
  have hAl:A.length=i:=by rw[h5];exact Mt_len _ args i (by omega)
  have hAm:∀e∈A,e.length=7:=by rw[h5];exact Mt_mem _ _ _
  cases hx:args[i]? with
  |some x=>
   have hlt:=(List.getElem?_eq_some_iff.1 hx).1
   have hs:=Mt_succ (φ:=shf k) hx
   have hg:=xL_get hx
   have hi:=ih x (List.mem_of_getElem? hx) (b4 x (List.mem_of_getElem? hx))
   rw[<- h5] at hs
   obtain⟨z,hz⟩:∃z,z=shf k x:=⟨_,rfl⟩
   rw[<- hz] at hs hi
   obtain⟨o1,n1,v1,m1,l1,a1⟩:=x
   obtain⟨o2,n2,v2,m2,l2,a2⟩:=z
   rw[Ex.ds_mk] at hg hs
   rw[Ex.av_mk,Ex.av_mk] at hi
   repeat' first|refine st ?_|((with_reducible first|apply k_pn|apply k_pc);(·exact hi))|(with_reducible first|apply k_d|apply k_b)<;>intro _
   exact⟨i+1,(A++[xds o2 n2 v2 m2 (ng l2 (xL a2))],false),rfl,rfl,rfl,by omega,by omega,hs,by simp⟩
  |none=>
   have hge:=List.getElem?_eq_none_iff.1 hx
   rw[Mt_end hge] at h5
   rw[<- h5,<- h6]
   cases b with
   |true=>
    rw[if_pos rfl]
    repeat' first|refine st ?_|(with_reducible first|apply k_d|apply k_b)<;>intro _
    all_goals rfl
   |false=>
    rw[if_neg (by simp)]
    repeat' first|refine st ?_|(with_reducible first|apply k_d|apply k_b)<;>intro _
    all_goals rfl
 ·rw[if_neg h2] at hn'
  rw[hn']
  repeat' first|refine st ?_|(with_reducible first|apply k_d|apply k_b)<;>intro _
  refine x_nilc 2 6 7 rfl rfl rfl ?_
  refine x_loop2 mixed Lt.bt_ref11_Shift_l0 Lk.bt_ref11_Shift_l0 (λ(i:Nat) (w:List (List D)×Bool)=>[.d (eI i)]) (λi w=>[.cells [.d (eI op),.d (eI n),.d (eI v.k),.d (eI v.n),.d (.str v.s),.d (.str nm),.d da],.cells [.d (eI 0),.d (eI 0),.d (eI 0),.d (eI 0),.d (.str []),.d (.str []),.d .nil],.cells [.d (eI op),.d (eI n),.d (eI v.k),.d (eI v.n),.d (.str v.s),.d (.str nm),.arr 3 w.1.length],.arr w.1 7 0 w.2]) (λi w=>i<=args.length/\w.1=Mt (shf k) args i/\w.2=w.1.isEmpty) (λi _=>args.length-i) 0 ([],true) rfl rfl rfl rfl (λ_ _ _=>⟨rfl,rfl⟩) rfl ⟨by omega,rfl,rfl⟩ ?_
  repeat' first|refine st ?_|(with_reducible first|apply k_d|apply k_b)<;>intro _
  intro i w ⟨h4,h5,h6⟩
  obtain⟨A,b⟩:=w
  dsimp only at h5 h6 ⊢
  have hAl:A.length=i:=by rw[h5];exact Mt_len _ args i (by omega)
  have hAm:∀e∈A,e.length=7:=by rw[h5];exact Mt_mem _ _ _
  cases hx:args[i]? with
  |some x=>
   have hlt:=(List.getElem?_eq_some_iff.1 hx).1
   have hs:=Mt_succ (φ:=shf k) hx
   have hg:=xL_get hx
   have hi:=ih x (List.mem_of_getElem? hx) (b4 x (List.mem_of_getElem? hx))
   rw[<- h5] at hs
   obtain⟨z,hz⟩:∃z,z=shf k x:=⟨_,rfl⟩
   rw[<- hz] at hs hi
   obtain⟨o1,n1,v1,m1,l1,a1⟩:=x
   obtain⟨o2,n2,v2,m2,l2,a2⟩:=z
   rw[Ex.ds_mk] at hg hs
   rw[Ex.av_mk,Ex.av_mk] at hi
   repeat' first|refine st ?_|((with_reducible first|apply k_pn|apply k_pc);(·exact hi))|(with_reducible first|apply k_d|apply k_b)<;>intro _
   exact⟨i+1,(A++[xds o2 n2 v2 m2 (ng l2 (xL a2))],false),rfl,rfl,rfl,by omega,by omega,hs,by simp⟩
  |none=>
   have hge:=List.getElem?_eq_none_iff.1 hx
   rw[Mt_end hge] at h5
   rw[<- h5,<- h6]
   cases b with
   |true=>
    rw[if_pos rfl]
    repeat' first|refine st ?_|(with_reducible first|apply k_d|apply k_b)<;>intro _
    all_goals rfl
   |false=>
    rw[if_neg (by simp)]
    repeat' first|refine st ?_|(with_reducible first|apply k_d|apply k_b)<;>intro _
    all_goals rfl
end Go.Proofs
end
section
namespace Go.Bi
theorem mC_id{f:Nat->Nat}{k:Nat}(hf:∀i,i<k->f i=i){c:AV}(h:c.bnd1 k):mC f c=c:=by
 cases c with
 |ptr id off=>simp only[mC];rw[hf id h]
 |aptr id len i off=>simp only[mC];rw[hf id h]
 |arr id len=>simp only[mC];rw[hf id h]
 |clo g caps=>
  simp only[mC]
  congr 1
  conv=>rhs;rw[<- List.map_id caps]
  exact List.map_congr_left λi hi=>hf i (h i hi)
 |iter id=>simp only[mC];rw[hf id h]
 |mp id=>simp only[mC];rw[hf id h]
 |mit id=>simp only[mC];rw[hf id h]
 |rs id len=>simp only[mC];rw[hf id h]
 |rp id len i off=>simp only[mC];rw[hf id h]
 |_=>rfl
theorem mG_id{f:Nat->Nat}{k:Nat}(hf:∀i,i<k->f i=i){c:AV}(h:c.bnd2 k):mG f c=c:=by
 cases c with
 |agg cs=>
  simp only[mG]
  congr 1
  conv=>rhs;rw[<- List.map_id cs]
  exact List.map_congr_left λc hc=>mC_id hf (h c hc)
 |ptr id off=>exact mC_id (c:=.ptr id off) hf h
 |aptr id len i off=>exact mC_id (c:=.aptr id len i off) hf h
 |arr id len=>exact mC_id (c:=.arr id len) hf h
 |clo g caps=>exact mC_id (c:=.clo g caps) hf h
 |iter id=>exact mC_id (c:=.iter id) hf h
 |mp id=>exact mC_id (c:=.mp id) hf h
 |mit id=>exact mC_id (c:=.mit id) hf h
 |rs id len=>exact mC_id (c:=.rs id len) hf h
 |rp id len i off=>exact mC_id (c:=.rp id len i off) hf h
 |_=>rfl
theorem mO_id{f:Nat->Nat}{k:Nat}(hf:∀i,i<k->f i=i){o:AO}(h:o.bnd k):mO f o=o:=by
 cases o with
 |cells cs=>
  simp only[mO]
  congr 1
  conv=>rhs;rw[<- List.map_id cs]
  exact List.map_congr_left λc hc=>mC_id hf (h c hc)
 |map kvs=>
  simp only[mO]
  congr 1
  conv=>rhs;rw[<- List.map_id kvs]
  exact List.map_congr_left λp hp=>by rw[mG_id hf (h p hp)];rfl
 |mit m n s=>simp only[mO];rw[hf m h]
 |rarr es sz nl=>
  simp only[mO]
  congr 1
  conv=>rhs;rw[<- List.map_id es]
  refine List.map_congr_left λe he=>?_
  conv=>rhs;rw[id,<- List.map_id e]
  exact List.map_congr_left λc hc=>mC_id hf (h e he c hc)
 |_=>rfl
theorem CallSpec.pre{P:Program}{g:FuncId}{args:List AV}{bs:List AO}{Q:AV->List AO->Prop}(h:CallSpec P g args bs Q)(rest:List AO)(hba:∀a∈args,a.bnd2 bs.length)(hbo:∀o∈bs,o.bnd bs.length){K:AV->List AO->Prop}
  (hk:∀r bs',Q r bs'->bs'.length=bs.length/\(∀o∈bs',o.bnd bs.length)/\(∀f,mA f r=r)/\K r (bs'++rest)):CallSpec P g args (bs++rest) K:=by
 have hf:∀n i,i<bs.length->rn (List.range bs.length) n i=i:=λn i hi=>by
  rw[rn_lt (by simpa using hi),List.getD_eq_getElem?_getD]
  simp[hi]
 have:=CallSpec.frame (K:=K) h (List.range bs.length) (bs++rest) (by simp) List.nodup_range (λi o hx=>?_) hba hbo (λr bs' hq=>?_)
 ·have e:args.map (mG (rn (List.range bs.length) (bs++rest).length))=args:=by
   conv=>rhs;rw[<- List.map_id args]
   exact List.map_congr_left λa ha=>mG_id (hf _) (hba a ha)
  rwa [e] at this
 ·have hi:=(List.getElem?_eq_some_iff.1 hx).1
  have e:=hf (bs++rest).length i hi
  rw[rn_lt (by simpa using hi)] at e
  rw[e,List.getElem?_append_left hi,hx,mO_id (hf _) (hbo o (List.mem_of_getElem? hx))]
 ·obtain⟨h1,h2,h3,h4⟩:=hk r bs' hq
  rw[h3]
  obtain⟨g1,g2,g3,g4⟩:=putA_get (rn (List.range bs.length) (bs++rest).length) (List.range bs.length) bs' (bs++rest) List.nodup_range (λs hs=>by simp at hs ⊢;omega) (by simp[h1])
  have e:putA (rn (List.range bs.length) (bs++rest).length) (List.range bs.length) bs' (bs++rest)=bs'++rest:=by
   refine List.ext_getElem? λj=>?_
   rcases Nat.lt_or_ge j bs.length with hj|hj
   ·have hb:bs'[j]?=some bs'[j]:=List.getElem?_eq_getElem (by omega)
    rw[g1 j j _ (by simp[hj]) hb,List.getElem?_append_left (by omega),hb,mO_id (hf _) (h2 _ (List.mem_of_getElem? hb))]
   ·rcases Nat.lt_or_ge j (bs++rest).length with hj2|hj2
    ·rw[g2 j hj2 (by simp;omega),List.getElem?_append_right hj,List.getElem?_append_right (by omega),h1]
    ·rw[List.getElem?_eq_none (by rw[g4];simp at hj2 ⊢;omega),List.getElem?_eq_none (by simp at hj2 ⊢;omega)]
  rw[e]
  exact h4
end Go.Bi
namespace Go.Proofs
open Go.Bi
end Go.Proofs
end
section
namespace Go.Proofs
open Go.Bi
theorem enters_Sort:Bi.Enters Tryz.prog N.slices_Sort__int_int:=⟨_,Tryz.func160,by kernel_rfl,by decide⟩
theorem enters_Compact:Bi.Enters Tryz.prog N.slices_Compact__int_int:=⟨_,Tryz.func161,by kernel_rfl,by decide⟩
def srt(zs:List Int):List Int:=zs.mergeSort λx y=>decide (x<=y)
theorem srt_len(zs:List Int):(srt zs).length=zs.length:=by simp[srt]
def cmp0(zs:List Int):List Int:=Lib.compact zs++List.replicate (zs.length-(Lib.compact zs).length) 0
theorem bnd_arr(n:Nat)(es:List (List D))(sz frz:Nat)(nl:Bool):(AO.arr es sz frz nl).bnd n:=by simp[AO.bnd]
theorem C.slices_Sort(zs:List Int)(nl:Bool)(hz:zs.length<4611686018427387904){os:List AO}{id:Nat}(ho:os[id]?=some (.arr (eIs zs) 1 0 nl)) :
  CallSpec Tryz.prog N.slices_Sort__int_int [.arr id (eIs zs).length] os (λr os'=>r=.tup []/\os'=os.set id (.arr (eIs (srt zs)) 1 0 nl)):=
 lift1 (λid=>[.arr id (eIs zs).length]) (sort_own Tryz.lays189 enters_Sort zs nl hz) (λ_=>rfl) (λ_=>rfl) (λ_=>rfl) (λ_ _=>rfl) (by simp[AV.bnd2,AV.bnd1]) (bnd_arr ..) ho
theorem C.slices_Compact(zs:List Int)(nl:Bool)(hz:zs.length<=9223372036854775807){os:List AO}{id:Nat}(ho:os[id]?=some (.arr (eIs zs) 1 0 nl)) :
  CallSpec Tryz.prog N.slices_Compact__int_int [.arr id (eIs zs).length] os (λr os'=>r=.d (if nl then .nil else .sl (eIs (Lib.compact zs)))/\os'=os.set id (.arr (eIs (cmp0 zs)) 1 (if nl then 0 else (Lib.compact zs).length) nl)):=
 lift1 (λid=>[.arr id (eIs zs).length]) (compact_own Tryz.laysNm220 enters_Compact zs nl hz) (λ_=>rfl) (λ_=>rfl) (λ_=>rfl) (λ_ _=>rfl) (by simp[AV.bnd2,AV.bnd1]) (bnd_arr ..) ho
mutual
def rawC:Ex->List Int
 |.mk op n v nm nl args=>(if op=2 then [n] else [])++rawCs args
def rawCs:List Ex->List Int
 |[]=>[]
 |a::l=>rawC a++rawCs l
end
theorem rawCs_eq:∀l,rawCs l=l.flatMap rawC
 |[]=>by simp[rawCs]
 |a::l=>by simp[rawCs,rawCs_eq l]
theorem rawC_mk(op n:Int)(v:Vl)(nm:List UInt8)(nl:Bool)(args:List Ex):rawC (.mk op n v nm nl args)=(if op=2 then [n] else [])++args.flatMap rawC:=by rw[rawC,rawCs_eq]
theorem flatMap_len2{l:List Ex}{f:Ex->List Int}(h:∀a∈l,(f a).length<=a.bk):(l.flatMap f).length<=bulkLL (xL l):=by
 induction l with
 |nil=>simp
 |cons a l ih=>
  have h1:=h a (by simp)
  have h2:=ih λb hb=>h b (by simp[hb])
  rw[List.flatMap_cons,List.length_append]
  simp only[xL,List.map_cons,bulkLL]
  unfold Ex.bk at h1
  unfold xL at h2
  omega
theorem rawC_len:∀e:Ex,(rawC e).length<=e.bk:=by
 refine Ex.ind λop n v nm nl args ih=>?_
 have hb:=Ex.bk_mk op n v nm nl args
 have:=flatMap_len2 ih
 rw[rawC_mk,List.length_append]
 split<;>simp only[List.length_cons,List.length_nil]<;>omega
def own(op n:Int):List Int:=if op=2 then [n] else []
theorem eIs_app2(a b:List Int):eIs (a++b)=eIs a++eIs b:=by simp[eIs]
theorem C.Columns_c1(op n:Int)(v:Vl)(nm:List UInt8)(d:D)(zs:List Int)(hz:zs.length<=4194304) :
  CallSpec Tryz.prog N.expr_Columns_c1 [eX op n v nm d,.ptr 0 0] [.cells [.arr 1 (eIs zs).length],.arr (eIs zs) 1 0 (eIs zs).isEmpty] (λr os=>r=.tup []/\os=[.cells [.arr 1 (eIs (zs++own op n)).length],.arr (eIs (zs++own op n)) 1 0 (eIs (zs++own op n)).isEmpty]):=by
 obtain⟨b,hb⟩:∃b,b=(eIs zs).isEmpty:=⟨_,rfl⟩
 rw[<- hb]
 have hl:=eIs_len zs
 unfold own
 by_cases h:op=2
 ·rw[if_pos h,eIs_app2]
  have e1:(eIs zs++eIs [n]).isEmpty=false:=by simp[eIs]
  rw[e1]
  refine F.expr_Columns_c1.goX mixed rfl ?_
  repeat' first|refine st ?_|(with_reducible first|apply k_d|apply k_b)<;>intro _
  all_goals exact⟨rfl,by simp[eIs]⟩
 ·rw[if_neg h,List.append_nil,<- hb]
  refine F.expr_Columns_c1.goX mixed rfl ?_
  repeat' first|refine st ?_|(with_reducible first|apply k_d|apply k_b)<;>intro _
  all_goals exact⟨rfl,rfl⟩
theorem mem2{α:Type}{x a b:α}(h:x∈[a,b]):x=a\/x=b:=by simpa using h
theorem pre2{g:FuncId}{ds:List D}{a:AV}(ha:a.bnd2 2){zs ys:List Int}(h:CallSpec Tryz.prog g [.agg (ds.map .d),a] [.cells [.arr 1 (eIs zs).length],.arr (eIs zs) 1 0 (eIs zs).isEmpty] (λr os=>r=.tup []/\os=[.cells [.arr 1 (eIs ys).length],.arr (eIs ys) 1 0 (eIs ys).isEmpty]))(rest:List AO) :
  CallSpec Tryz.prog g [.agg (ds.map .d),a] ([.cells [.arr 1 (eIs zs).length],.arr (eIs zs) 1 0 (eIs zs).isEmpty]++rest) (λr os=>r=.tup []/\os=[.cells [.arr 1 (eIs ys).length],.arr (eIs ys) 1 0 (eIs ys).isEmpty]++rest):=by
 refine CallSpec.pre h rest (λx hx=>?_) (λo ho=>?_) ?_
 ·rcases mem2 hx with rfl|rfl
  ·exact bnd_ds _ _
  ·exact ha
 ·rcases mem2 ho with rfl|rfl<;>simp[AO.bnd,AV.bnd1]
 ·rintro r bs' ⟨rfl,rfl⟩
  refine⟨rfl,λo ho=>?_,λf=>rfl,rfl,rfl⟩
  rcases mem2 ho with rfl|rfl<;>simp[AO.bnd,AV.bnd1]
theorem rawt_succ{l:List Ex}{i:Nat}{x:Ex}(h:l[i]?=some x):(l.take (i+1)).flatMap rawC=(l.take i).flatMap rawC++rawC x:=by
 rw[List.take_add_one,h];simp
theorem rawt_len(l:List Ex)(i:Nat):((l.take i).flatMap rawC).length<=bulkLL (xL l):=by
 have h1:((l.take i).flatMap rawC).length<=(l.flatMap rawC).length:=by
  conv=>rhs;rw[<- List.take_append_drop i l,List.flatMap_append,List.length_append]
  omega
 have h2:=flatMap_len2 (l:=l) (f:=rawC) (λa _=>rawC_len a)
 omega
theorem rawt_x:∀{l:List Ex}{i:Nat}{x:Ex},l[i]?=some x->((l.take i).flatMap rawC).length+x.bk<=bulkLL (xL l)
 |[],i,x,h=>by simp at h
 |a::l,0,x,h=>by
  simp at h
  subst h
  simp only[xL,List.map_cons,bulkLL,List.take_zero,List.flatMap_nil,List.length_nil]
  unfold Ex.bk
  omega
 |a::l,i+1,x,h=>by
  have:=rawt_x (l:=l) (i:=i) (x:=x) (by simpa using h)
  have h1:=rawC_len a
  rw[List.take_succ_cons,List.flatMap_cons,List.length_append]
  simp only[xL,List.map_cons,bulkLL]
  unfold Ex.bk at *
  unfold xL at this
  omega
theorem C.visit:∀e:Ex,e.bk<=1048576->∀zs:List Int,zs.length+e.bk<=2097152->CallSpec Tryz.prog N.expr_visit [e.av,.clo N.expr_Columns_c1 [0]] [.cells [.arr 1 (eIs zs).length],.arr (eIs zs) 1 0 (eIs zs).isEmpty] (λr os=>r=.tup []/\os=[.cells [.arr 1 (eIs (zs++rawC e)).length],.arr (eIs (zs++rawC e)) 1 0 (eIs (zs++rawC e)).isEmpty]):=by
 refine Ex.ind λop n v nm nl args ih hb zs hz=>?_
 obtain⟨b1,b2,b3,b4⟩:=Ex.bk_bounds hb
 have hbm:=Ex.bk_mk op n v nm nl args
 have hC1:∀rest,CallSpec Tryz.prog N.expr_Columns_c1 [eX op n v nm (ng nl (xL args)),.ptr 0 0] ([.cells [.arr 1 (eIs zs).length],.arr (eIs zs) 1 0 (eIs zs).isEmpty]++rest) (λr os=>r=.tup []/\os=[.cells [.arr 1 (eIs (zs++own op n)).length],.arr (eIs (zs++own op n)) 1 0 (eIs (zs++own op n)).isEmpty]++rest):=λrest=>
  pre2 (ds:=xds op n v nm (ng nl (xL args))) (by simp[AV.bnd2,AV.bnd1]) (C.Columns_c1 op n v nm _ zs (by omega)) rest
 rw[rawC_mk,<- own,<- List.append_assoc,Ex.av_mk]
 obtain⟨z1,hz1⟩:∃z,z=zs++own op n:=⟨_,rfl⟩
 have hz1l:z1.length<=zs.length+1:=by
  rw[hz1,List.length_append]
  unfold own
  split<;>simp
 rw[<- hz1] at hC1 ⊢
 have h1:=xL_len args
 have hm:=xL_mem args
 obtain⟨da,hda⟩:∃d,d=ng nl (xL args):=⟨_,rfl⟩
 have hsd:SlD da (xL args):=by rw[hda];exact sld_ng
 rw[<- hda] at hC1 ⊢
 have r0:v.k=v.k:=rfl
 have r1:v.s=v.s:=rfl
 have r2:nm=nm:=rfl
 refine F.expr_visit.goX mixed rfl ?_
 obtain⟨e0,he0⟩:∃b,b=(eIs zs).isEmpty:=⟨_,rfl⟩
 rw[<- he0] at hC1 ⊢
 repeat' first|refine st ?_|((with_reducible first|apply k_nc|apply k_cs);(·exact hC1 _);(try rintro _ _ ⟨rfl,rfl⟩))|((with_reducible apply k_pr);(·exact hC1 _))|((with_reducible apply k_cal);refine st ?_;(with_reducible apply k_chk);(·exact rfl);refine st ?_;(with_reducible apply k_cs);(·exact hC1 _);(try rintro _ _ ⟨rfl,rfl⟩))|(with_reducible first|apply k_d|apply k_b)<;>intro _
 refine x_loop1 mixed Lt.expr_visit_l0 Lk.expr_visit_l0 (λ(i:Nat)=>[.d (eI i)]) (λi=>[.cells [.arr 1 (eIs (z1++(args.take i).flatMap rawC)).length],.arr (eIs (z1++(args.take i).flatMap rawC)) 1 0 (eIs (z1++(args.take i).flatMap rawC)).isEmpty]++[.cells [.d (eI op),.d (eI n),.d (eI v.k),.d (eI v.n),.d (.str v.s),.d (.str nm),.d da]]) (λi=>i<=args.length) (λi=>args.length-i) 0 rfl rfl rfl (by simp) (λ_ _=>⟨rfl,rfl⟩) rfl (Nat.zero_le _) ?_
 repeat' first|refine st ?_|(with_reducible first|apply k_d|apply k_b)<;>intro _
 intro i h4
 have hrl:=rawt_len args i
 cases hx:args[i]? with
 |some x=>
  have hlt:=(List.getElem?_eq_some_iff.1 hx).1
  have hgx:=xL_get hx
  have hxm:=List.mem_of_getElem? hx
  have hxb:bulkL x.ds<=bulkLL (xL args):=bulkLL_mem (List.mem_map.2 ⟨x,hxm,rfl⟩)
  have hxk:=Ex.bk_arg (op:=op) (n:=n) (v:=v) (name:=nm) (nl:=nl) hxm
  have hs:=rawt_succ hx
  obtain⟨t,ht⟩:∃t,t=z1++(args.take i).flatMap rawC:=⟨_,rfl⟩
  have hi:=ih x hxm (b4 x hxm) t (by
   have h0:=rawt_x hx
   rw[ht,List.length_append]
   omega)
  have hn:z1++(args.take (i+1)).flatMap rawC=t++rawC x:=by rw[hs,ht,List.append_assoc]
  rw[<- hn] at hi
  rw[<- ht]
  have hL:=λrest=>pre2 (ds:=x.ds) (by simp[AV.bnd2,AV.bnd1]) hi rest
  obtain⟨e1,he1⟩:∃b,b=(eIs t).isEmpty:=⟨_,rfl⟩
  rw[<- he1] at hL ⊢
  obtain⟨o1,n1,v1,m1,l1,a1⟩:=x
  rw[Ex.ds_mk] at hgx hL
  repeat' first|refine st ?_|((with_reducible first|apply k_nc|apply k_cs);(·exact hL _);(try rintro _ _ ⟨rfl,rfl⟩))|((with_reducible apply k_pr);(·exact hL _))|((with_reducible apply k_cal);refine st ?_;(with_reducible apply k_chk);(·exact rfl);refine st ?_;(with_reducible apply k_cs);(·exact hL _);(try rintro _ _ ⟨rfl,rfl⟩))|(with_reducible first|apply k_d|apply k_b)<;>intro _
  exact⟨i+1,rfl,rfl,rfl,by omega,by omega⟩
 |none=>
  have hge:=List.getElem?_eq_none_iff.1 hx
  rw[List.take_of_length_le hge]
  repeat' first|refine st ?_|(with_reducible first|apply k_d|apply k_b)<;>intro _
  all_goals exact⟨rfl,rfl⟩
end Go.Proofs
end
section
namespace Go.Proofs
open Go.Bi
def Asc(l:List Int):Prop:=l.Pairwise (·<·)
theorem asc_ext:∀{l m:List Int},Asc l->Asc m->(∀x,x∈l↔x∈m)->l=m
 |[],[],_,_,_=>rfl
 |[],b::m,_,_,h=>by have:=(h b).2 (by simp);simp at this
 |a::l,[],_,_,h=>by have:=(h a).1 (by simp);simp at this
 |a::l,b::m,h1,h2,h=>by
  have g1:=List.pairwise_cons.1 h1
  have g2:=List.pairwise_cons.1 h2
  have hab:a=b:=by
   have ha:=(h a).1 (by simp)
   have hb:=(h b).2 (by simp)
   rcases List.mem_cons.1 ha with e|ha
   ·exact e
   ·rcases List.mem_cons.1 hb with e|hb
    ·exact e.symm
    ·have q1:=g1.1 b hb
     have q2:=g2.1 a ha
     omega
  subst hab
  congr 1
  refine asc_ext g1.2 g2.2 λx=>⟨λhx=>?_,λhx=>?_⟩
  ·have q:=g1.1 x hx
   rcases List.mem_cons.1 ((h x).1 (List.mem_cons_of_mem _ hx)) with e|hx'
   ·omega
   ·exact hx'
  ·have q:=g2.1 x hx
   rcases List.mem_cons.1 ((h x).2 (List.mem_cons_of_mem _ hx)) with e|hx'
   ·omega
   ·exact hx'
theorem compact_asc(d:Array Int)(hs:∀i j:Nat,i<=j->j<d.size->d[i]!<=d[j]!):∀m,m<=d.size->Asc (Lib.compactUpTo d m)/\∀x,x∈Lib.compactUpTo d m↔∃j,j<m/\d[j]! = x
 |0,_=>by
  refine⟨by simp[Lib.compactUpTo,Asc],λx=>?_⟩
  simp[Lib.compactUpTo]
 |m+1,hm=>by
  obtain⟨h1,h2⟩:=compact_asc d hs m (by omega)
  rw[Lib.compactUpTo_succ]
  cases hk:Lib.keeps d m with
  |true=>
   rw[if_pos rfl]
   have hk':m=0\/d[m]!≠d[m-1]!:=of_decide_eq_true hk
   constructor
   ·refine List.pairwise_append.2 ⟨h1,by simp,λx hx y hy=>?_⟩
    simp at hy
    subst hy
    obtain⟨j,hj,rfl⟩:=(h2 x).1 hx
    have q1:=hs j (m-1) (by omega) (by omega)
    have q2:=hs (m-1) m (by omega) (by omega)
    rcases hk' with h0|hne
    ·omega
    ·omega
   ·intro x
    rw[List.mem_append,h2]
    constructor
    ·rintro(⟨j,hj,e⟩|hx)
     ·exact⟨j,by omega,e⟩
     ·simp at hx;exact⟨m,by omega,hx.symm⟩
    ·rintro⟨j,hj,e⟩
     rcases Nat.lt_succ_iff_lt_or_eq.1 hj with h|rfl
     ·exact .inl ⟨j,h,e⟩
     ·exact .inr (by simp[e])
  |false=>
   rw[if_neg (by decide),List.append_nil]
   have hk':¬(m=0\/d[m]!≠d[m-1]!):=of_decide_eq_false hk
   refine⟨h1,λx=>?_⟩
   rw[h2]
   constructor
   ·rintro⟨j,hj,e⟩;exact⟨j,by omega,e⟩
   ·rintro⟨j,hj,e⟩
    rcases Nat.lt_succ_iff_lt_or_eq.1 hj with h|rfl
    ·exact⟨j,h,e⟩
    ·have q1:¬j=0:=λe=>hk' (.inl e)
     have q2:d[j]! = d[j-1]!:=Classical.byContradiction λe=>hk' (.inr e)
     exact⟨j-1,by omega,by rw[<- q2];exact e⟩
theorem compact_srt(zs:List Int):Asc (Lib.compact (srt zs))/\∀x,x∈Lib.compact (srt zs)↔x∈zs:=by
 have hp:(srt zs).Pairwise λa b=>a<=b:=by
  have:=List.pairwise_mergeSort (le:=λx y:Int=>decide (x<=y)) (by intro a b c h1 h2;simp at *;omega) (by intro a b;simp;omega) zs
  refine this.imp λh=>?_
  simpa using h
 have hsz:(srt zs).toArray.size=(srt zs).length:=by simp
 have hget:∀i,i<(srt zs).length->(srt zs).toArray[i]! = (srt zs).getD i 0:=by
  intro i hi
  rw[getElem!_pos _ i (by simpa using hi),List.getD_eq_getElem?_getD,List.getElem?_eq_getElem hi]
  simp
 have hs:∀i j:Nat,i<=j->j<(srt zs).toArray.size->(srt zs).toArray[i]!<=(srt zs).toArray[j]!:=by
  intro i j hij hj
  rw[hsz] at hj
  rw[hget i (by omega),hget j hj]
  rcases Nat.lt_or_ge i j with h|h
  ·have:=List.pairwise_iff_getElem.1 hp i j (by omega) hj h
   rw[List.getD_eq_getElem?_getD,List.getD_eq_getElem?_getD,List.getElem?_eq_getElem (show i<_ by omega),List.getElem?_eq_getElem hj]
   exact this
  ·obtain rfl:i=j:=by omega
   exact Int.le_refl _
 obtain⟨h1,h2⟩:=compact_asc (srt zs).toArray hs (srt zs).length (by simp)
 refine⟨h1,λx=>?_⟩
 unfold Lib.compact
 rw[h2]
 have hmem:x∈srt zs↔x∈zs:=by unfold srt;exact List.mem_mergeSort
 rw[<- hmem,List.mem_iff_getElem?]
 constructor
 ·rintro⟨j,hj,e⟩
  refine⟨j,?_⟩
  rw[hget j hj,List.getD_eq_getElem?_getD,List.getElem?_eq_getElem hj] at e
  rw[List.getElem?_eq_getElem hj]
  exact congrArg some e
 ·rintro⟨j,e⟩
  have hj:=(List.getElem?_eq_some_iff.1 e).1
  refine⟨j,hj,?_⟩
  rw[hget j hj,List.getD_eq_getElem?_getD,e];rfl
def cols(e:Ex):List Int:=Lib.compact (srt (rawC e))
def colsD(e:Ex):D:=if (eIs (rawC e)).isEmpty then .nil else .sl (eIs (cols e))
theorem cols_asc(e:Ex):Asc (cols e):=(compact_srt (rawC e)).1
theorem cols_mem(e:Ex)(x:Int):x∈cols e↔x∈rawC e:=(compact_srt (rawC e)).2 x
theorem cols_len(e:Ex):(cols e).length<=e.bk:=by
 have h1:=compact_len (srt (rawC e))
 have h2:=srt_len (rawC e)
 have h3:=rawC_len e
 unfold cols
 omega
theorem colsD_sl(e:Ex):SlD (colsD e) (eIs (cols e)):=by
 unfold colsD
 split
 ·rename_i h
  have:rawC e=[]:=by
   cases hx:rawC e with
   |nil=>rfl
   |cons a l=>rw[hx] at h;cases h
  refine .inl ⟨rfl,?_⟩
  have hc:cols e=[]:=by
   rw[List.eq_nil_iff_forall_not_mem]
   intro x hx
   rw[cols_mem,this] at hx
   cases hx
  rw[hc];rfl
 ·exact .inr rfl
theorem C.expr_Columns(e:Ex)(he:e.bk<=1048576):Pure Tryz.prog N.expr_Columns [e.av] (.d (colsD e)):=by
 have hv:=C.visit e he [] (by simp;omega)
 rw[List.nil_append] at hv
 have hrl:=rawC_len e
 unfold colsD cols
 obtain⟨zs,hzs⟩:∃z,z=rawC e:=⟨_,rfl⟩
 rw[<- hzs] at hv hrl ⊢
 have hb:∀ds:List D,CallSpec Tryz.prog N.expr_visit [.agg (ds.map .d),.clo N.expr_Columns_c1 [0]] [.cells [.arr 1 0],.arr [] 1 0 true] (λr os=>r=.tup []/\os=[.cells [.arr 1 (eIs zs).length],.arr (eIs zs) 1 0 (eIs zs).isEmpty])->∀E:List AV,CallSpec Tryz.prog N.expr_visit [.agg (ds.map .d),.clo N.expr_Columns_c1 [1]] [.cells E,.cells [.d .nil]] (λr os=>r=.tup []/\os=[.cells E,.cells [.arr 2 (eIs zs).length],.arr (eIs zs) 1 0 (eIs zs).isEmpty]):=by
  intro ds hE E
  refine CallSpec.nilc 1 0 1 rfl (cs:=[.d .nil]) rfl rfl ?_
  have:=CallSpec.frame (K:=λr os=>r=.tup []/\os=[.cells E,.cells [.arr 2 (eIs zs).length],.arr (eIs zs) 1 0 (eIs zs).isEmpty]) hE [1,2] [.cells E,.cells [.arr 2 0],.arr [] 1 0 true] rfl (by decide) (λi o h=>by
   match i,h with
   |0,h=>cases h;rfl
   |1,h=>cases h;rfl
   |i+2,h=>simp at h) (λa ha=>by
    rcases mem2 ha with rfl|rfl
    ·exact bnd_ds _ _
    ·simp[AV.bnd2,AV.bnd1]) (λo ho=>by
    rcases mem2 ho with rfl|rfl<;>simp[AO.bnd,AV.bnd1]) (by rintro r bs' ⟨rfl,rfl⟩;exact⟨rfl,rfl⟩)
  rw[List.map_cons,List.map_cons,List.map_nil,mG_ds] at this
  exact this
 have hB:=hb e.ds hv
 obtain⟨op,n,v,nm,nl,args⟩:=e
 rw[Ex.ds_mk] at hB
 rw[Ex.av_mk]
 obtain⟨b,hbb⟩:∃b,b=(eIs zs).isEmpty:=⟨_,rfl⟩
 rw[<- hbb] at hB ⊢
 have s1:∀(os:List AO) (id:Nat),os[id]?=some (.arr (eIs zs) 1 0 b)->CallSpec Tryz.prog N.slices_Sort__int_int [.arr id (eIs zs).length] os (λr os'=>r=.tup []/\os'=os.set id (.arr (eIs (srt zs)) 1 0 b)):=λos id ho=>C.slices_Sort zs b (by omega) ho
 have hsl:=srt_len zs
 have hle:(eIs zs).length=(eIs (srt zs)).length:=by rw[eIs_len,eIs_len,hsl]
 have s2:∀(os:List AO) (id:Nat),os[id]?=some (.arr (eIs (srt zs)) 1 0 b)->CallSpec Tryz.prog N.slices_Compact__int_int [.arr id (eIs zs).length] os (λr os'=>r=.d (if b then .nil else .sl (eIs (Lib.compact (srt zs))))/\os'=os.set id (.arr (eIs (cmp0 (srt zs))) 1 (if b then 0 else (Lib.compact (srt zs)).length) b)):=λos id ho=>by rw[hle];exact C.slices_Compact (srt zs) b (by omega) ho
 refine F.expr_Columns.go mixed rfl ?_
 cases b with
 |true=>
  repeat' first|(with_reducible apply k_cal)|refine st ?_|((with_reducible first|apply k_nc|apply k_cs);(·first|exact hB _|exact s1 _ _ rfl|exact s2 _ _ rfl);(try rintro _ _ ⟨rfl,rfl⟩))|((with_reducible apply k_pr);(·first|exact hB _|exact s1 _ _ rfl|exact s2 _ _ rfl))|((with_reducible apply k_cal);refine st ?_;(with_reducible apply k_chk);(·exact rfl);refine st ?_;(with_reducible apply k_cs);(·first|exact hB _|exact s1 _ _ rfl|exact s2 _ _ rfl);(try rintro _ _ ⟨rfl,rfl⟩))|(with_reducible first|apply k_d|apply k_b)<;>intro _
  all_goals rfl
 |false=>
  repeat' first|(with_reducible apply k_cal)|refine st ?_|((with_reducible first|apply k_nc|apply k_cs);(·first|exact hB _|exact s1 _ _ rfl|exact s2 _ _ rfl);(try rintro _ _ ⟨rfl,rfl⟩))|((with_reducible apply k_pr);(·first|exact hB _|exact s1 _ _ rfl|exact s2 _ _ rfl))|((with_reducible apply k_cal);refine st ?_;(with_reducible apply k_chk);(·exact rfl);refine st ?_;(with_reducible apply k_cs);(·first|exact hB _|exact s1 _ _ rfl|exact s2 _ _ rfl);(try rintro _ _ ⟨rfl,rfl⟩))|(with_reducible first|apply k_d|apply k_b)<;>intro _
  all_goals rfl
end Go.Proofs
end
section
namespace Go.Proofs
open Go.Bi
def cntK(kvs:List (D×AV))(c:Int):Int:=match mget .i (eI c) kvs with
 |some (.d (.int _ n))=>n
 |_=>0
def addC(kvs:List (D×AV))(c:Int):List (D×AV):=mput .i (eI c) (.d (eI (cntK kvs c+1))) kvs
structure Cnt(l:List Int)(kvs:List (D×AV)):Prop where
 ks:∀p∈kvs,∃t n,p=(eI t,.d (eI n))
 ct:∀c,cntK kvs c=(l.count c:Nat)
theorem Cnt.nil:Cnt [] []:=⟨λp hp=>by simp at hp,λc=>by simp[cntK,mget]⟩
theorem Cnt.str{l:List Int}{kvs:List (D×AV)}(h:Cnt l kvs):∀p∈kvs,∃t,p.1=eI t:=λp hp=>by
 obtain⟨t,n,rfl⟩:=h.ks p hp;exact⟨t,rfl⟩
theorem Cnt.lk{l:List Int}{kvs:List (D×AV)}(h:Cnt l kvs)(c:Int):lkR false (zv false [.int .i64 0]) (mget .i (eI c) kvs)=.d (eI (l.count c:Nat)):=by
 rw[<- h.ct c]
 unfold cntK
 have key:∀{kvs:List (D×AV)},(∀p∈kvs,∃t n,p=(eI t,.d (eI n)))->mget .i (eI c) kvs=none\/∃n,mget .i (eI c) kvs=some (.d (eI n)):=by
  intro kvs
  induction kvs with
  |nil=>intro _;exact .inl rfl
  |cons q kvs ih=>
   intro hk
   unfold mget
   split
   ·obtain⟨t,n,rfl⟩:=hk q (by simp)
    exact .inr ⟨n,rfl⟩
   ·exact ih λp hp=>hk p (by simp[hp])
 rcases key h.ks with e|⟨n,e⟩<;>rw[e]<;>rfl
theorem mget_other{s t:Int}(hst:s≠t){v:AV}:∀{kvs:List (D×AV)},(∀p∈kvs,∃t,p.1=eI t)->mget .i (eI s) (mput .i (eI t) v kvs)=mget .i (eI s) kvs
 |[],_=>by simp[mput,mget,eqD_sI,hst]
 |q::kvs,h=>by
  obtain⟨u,hu⟩:=h q (by simp)
  unfold mput
  rw[hu,eqD_sI]
  by_cases e:t=u
  ·subst e
   rw[if_pos (by simp),mget,eqD_sI,if_neg (by simp[hst]),mget,hu,eqD_sI,if_neg (by simp[hst])]
  ·rw[if_neg (by simp[e]),mget,mget]
   rw[mget_other hst (λp hp=>h p (by simp[hp]))]
theorem mput_ks{s n:Int}:∀{kvs:List (D×AV)},(∀p∈kvs,∃t n,p=(eI t,.d (eI n)))->∀p∈mput .i (eI s) (.d (eI n)) kvs,∃t n,p=(eI t,.d (eI n))
 |[],h,p,hp=>by simp[mput] at hp;subst hp;exact⟨s,n,rfl⟩
 |q::kvs,h,p,hp=>by
  unfold mput at hp
  split at hp
  ·rcases List.mem_cons.1 hp with rfl|hp
   ·exact⟨s,n,rfl⟩
   ·exact h p (by simp[hp])
  ·rcases List.mem_cons.1 hp with rfl|hp
   ·exact h _ (by simp)
   ·exact mput_ks (λp hp=>h p (by simp[hp])) p hp
theorem Cnt.add{l:List Int}{kvs:List (D×AV)}(h:Cnt l kvs)(c:Int):Cnt (l++[c]) (addC kvs c):=by
 refine⟨mput_ks h.ks,λd=>?_⟩
 unfold addC
 rw[List.count_append]
 by_cases e:d=c
 ·subst e
  unfold cntK
  rw[mget_mputI]
  show cntK kvs d+1=_
  rw[h.ct]
  simp
 ·have:cntK (mput .i (eI c) (.d (eI (cntK kvs c+1))) kvs) d=cntK kvs d:=by
   unfold cntK
   rw[mget_other e h.str]
  rw[this,h.ct,List.count_singleton]
  simp[Ne.symm e]
theorem Cnt.adds{l:List Int}{kvs:List (D×AV)}(h:Cnt l kvs):∀cs:List Int,Cnt (l++cs) (cs.foldl addC kvs)
 |[]=>by simpa using h
 |c::cs=>by
  have:=Cnt.adds (h.add c) cs
  simpa using this
theorem Cnt.bnd{l:List Int}{kvs:List (D×AV)}(h:Cnt l kvs)(m:Nat):(AO.map kvs).bndB m=true:=by
 refine List.all_eq_true.2 λp hp=>?_
 obtain⟨t,n,rfl⟩:=h.ks p hp
 rfl
theorem Cnt.mO{l:List Int}{kvs:List (D×AV)}(h:Cnt l kvs)(f:Nat->Nat):mO f (.map kvs)=.map kvs:=by
 show AO.map _=_
 congr 1
 conv=>rhs;rw[<- List.map_id kvs]
 refine List.map_congr_left λp hp=>?_
 obtain⟨t,n,rfl⟩:=h.ks p hp
 rfl
theorem C.used_c1(l:List Int)(kvs:List (D×AV))(hk:Cnt l kvs)(cs:List Int)(hl:l.length+cs.length<=1152921504606846976)(d:D)(hd:SlD d (eIs cs)) :
  CallSpec Tryz.prog N.evolve_used_c1 [.d d,.ptr 1 0] [.map kvs,.cells [.mp 0]] (λr os=>r=.tup []/\os=[.map (cs.foldl addC kvs),.cells [.mp 0]]):=by
 refine F.evolve_used_c1.goX mixed rfl ?_
 have h1:=eIs_len cs
 have hm:=eIs_mem cs
 repeat' first|refine st ?_|(with_reducible first|apply k_d|apply k_b)<;>intro _
 refine x_loop1 mixed Lt.evolve_used_c1_l0 Lk.evolve_used_c1_l0 (λ(k:Nat)=>[.d (eI k)]) (λk=>[.map ((cs.take k).foldl addC kvs),.cells [.mp 0]]) (λk=>k<=cs.length) (λk=>cs.length-k) 0 rfl rfl rfl rfl (λk _=>⟨rfl,(by rw[List.all_cons,Cnt.bnd (hk.adds _)];rfl)⟩) rfl (by omega) ?_
 repeat' first|refine st ?_|(with_reducible first|apply k_d|apply k_b)<;>intro _
 intro k h6
 cases hy:cs[k]? with
 |some c=>
  have hlt2:=(List.getElem?_eq_some_iff.1 hy).1
  have hg2:=eIs_get hy
  have hts:cs.take (k+1)=cs.take k++[c]:=by rw[List.take_add_one,hy];rfl
  have hK:=hk.adds (cs.take k)
  have hS:=hK.lk c
  have hC:=hK.ct c
  have hcl:((l++cs.take k).count c)<=l.length+k:=by
   have:=List.count_le_length (a:=c) (l:=l++cs.take k)
   rw[List.length_append,List.length_take] at this
   omega
  have e2:mput .i (eI c) (.d (eI (((l++cs.take k).count c:Nat)+1))) ((cs.take k).foldl addC kvs)=(cs.take (k+1)).foldl addC kvs:=by
   rw[hts,List.foldl_append,<- hC];rfl
  obtain⟨kv,hkv⟩:∃kv,kv=(cs.take k).foldl addC kvs:=⟨_,rfl⟩
  have m1:mok .i (eI c) kv:=by rw[hkv];exact mok_sI _ _ hK.str
  rw[<- hkv] at hS e2 ⊢
  obtain⟨kv2,hkv2⟩:∃kv,kv=(cs.take (k+1)).foldl addC kvs:=⟨_,rfl⟩
  rw[<- hkv2] at e2
  obtain⟨q,hq⟩:∃q:Nat,q=(l++cs.take k).count c:=⟨_,rfl⟩
  rw[<- hq] at hS e2 hcl
  repeat' first|refine st ?_|(with_reducible first|apply k_d|apply k_b)<;>intro _
  rw[hkv2]
  exact⟨k+1,rfl,rfl,rfl,by omega,by omega⟩
 |none=>
  have hge:=List.getElem?_eq_none_iff.1 hy
  rw[List.take_of_length_le hge]
  have hB:=(hk.adds cs).bnd 2
  have hB2:([AO.map (cs.foldl addC kvs),AO.cells [AV.mp 0]].all λo=>o.bndB 2)=true:=by rw[List.all_cons,hB];rfl
  repeat' first|refine st ?_|(with_reducible first|apply k_d|apply k_b)<;>intro _
  exact⟨rfl,rfl⟩
end Go.Proofs
end
section
namespace Go.Proofs
open Go.Bi
theorem C.used_lift(T:AO)(rest:List AO)(l:List Int)(kvs:List (D×AV))(hk:Cnt l kvs)(cs:List Int)(hl:l.length+cs.length<=1152921504606846976)(d:D)(hd:SlD d (eIs cs)) :
  CallSpec Tryz.prog N.evolve_used_c1 [.d d,.ptr 2 0] (T::.map kvs::.cells [.mp 1]::rest) (λr os=>r=.tup []/\os=T::.map (cs.foldl addC kvs)::.cells [.mp 1]::rest):=by
 have hK:=hk.adds cs
 have:=CallSpec.frame (K:=λr os=>r=.tup []/\os=T::.map (cs.foldl addC kvs)::.cells [.mp 1]::rest) (C.used_c1 l kvs hk cs hl d hd) [1,2] (T::.map kvs::.cells [.mp 1]::rest) rfl (by decide) (λi o h=>by
   match i,h with
   |0,h=>cases h;rw[hk.mO];rfl
   |1,h=>cases h;rfl
   |i+2,h=>simp at h) (λa ha=>by
    simp only[List.mem_cons,List.not_mem_nil,or_false] at ha
    rcases ha with rfl|rfl<;>simp[AV.bnd2,AV.bnd1]) (λo ho=>by
    simp only[List.mem_cons,List.not_mem_nil,or_false] at ho
    rcases ho with rfl|rfl
    ·exact bndo_of (hk.bnd 2)
    ·simp[AO.bnd,AV.bnd1]) (by
   rintro r bs' ⟨rfl,rfl⟩
   refine⟨rfl,?_⟩
   simp only[putA,hK.mO,List.map_nil,List.append_nil]
   rfl)
 exact this
def usedF(fs:List Fo):List Int:=fs.flatMap Fo.cs
def usedX(xs:List Ex):List Int:=xs.flatMap cols
def usedL(t:Tb):List Int:=t.ks++usedF t.fs++usedX t.xs
theorem flat_len{α:Type}(g:α->List Int)(m:Nat):∀(l:List α),(∀x∈l,(g x).length<=m)->(l.flatMap g).length<=l.length*m
 |[],_=>by simp
 |x::l,h=>by
  have:=flat_len g m l (λy hy=>h y (by simp[hy]))
  have h1:=h x (by simp)
  rw[List.flatMap_cons,List.length_append,List.length_cons,Nat.succ_mul]
  omega
theorem flat_take{α:Type}(g:α->List Int){l:List α}{i:Nat}{x:α}(h:l[i]?=some x):(l.take (i+1)).flatMap g=(l.take i).flatMap g++g x:=by
 rw[List.take_add_one,h,List.flatMap_append]
 simp
theorem flat_take_len{α:Type}(g:α->List Int)(l:List α)(i:Nat)(hl:l.length<=1048576)(h:∀x∈l,(g x).length<=1048576):((l.take i).flatMap g).length<=1099511627776:=by
 have h1:=flat_len g 1048576 (l.take i) (λx hx=>h x (List.mem_of_mem_take hx))
 have h2:(l.take i).length<=1048576:=by rw[List.length_take];omega
 have h3:(l.take i).length*1048576<=1048576*1048576:=Nat.mul_le_mul_right _ h2
 omega
def usedM(t:Tb):List (D×AV):=(usedL t).foldl addC []
theorem usedM_cnt(t:Tb):Cnt (usedL t) (usedM t):=by
 have:=Cnt.nil.adds (usedL t)
 rw[List.nil_append] at this
 exact this
theorem C.evolve_used(t:Tb)(dc dk df dx:D)(h:Tok t dc dk df dx):CallSpec Tryz.prog N.evolve_used [eT t.nm dc dk df dx] [] (λr os=>r=.mp 1/\os=[.cells [.d (.str t.nm),.d dc,.d dk,.d df,.d dx],.map (usedM t),.cells [.mp 1]]):=by
 have hM:usedM t=(usedX t.xs).foldl addC ((usedF t.fs).foldl addC (t.ks.foldl addC [])):=by unfold usedM usedL;rw[List.foldl_append,List.foldl_append]
 rw[hM]
 obtain⟨n,l,ks,fs,xs⟩:=t
 obtain⟨hn,hl,hls,hk,hfl,hfc,hxs,hxb,hc,hdk,hdf,hdx⟩:=h
 dsimp only at *
 have k0:=Cnt.nil.adds ks
 rw[List.nil_append] at k0
 have kF:∀i,Cnt (ks++(fs.take i).flatMap Fo.cs) (((fs.take i).flatMap Fo.cs).foldl addC (ks.foldl addC [])):=λi=>k0.adds _
 have kX:∀i,Cnt (ks++usedF fs++(xs.take i).flatMap cols) (((xs.take i).flatMap cols).foldl addC ((usedF fs).foldl addC (ks.foldl addC []))):=λi=>(k0.adds _).adds _
 have lF:∀i,((fs.take i).flatMap Fo.cs).length<=1099511627776:=λi=>flat_take_len _ fs i hfl (λf hf=>(hfc f hf).1)
 have lF0:(usedF fs).length<=1099511627776:=by have:=lF fs.length;rw[List.take_length] at this;exact this
 have lX:∀i,((xs.take i).flatMap cols).length<=1099511627776:=λi=>flat_take_len _ xs i hxs (λe he=>Nat.le_trans (cols_len e) (hxb e he))
 have hU:=λT rest=>C.used_lift T rest [] [] .nil ks (by simp;omega) dk hdk
 have f1:=eFs_len fs
 have f2:=eFs_mem fs
 have x1:=xL_len xs
 have x2:=xL_mem xs
 obtain⟨K0,hK0⟩:∃K,K=ks.foldl addC []:=⟨_,rfl⟩
 rw[<- hK0] at kF kX hU k0 ⊢
 refine F.evolve_used.goO mixed rfl ?_
 repeat' first|refine st ?_|((with_reducible first|apply k_nc|apply k_cs);(·exact hU _ _);(try rintro _ _ ⟨rfl,rfl⟩))|((with_reducible apply k_pr);(·exact hU _ _))|((with_reducible apply k_cal);refine st ?_;(with_reducible apply k_chk);(·exact rfl);refine st ?_;(with_reducible apply k_cs);(·exact hU _ _);(try rintro _ _ ⟨rfl,rfl⟩))|(with_reducible first|apply k_d|apply k_b)<;>intro _
 refine x_loop1 mixed Lt.evolve_used_l0 Lk.evolve_used_l0 (λ(i:Nat)=>[.d (eI i)]) (λi=>[.cells [.d (.str n),.d dc,.d dk,.d df,.d dx],.map (((fs.take i).flatMap Fo.cs).foldl addC K0),.cells [.mp 1]]) (λi=>i<=fs.length) (λi=>fs.length-i) 0 rfl rfl rfl rfl (λi _=>⟨rfl,(by rw[List.all_cons,List.all_cons,Cnt.bnd (kF i)];rfl)⟩) rfl (by omega) ?_
 repeat' first|refine st ?_|(with_reducible first|apply k_d|apply k_b)<;>intro _
 intro i h4
 cases hx:fs[i]? with
 |some f=>
  have hlt:=(List.getElem?_eq_some_iff.1 hx).1
  have hg:=eFs_get hx
  obtain⟨hf,hft⟩:=hfc f (List.mem_of_getElem? hx)
  have hsd:=f.sld
  have hFt:=flat_take Fo.cs hx
  have hli:=lF i
  have hU:=λT rest=>C.used_lift T rest _ _ (kF i) f.cs (by rw[List.length_append];omega) f.d hsd
  rw[<- List.foldl_append,<- hFt] at hU
  obtain⟨nl,cs,tb⟩:=f
  obtain⟨fd,hfd⟩:∃fd,fd=Fo.d ⟨nl,cs,tb⟩:=⟨_,rfl⟩
  have hg:(eFs fs)[i]?=some [Fo.d ⟨nl,cs,tb⟩,.str tb]:=hg
  rw[<- hfd] at hg hU
  obtain⟨K1,hK1⟩:∃K,K=((fs.take i).flatMap Fo.cs).foldl addC K0:=⟨_,rfl⟩
  obtain⟨K2,hK2⟩:∃K,K=((fs.take (i+1)).flatMap Fo.cs).foldl addC K0:=⟨_,rfl⟩
  rw[<- hK1,<- hK2] at hU
  rw[<- hK1]
  repeat' first|refine st ?_|((with_reducible first|apply k_nc|apply k_cs);(·exact hU _ _);(try rintro _ _ ⟨rfl,rfl⟩))|((with_reducible apply k_pr);(·exact hU _ _))|((with_reducible apply k_cal);refine st ?_;(with_reducible apply k_chk);(·exact rfl);refine st ?_;(with_reducible apply k_cs);(·exact hU _ _);(try rintro _ _ ⟨rfl,rfl⟩))|(with_reducible first|apply k_d|apply k_b)<;>intro _
  rw[hK2]
  exact⟨i+1,rfl,rfl,rfl,by omega,by omega⟩
 |none=>
  have hge:=List.getElem?_eq_none_iff.1 hx
  rw[List.take_of_length_le hge]
  rw[show fs.flatMap Fo.cs=usedF fs from rfl]
  obtain⟨K1,hK1⟩:∃K,K=(usedF fs).foldl addC K0:=⟨_,rfl⟩
  rw[<- hK1] at kX ⊢
  repeat' first|refine st ?_|(with_reducible first|apply k_d|apply k_b)<;>intro _
  refine x_loop1 mixed Lt.evolve_used_l1 Lk.evolve_used_l1 (λ(i:Nat)=>[.d (eI i)]) (λi=>[.cells [.d (.str n),.d dc,.d dk,.d df,.d dx],.map (((xs.take i).flatMap cols).foldl addC K1),.cells [.mp 1]]) (λi=>i<=xs.length) (λi=>xs.length-i) 0 rfl rfl rfl rfl (λi _=>⟨rfl,(by rw[List.all_cons,List.all_cons,Cnt.bnd (kX i)];rfl)⟩) rfl (by omega) ?_
  repeat' first|refine st ?_|(with_reducible first|apply k_d|apply k_b)<;>intro _
  intro j h5
  cases hy:xs[j]? with
  |some e=>
   have hlt:=(List.getElem?_eq_some_iff.1 hy).1
   have hb:=hxb e (List.mem_of_getElem? hy)
   have hCo:=C.expr_Columns e hb
   have hsl:=colsD_sl e
   have hFt:=flat_take cols hy
   have hli:=lX j
   have hcl:=cols_len e
   have hU:=λT rest=>C.used_lift T rest _ _ (kX j) (cols e) (by rw[List.length_append,List.length_append];omega) (colsD e) hsl
   rw[<- List.foldl_append,<- hFt] at hU
   obtain⟨dc2,hdc2⟩:∃d,d=colsD e:=⟨_,rfl⟩
   rw[<- hdc2] at hCo hU
   obtain⟨K2,hK2⟩:∃K,K=((xs.take j).flatMap cols).foldl addC K1:=⟨_,rfl⟩
   obtain⟨K3,hK3⟩:∃K,K=((xs.take (j+1)).flatMap cols).foldl addC K1:=⟨_,rfl⟩
   rw[<- hK2,<- hK3] at hU
   rw[<- hK2]
   obtain⟨o1,n1,v1,m1,l1,a1⟩:=e
   have hg:=xL_get'' (args:=xs) _ _ _ _ _ _ _ hy
   rw[Ex.av_mk] at hCo
   repeat' first|refine st ?_|((with_reducible first|apply k_pn|apply k_pc);(·exact hCo))|((with_reducible first|apply k_nc|apply k_cs);(·exact hU _ _);(try rintro _ _ ⟨rfl,rfl⟩))|((with_reducible apply k_pr);(·exact hU _ _))|((with_reducible apply k_cal);refine st ?_;(with_reducible apply k_chk);(·exact rfl);refine st ?_;(with_reducible apply k_cs);(·exact hU _ _);(try rintro _ _ ⟨rfl,rfl⟩))|(with_reducible first|apply k_d|apply k_b)<;>intro _
   rw[hK3]
   exact⟨j+1,rfl,rfl,rfl,by omega,by omega⟩
  |none=>
   have hge:=List.getElem?_eq_none_iff.1 hy
   rw[List.take_of_length_le hge]
   rw[show xs.flatMap cols=usedX xs from rfl]
   repeat' first|refine st ?_|(with_reducible first|apply k_d|apply k_b)<;>intro _
   all_goals exact⟨rfl,rfl⟩
end Go.Proofs
end
section
namespace Go.Proofs
open Go.Bi
structure Ch where
 k:Int
 nm:List UInt8
 to:List UInt8
 co:Co
 df:Vl
abbrev chD(k:Int)(nm to cn:List UInt8)(ck:Int)(cl:Bool)(vk vn:Int)(vs:List UInt8):AV:=.agg [.d (eI k),.d (.str nm),.d (.str to),.d (.str cn),.d (eI ck),.d (.bool cl),.d (eI vk),.d (eI vn),.d (.str vs)]
abbrev Ch.av(c:Ch):AV:=chD c.k c.nm c.to c.co.nm c.co.k c.co.nl c.df.k c.df.n c.df.s
def spareB(c:Ch):Bool:=
 if c.k=1 then !(decide (c.nm=[])&&decide (c.to=[]))
 else !((decide (c.k=3)||decide (c.to=[]))&&(decide (c.co.nm=[])&&decide (c.co.k=0)&&!c.co.nl)&&(decide (c.df.k=0)&&decide (c.df.n=0)&&decide (c.df.s=[])))
theorem C.evolve_spare(c:Ch):Pure Tryz.prog N.evolve_spare [c.av] (.d (.bool (spareB c))):=by
 obtain⟨k,nm,to,⟨cn,ck,cl⟩,⟨vk,vn,vs⟩⟩:=c
 obtain⟨q,hq⟩:∃q,q=spareB ⟨k,nm,to,⟨cn,ck,cl⟩,⟨vk,vn,vs⟩⟩:=⟨_,rfl⟩
 rw[<- hq]
 simp only[spareB] at hq
 have r1:nm=nm:=rfl
 have r2:to=to:=rfl
 have r3:cn=cn:=rfl
 have r4:vs=vs:=rfl
 have r5:([]:List UInt8)=[]:=rfl
 refine F.evolve_spare.go mixed rfl ?_
 repeat' first|refine st ?_|(with_reducible first|apply k_d|apply k_b)<;>intro _
 all_goals (have e1:(0=ck)=(ck=0):=propext eq_comm)
 all_goals (have e2:(0=vk)=(vk=0):=propext eq_comm)
 all_goals (have e3:(0=vn)=(vn=0):=propext eq_comm)
 all_goals first
  |(simp_all;done)
  |(simp_all;simp only[e1,e2,e3,Bool.or_assoc])
def addE(t:Tb)(c:Ch):Int:=
 if 12<=t.cs.length then 13 else if nameB c.co.nm=false then 1 else if ¬(1<=c.co.k/\c.co.k<=3) then 7 else if 0<=findC c.co.nm t.cs then 10 else if vValid c.df=false then 8
 else if c.df.k=0/\c.co.nl=false then 12 else if c.df.k≠0/\c.df.k≠c.co.k then 7 else 0
theorem C.evolve_checkAdd(t:Tb)(dc dk df dx:D)(h:Tok t dc dk df dx)(c:Ch)(hcn:c.co.nm.length<=1048576)(hcv:c.df.s.length<=1048576):Pure Tryz.prog N.evolve_checkAdd [eT t.nm dc dk df dx,c.av] (.d (eI (addE t c))):=by
 have hF:=C.schema_Find t.nm t.cs h.hl dc dk df dx h.dc c.co.nm
 have hN:=C.schema_Name c.co.nm hcn
 have hV:=C.value_Valid c.df (by omega)
 have hl:=eCs_len t.cs
 have hdc:=h.dc
 obtain⟨q,hq⟩:∃q,q=addE t c:=⟨_,rfl⟩
 rw[<- hq]
 unfold addE at hq
 obtain⟨f,hf⟩:∃f,f=findC c.co.nm t.cs:=⟨_,rfl⟩
 obtain⟨nb,hnb⟩:∃f,f=nameB c.co.nm:=⟨_,rfl⟩
 obtain⟨vb,hvb⟩:∃f,f=vValid c.df:=⟨_,rfl⟩
 rw[<- hf] at hF hq
 rw[<- hnb] at hN hq
 rw[<- hvb] at hV hq
 obtain⟨k,nm,to,⟨cn,ck,cl⟩,⟨vk,vn,vs⟩⟩:=c
 obtain⟨es,hes⟩:∃es,es=eCs t.cs:=⟨_,rfl⟩
 rw[<- hes] at hl hdc
 dsimp only at hq hF hN hV
 obtain⟨m0,hm0⟩:∃m,m=t.cs.length:=⟨_,rfl⟩
 rw[<- hm0] at hq hl
 clear hf hnb hvb hes hm0
 refine F.evolve_checkAdd.go mixed rfl ?_
 repeat' first|refine st ?_|((with_reducible first|apply k_pn|apply k_pc);(·first|exact hF|exact hN|exact hV))|(with_reducible first|apply k_d|apply k_b)<;>intro _
 all_goals (rw[hq];clear hq hF hN hV)
 all_goals repeat' split
 all_goals first|rfl|(exfalso;omega)|(exfalso;simp_all;done)|(exfalso;simp_all;omega)
end Go.Proofs
end
section
namespace Go.Proofs
open Go.Bi
theorem findF_some(nm:List UInt8):∀(l:List Co)(i:Nat),findF nm i l=-1\/∃(j:Nat)(c:Co),l[j]?=some c/\c.nm=nm/\findF nm i l=((i+j:Nat):Int)
 |[],i=>.inl rfl
 |c::l,i=>by
  unfold findF
  by_cases h:c.nm=nm
  ·exact .inr ⟨0,c,rfl,h,by simp[h]⟩
  ·rcases findF_some nm l (i+1) with e|⟨j,d,h1,h2,h3⟩
   ·exact .inl (by simp[h,e])
   ·exact .inr ⟨j+1,d,by simpa using h1,h2,by simp only[h,if_false];rw[h3];omega⟩
theorem findC_some{nm:List UInt8}{l:List Co}(h:0<=findC nm l):∃c,l[(findC nm l).toNat]?=some c/\c.nm=nm:=by
 unfold findC at *
 rcases findF_some nm l 0 with e|⟨j,d,h1,h2,h3⟩
 ·omega
 ·exact⟨d,by rw[h3];simpa using h1,h2⟩
def ckAt(t:Tb)(i:Int):Int:=match t.cs[i.toNat]? with
 |some c=>c.k
 |none=>0
def chgE(t:Tb)(c:Ch):Int:=
 if findC c.nm t.cs<0 then 11 else if c.k≠3/\0<(usedL t).count (findC c.nm t.cs) then 25 else if c.k=4/\ckAt t (findC c.nm t.cs)=2 then 7
 else if c.k=3/\nameB c.to=false then 1 else if c.k=3/\0<=findC c.to t.cs then 10 else 0
def evoE(t:Tb)(c:Ch):Int:=
 if tabE t≠0 then tabE t else if ¬(1<=c.k/\c.k<=4) then 7 else if spareB c then 8 else if c.k=1 then addE t c else chgE t c
structure Cok(c:Ch):Prop where
 nm:c.nm.length<=1048576
 to:c.to.length<=1048576
 cn:c.co.nm.length<=1048576
 vs:c.df.s.length<=1048576
theorem C.used2(t:Tb)(dc dk df dx:D)(h:Tok t dc dk df dx):CallSpec Tryz.prog N.evolve_used [eT t.nm dc dk df dx] [] (λr os=>(∀n,shA n r=.mp (1+n))/\∀n,os.map (shO n)=[.cells [.d (.str t.nm),.d dc,.d dk,.d df,.d dx],.map (usedM t),.cells [.mp (1+n)]]):=by
 refine(C.evolve_used t dc dk df dx h).mono ?_
 rintro r os ⟨rfl,rfl⟩
 refine⟨λn=>rfl,λn=>?_⟩
 have e:(usedM t).map (λp=>(p.1,shG n p.2))=usedM t:=by
  conv=>rhs;rw[<- List.map_id (usedM t)]
  refine List.map_congr_left λp hp=>?_
  obtain⟨a,b,rfl⟩:=(usedM_cnt t).ks p hp
  rfl
 show[_,AO.map ((usedM t).map λp=>(p.1,shG n p.2)),_]=_
 rw[e]
 rfl
theorem C.evolve_Check(t:Tb)(dc dk df dx:D)(h:Tok t dc dk df dx)(c:Ch)(hc:Cok c):Pure Tryz.prog N.evolve_Check [eT t.nm dc dk df dx,c.av] (.d (eI (evoE t c))):=by
 have hT:=C.schema_Check t dc dk df dx h
 have hS:=C.evolve_spare c
 have hA:=C.evolve_checkAdd t dc dk df dx h c hc.cn hc.vs
 have hF:=C.schema_Find t.nm t.cs h.hl dc dk df dx h.dc c.nm
 have hG:=C.schema_Find t.nm t.cs h.hl dc dk df dx h.dc c.to
 have hN:=C.schema_Name c.to hc.to
 have hU:=C.used2 t dc dk df dx h
 have hl:=eCs_len t.cs
 have hme:=eCs_mem t.cs
 have hdc:=h.dc
 obtain⟨q,hq⟩:∃q,q=evoE t c:=⟨_,rfl⟩
 rw[<- hq]
 unfold evoE chgE at hq
 have hfs:=λhh=>findC_some (nm:=c.nm) (l:=t.cs) hh
 have hm:=(usedM_cnt t).str
 have hlk:=(usedM_cnt t).lk (findC c.nm t.cs)
 have hcnt:∃n:Nat,n=(usedL t).count (findC c.nm t.cs):=⟨_,rfl⟩
 obtain⟨n0,hn0⟩:=hcnt
 rw[<- hn0] at hlk hq
 obtain⟨f,hf⟩:∃f,f=findC c.nm t.cs:=⟨_,rfl⟩
 rw[<- hf] at hF hq hlk hfs
 obtain⟨g,hg⟩:∃f,f=findC c.to t.cs:=⟨_,rfl⟩
 rw[<- hg] at hG hq
 obtain⟨nb,hnb⟩:∃f,f=nameB c.to:=⟨_,rfl⟩
 rw[<- hnb] at hN hq
 obtain⟨sb,hsb⟩:∃f,f=spareB c:=⟨_,rfl⟩
 rw[<- hsb] at hS hq
 obtain⟨ae,hae⟩:∃f,f=addE t c:=⟨_,rfl⟩
 rw[<- hae] at hA hq
 obtain⟨te,hte⟩:∃f,f=tabE t:=⟨_,rfl⟩
 rw[<- hte] at hT hq
 obtain⟨kvs,hkvs⟩:∃f,f=usedM t:=⟨_,rfl⟩
 rw[<- hkvs] at hU hm hlk
 have m1:mok .i (eI f) kvs:=mok_sI _ _ hm
 have hix:0<=f->∃s k b,(eCs t.cs)[f.toNat]?=some [.str s,eI k,.bool b]/\ckAt t f=k/\f<t.cs.length:=by
  intro hh
  obtain⟨d,h1,h2⟩:=hfs hh
  have h3:=(List.getElem?_eq_some_iff.1 h1).1
  exact⟨d.nm,d.k,d.nl,eCs_get h1,by unfold ckAt;rw[h1],by omega⟩
 obtain⟨k,nm,to,⟨cn,ck,cl⟩,⟨vk,vn,vs⟩⟩:=c
 obtain⟨es,hes⟩:∃es,es=eCs t.cs:=⟨_,rfl⟩
 rw[<- hes] at hl hdc hix hme
 obtain⟨ka,hka⟩:∃x,x=ckAt t f:=⟨_,rfl⟩
 rw[<- hka] at hq hix
 obtain⟨m0,hm0⟩:∃m,m=t.cs.length:=⟨_,rfl⟩
 rw[<- hm0] at hl hix
 dsimp only at hq hF hG hN hS hA hT
 clear hfs hf hg hnb hsb hae hte hkvs hm hn0 hes hka hm0 hc h
 by_cases hf0:f<0
 ·clear hix
  refine F.evolve_Check.go mixed rfl ?_
  repeat' first|refine st ?_|((with_reducible first|apply k_pn|apply k_pc);(·first|exact hF|exact hN|exact hG|exact hS|exact hA|exact hT))|(with_reducible first|apply k_d|apply k_b)<;>intro _
  all_goals (rw[hq];clear hq hF hN hG hS hA hT hU)
  all_goals (try dsimp only at *)
  all_goals repeat' split
  all_goals first|rfl|(exfalso;omega)|(exfalso;simp_all;done)|(exfalso;simp_all;omega)
 ·obtain⟨s,kk,b,hgt,rfl,hlt⟩:=hix (by omega)
  have hf1:0<=f:=by omega
  refine F.evolve_Check.go mixed rfl ?_
  repeat' first|refine st ?_|((with_reducible apply k_nc);(· exact hU);(intro _ _ hr);(rw[hr.1,hr.2]))|((with_reducible first|apply k_pn|apply k_pc);(·first|exact hF|exact hN|exact hG|exact hS|exact hA|exact hT))|(with_reducible first|apply k_d|apply k_b)<;>intro _
  all_goals (rw[hq];clear hq hF hN hG hS hA hT hU)
  all_goals (try dsimp only at *)
  all_goals repeat' split
  all_goals first|rfl|(exfalso;omega)|(exfalso;simp_all;done)|(exfalso;simp_all;omega)
end Go.Proofs
end
section
namespace Go.Proofs
open Go.Bi
def ins(l:List Int)(n:Int):List Int:=l.takeWhile (λx=>decide (x<n))++([n]++(l.dropWhile λx=>decide (x<n)).filter λx=>decide (x≠n))
theorem ins_nil(n:Int):ins [] n=[n]:=rfl
theorem ins_cons(a:Int)(l:List Int)(n:Int):ins (a::l) n=if a<n then a::ins l n else n::(a::l).filter λx=>decide (x≠n):=by
 unfold ins
 by_cases h:a<n
 ·rw[if_pos h,List.takeWhile_cons_of_pos (by simpa using h),List.dropWhile_cons_of_pos (by simpa using h)];rfl
 ·rw[if_neg h,List.takeWhile_cons_of_neg (by simpa using h),List.dropWhile_cons_of_neg (by simpa using h)];rfl
theorem ins_len:∀(l:List Int)(n:Int),(ins l n).length<=l.length+1
 |[],n=>by simp[ins_nil]
 |a::l,n=>by
  rw[ins_cons]
  split
  ·have:=ins_len l n
   simp only[List.length_cons];omega
  ·have:=List.length_filter_le (λx=>decide (x≠n)) (a::l)
   simp only[List.length_cons] at *;omega
theorem ins_spec:∀{l:List Int}(n:Int),Asc l->Asc (ins l n)/\∀x,x∈ins l n↔x=n\/x∈l
 |[],n,_=>by simp[ins_nil,Asc]
 |a::l,n,h=>by
  have g:=List.pairwise_cons.1 h
  rw[ins_cons]
  split
  ·rename_i hlt
   obtain⟨h1,h2⟩:=ins_spec n g.2
   constructor
   ·refine List.pairwise_cons.2 ⟨λx hx=>?_,h1⟩
    rcases(h2 x).1 hx with rfl|hx
    ·exact hlt
    ·exact g.1 x hx
   ·intro x
    rw[List.mem_cons,h2,List.mem_cons]
    constructor
    ·rintro(h|h|h)
     ·exact .inr (.inl h)
     ·exact .inl h
     ·exact .inr (.inr h)
    ·rintro(h|h|h)
     ·exact .inr (.inl h)
     ·exact .inl h
     ·exact .inr (.inr h)
  ·rename_i hge
   constructor
   ·refine List.pairwise_cons.2 ⟨λx hx=>?_,h.filter _⟩
    rw[List.mem_filter] at hx
    have hne:x≠n:=by simpa using hx.2
    rcases List.mem_cons.1 hx.1 with rfl|hx
    ·omega
    ·have:=g.1 x hx;omega
   ·intro x
    rw[List.mem_cons,List.mem_filter]
    by_cases hx:x=n
    ·simp[hx]
    ·simp[hx]
theorem ins_at{l:List Int}{n:Int}{i:Nat}(h:∀(j:Nat) y,j<i->l[j]?=some y->y<n)(hi:∀y,l[i]?=some y->¬y<n):ins l n=l.take i++([n]++(l.drop i).filter λx=>decide (x≠n)):=by
 have h1:∀x∈l.take i,decide (x<n)=true:=by
  intro x hx
  obtain⟨j,hj⟩:=List.getElem?_of_mem hx
  have hj2:=(List.getElem?_eq_some_iff.1 hj).1
  rw[List.length_take] at hj2
  rw[List.getElem?_take,if_pos (by omega)] at hj
  exact decide_eq_true (h j x (by omega) hj)
 have h2:(l.drop i).takeWhile (λx=>decide (x<n))=[]/\(l.drop i).dropWhile (λx=>decide (x<n))=l.drop i:=by
  cases hd:l.drop i with
  |nil=>exact⟨rfl,rfl⟩
  |cons y r=>
   have hy:l[i]?=some y:=by
    have:(l.drop i)[0]?=some y:=by rw[hd];rfl
    rwa [List.getElem?_drop,Nat.add_zero] at this
   have:=hi y hy
   exact⟨List.takeWhile_cons_of_neg (by simpa using this),List.dropWhile_cons_of_neg (by simpa using this)⟩
 have e:l=l.take i++l.drop i:=(List.take_append_drop i l).symm
 unfold ins
 rw[show l.takeWhile (λx=>decide (x<n))=(l.take i++l.drop i).takeWhile (λx=>decide (x<n)) by rw[<- e],show l.dropWhile (λx=>decide (x<n))=(l.take i++l.drop i).dropWhile (λx=>decide (x<n)) by rw[<- e]]
 rw[List.takeWhile_append_of_pos h1,List.dropWhile_append_of_pos h1,h2.1,h2.2,List.append_nil]
theorem foldl_ins_len:∀(l out:List Int),(l.foldl ins out).length<=out.length+l.length
 |[],out=>by simp
 |a::l,out=>by
  have h1:=foldl_ins_len l (ins out a)
  have h2:=ins_len out a
  rw[List.foldl_cons]
  simp only[List.length_cons]
  omega
theorem foldl_ins:∀(l:List Int){out:List Int},Asc out->Asc (l.foldl ins out)/\∀x,x∈l.foldl ins out↔x∈out\/x∈l
 |[],out,h=>⟨h,λx=>by simp⟩
 |a::l,out,h=>by
  obtain⟨h1,h2⟩:=ins_spec a h
  obtain⟨h3,h4⟩:=foldl_ins l h1
  refine⟨h3,λx=>?_⟩
  rw[List.foldl_cons,h4,h2,List.mem_cons]
  constructor
  ·rintro((h|h)|h)
   ·exact .inr (.inl h)
   ·exact .inl h
   ·exact .inr (.inr h)
  ·rintro(h|h|h)
   ·exact .inl (.inr h)
   ·exact .inl (.inl h)
   ·exact .inr h
mutual
def rcE:Ex->List Int
 |.mk op n v nm nl args=>rcL args (own op n)
def rcL:List Ex->List Int->List Int
 |[],out=>out
 |a::l,out=>rcL l ((rcE a).foldl ins out)
end
def rcS(out:List Int)(a:Ex):List Int:=(rcE a).foldl ins out
theorem rcL_eq:∀(l:List Ex)(out:List Int),rcL l out=l.foldl rcS out
 |[],out=>by simp[rcL]
 |a::l,out=>by rw[rcL,rcL_eq l];rfl
theorem rcE_mk(op n:Int)(v:Vl)(nm:List UInt8)(nl:Bool)(args:List Ex):rcE (.mk op n v nm nl args)=args.foldl rcS (own op n):=by rw[rcE,rcL_eq]
theorem foldl_rcS:∀(l:List Ex){out:List Int},(∀a∈l,∀x,x∈rcE a↔x∈rawC a)->Asc out->Asc (l.foldl rcS out)/\∀x,x∈l.foldl rcS out↔x∈out\/x∈l.flatMap rawC
 |[],out,_,h=>⟨h,λx=>by simp⟩
 |a::l,out,hl,h=>by
  obtain⟨h1,h2⟩:=foldl_ins (rcE a) h
  obtain⟨h3,h4⟩:=foldl_rcS l (λb hb=>hl b (List.mem_cons_of_mem _ hb)) h1
  refine⟨h3,λx=>?_⟩
  rw[List.foldl_cons,show rcS out a=(rcE a).foldl ins out from rfl,h4,h2,hl a (List.mem_cons_self ..),List.flatMap_cons,List.mem_append,or_assoc]
theorem own_asc(op n:Int):Asc (own op n):=by unfold own;split<;>simp[Asc]
theorem rcE_spec:∀e:Ex,Asc (rcE e)/\∀x,x∈rcE e↔x∈rawC e:=by
 refine Ex.ind λop n v nm nl args ih=>?_
 rw[rcE_mk,rawC_mk,<- own]
 obtain⟨h1,h2⟩:=foldl_rcS args (λa ha=>(ih a ha).2) (own_asc op n)
 exact⟨h1,λx=>by rw[h2,List.mem_append]⟩
theorem rcE_cols(e:Ex):rcE e=cols e:=asc_ext (rcE_spec e).1 (cols_asc e) λx=>by rw[(rcE_spec e).2,cols_mem]
theorem own_len(op n:Int):(own op n).length<=1:=by unfold own;split<;>simp
theorem foldl_rcS_len:∀(l:List Ex)(out:List Int),(l.foldl rcS out).length<=out.length+bulkLL (xL l)
 |[],out=>by simp
 |a::l,out=>by
  have h1:=foldl_rcS_len l (rcS out a)
  have h2:(rcS out a).length<=out.length+(rcE a).length:=foldl_ins_len _ _
  have h3:=cols_len a
  rw[<- rcE_cols] at h3
  rw[List.foldl_cons]
  simp only[xL,List.map_cons,bulkLL]
  unfold Ex.bk at h3
  unfold xL at h1
  omega
theorem bulk_take:∀(l:List Ex)(i:Nat),bulkLL (xL (l.take i))<=bulkLL (xL l)
 |[],i=>by simp
 |a::l,0=>by simp[xL,bulkLL]
 |a::l,i+1=>by
  have:=bulk_take l i
  rw[List.take_succ_cons]
  simp only[xL,List.map_cons,bulkLL] at *
  omega
theorem C.r11_insert(l:List Int)(hl:l.length<=4194304)(n:Int)(d:D)(hd:SlD d (eIs l)):Pure Tryz.prog N.bt_ref11_insert [.d d,.d (eI n)] (.d (.sl (eIs (ins l n)))):=by
 refine F.bt_ref11_insert.go mixed rfl ?_
 have hl1:=eIs_len l
 repeat' first|refine st ?_|(with_reducible first|apply k_d|apply k_b)<;>intro _
 refine x_loop2 mixed Lt.bt_ref11_insert_l0 Lk.bt_ref11_insert_l0 (λ(i:Nat) (es:List (List D))=>[.arr 0 es.length,.d (eI i)]) (λi es=>[.arr es 1 0 false]) (λi es=>i<=l.length/\es=eIs (l.take i)/\∀(j:Nat) y,j<i->l[j]?=some y->y<n) (λi _=>l.length-i) 0 [] rfl rfl rfl rfl (λ_ _ _=>⟨rfl,rfl⟩) rfl ⟨by omega,rfl,by omega⟩ ?_
 repeat' first|refine st ?_|(with_reducible first|apply k_d|apply k_b)<;>intro _
 intro i es ⟨h1,h2,h3⟩
 have hes:es.length=i:=by rw[h2,eIs_len,List.length_take];omega
 have hem:∀e∈es,e.length=1:=by
  rw[h2]
  intro e he
  obtain⟨z,_,rfl⟩:=List.mem_map.1 he
  rfl
 have key:(∃y,l[i]?=some y/\y<n)\/((∀y,l[i]?=some y->¬y<n)/\((∃y,l[i]?=some y/\¬y<n)\/l.length<=i)):=by
  cases hx:l[i]? with
  |none=>exact .inr ⟨λy h=>(by cases h),.inr (List.getElem?_eq_none_iff.1 hx)⟩
  |some y=>
   by_cases hy:y<n
   ·exact .inl ⟨y,rfl,hy⟩
   ·exact .inr ⟨λz hz=>(by cases hz;exact hy),.inl ⟨y,rfl,hy⟩⟩
 have rest:(∀y,l[i]?=some y->¬y<n)->∀k:Nat,i<=k->eIs (l.take i)++([[eI n]]++eIs ((((l.take k).drop i)).filter λx=>decide (x≠n)))=eIs (l.take i++([n]++((l.take k).drop i).filter λx=>decide (x≠n))):=λ_ k _=>by simp[eIs]
 rcases key with ⟨y,hy,hlt⟩|⟨hno,hx⟩
 ·have hil:=(List.getElem?_eq_some_iff.1 hy).1
  have hg:=eIs_get hy
  repeat' first|refine st ?_|(with_reducible first|apply k_d|apply k_b)<;>intro _
  refine⟨i+1,es++[[eI y]],rfl,rfl,rfl,by omega,by omega,?_,λj z hj hz=>?_⟩
  ·rw[h2,List.take_add_one,hy];simp[eIs]
  ·rcases Nat.lt_succ_iff_lt_or_eq.1 hj with h|rfl
   ·exact h3 j z h hz
   ·rw[hy] at hz;cases hz;exact hlt
 ·have hat:=ins_at h3 hno
  rcases hx with ⟨y,hy,hge⟩|hx
  ·have hg:=eIs_get hy
   have hil:=(List.getElem?_eq_some_iff.1 hy).1
   repeat' first|refine st ?_|(with_reducible first|apply k_d|apply k_b)<;>intro _
   refine x_loop2 mixed Lt.bt_ref11_insert_l1 Lk.bt_ref11_insert_l1 (λ(k:Nat) (es:List (List D))=>[.arr 0 es.length,.d (eI k)]) (λk es=>[.arr es 1 0 false,.arr [[eI n]] 1 0 false]) (λk es2=>i<=k/\k<=l.length/\es2.length<=k+1/\es2=eIs (l.take i++([n]++((l.take k).drop i).filter λx=>decide (x≠n)))) (λk _=>l.length-k) i (es++[[eI n]]) rfl rfl rfl rfl (λ_ _ _=>⟨rfl,rfl⟩) rfl ⟨by omega,by omega,by simp;omega,by rw[h2,List.drop_eq_nil_of_le (by rw[List.length_take];omega)];simp[eIs]⟩ ?_
   repeat' first|refine st ?_|(with_reducible first|apply k_d|apply k_b)<;>intro _
   intro k es2 ⟨q1,q2,q4,q3⟩
   cases hz:l[k]? with
   |none=>
    have hge2:=List.getElem?_eq_none_iff.1 hz
    rw[List.take_of_length_le hge2,<- hat] at q3
    repeat' first|refine st ?_|(with_reducible first|apply k_d|apply k_b)<;>intro _
    rw[q3];rfl
   |some z=>
    have hkl:=(List.getElem?_eq_some_iff.1 hz).1
    have hg2:=eIs_get hz
    have hdr:(l.take (k+1)).drop i=(l.take k).drop i++[z]:=by
     rw[List.take_add_one,hz,List.drop_append_of_le_length (by rw[List.length_take];omega)];rfl
    repeat' first|refine st ?_|(with_reducible first|apply k_d|apply k_b)<;>intro _
    ·rename_i he
     refine⟨k+1,es2,rfl,rfl,rfl,by omega,by omega,by omega,by omega,?_⟩
     rw[q3,hdr,List.filter_append]
     simp[he]
    ·rename_i he
     refine⟨k+1,es2++[[eI z]],rfl,rfl,rfl,by omega,by omega,by omega,by simp;omega,?_⟩
     rw[q3,hdr,List.filter_append]
     simp[he,eIs]
  ·repeat' first|refine st ?_|(with_reducible first|apply k_d|apply k_b)<;>intro _
   refine x_loop2 mixed Lt.bt_ref11_insert_l1 Lk.bt_ref11_insert_l1 (λ(k:Nat) (es:List (List D))=>[.arr 0 es.length,.d (eI k)]) (λk es=>[.arr es 1 0 false,.arr [[eI n]] 1 0 false]) (λk es2=>k=i/\es2=es++[[eI n]]) (λk _=>l.length-k) i (es++[[eI n]]) rfl rfl rfl rfl (λ_ _ _=>⟨rfl,rfl⟩) rfl ⟨rfl,rfl⟩ ?_
   repeat' first|refine st ?_|(with_reducible first|apply k_d|apply k_b)<;>intro _
   intro k es2 ⟨q1,q3⟩
   subst q1
   repeat' first|refine st ?_|(with_reducible first|apply k_d|apply k_b)<;>intro _
   rw[q3,h2,hat,List.drop_eq_nil_of_le hx]
   simp[eIs]
   rfl
theorem C.r11_Columns:∀e:Ex,e.bk<=1048576->Pure Tryz.prog N.bt_ref11_Columns [e.av] (.d (.sl (eIs (rcE e)))):=by
 refine Ex.ind λop n v nm nl args ih hb=>?_
 obtain⟨b1,b2,b3,b4⟩:=Ex.bk_bounds hb
 have hbm:=Ex.bk_mk op n v nm nl args
 rw[rcE_mk,Ex.av_mk]
 have h1:=xL_len args
 have hm:=xL_mem args
 obtain⟨da,hda⟩:∃d,d=ng nl (xL args):=⟨_,rfl⟩
 have hsd:SlD da (xL args):=by rw[hda];exact sld_ng
 rw[<- hda]
 have r0:v.k=v.k:=rfl
 have r1:v.s=v.s:=rfl
 have r2:nm=nm:=rfl
 refine F.bt_ref11_Columns.go mixed rfl ?_
 have hown:(op=2/\own op n=[n])\/(op≠2/\own op n=[]):=by
  unfold own
  by_cases h:op=2
  ·rw[if_pos h];exact .inl ⟨h,rfl⟩
  ·rw[if_neg h];exact .inr ⟨h,rfl⟩
 rcases hown with ⟨h2,ho⟩|⟨h2,ho⟩
 ·repeat' first|refine st ?_|(with_reducible first|apply k_d|apply k_b)<;>intro _
  refine x_frz 3 rfl rfl rfl ?_
  repeat' first|refine st ?_|(with_reducible first|apply k_d|apply k_b)<;>intro _
  refine x_loop2 mixed Lt.bt_ref11_Columns_l1 Lk.bt_ref11_Columns_l1 (λ(i:Nat) (out:List Int)=>[.d (.sl (eIs out)),.d (eI i)]) (λi out=>[.cells [.d (eI op),.d (eI n),.d (eI v.k),.d (eI v.n),.d (.str v.s),.d (.str nm),.d da],.arr [[eI n]] 1 1 false,.arr [[eI n]] 1 0 false]) (λi out=>i<=args.length/\out=(args.take i).foldl rcS (own op n)) (λi _=>args.length-i) 0 (own op n) rfl rfl (by rw[ho];rfl) rfl (λ_ _ _=>⟨rfl,rfl⟩) rfl ⟨Nat.zero_le _,rfl⟩ ?_
  repeat' first|refine st ?_|(with_reducible first|apply k_d|apply k_b)<;>intro _
  intro i out ⟨h4,h5⟩
  cases hx:args[i]? with
  |none=>
   have hge:=List.getElem?_eq_none_iff.1 hx
   rw[List.take_of_length_le hge] at h5
   repeat' first|refine st ?_|(with_reducible first|apply k_d|apply k_b)<;>intro _
   rw[h5]
  |some x=>
   have hlt:=(List.getElem?_eq_some_iff.1 hx).1
   have hgx:=xL_get hx
   have hxm:=List.mem_of_getElem? hx
   have hxb:bulkL x.ds<=bulkLL (xL args):=bulkLL_mem (List.mem_map.2 ⟨x,hxm,rfl⟩)
   have hi:=ih x hxm (b4 x hxm)
   have hs:=foldl_take_succ rcS (own op n) args i x hx
   rw[<- h5] at hs
   have hol:out.length<=1+bulkLL (xL args):=by
    have q1:=foldl_rcS_len (args.take i) (own op n)
    have q2:=own_len op n
    have q3:bulkLL (xL (args.take i))<=bulkLL (xL args):=bulk_take args i
    rw[h5];omega
   have hrl:=cols_len x
   rw[<- rcE_cols] at hrl
   obtain⟨ys,hys⟩:∃y,y=rcE x:=⟨_,rfl⟩
   have hss:rcS out x=ys.foldl ins out:=by rw[hys];rfl
   rw[hss] at hs
   rw[<- hys] at hi hrl
   unfold Ex.bk at hrl
   have hyl:=eIs_len ys
   obtain⟨o1,n1,v1,m1,l1,a1⟩:=x
   rw[Ex.ds_mk] at hgx
   rw[Ex.av_mk] at hi
   repeat' first|refine st ?_|((with_reducible first|apply k_pn|apply k_pc);(·exact hi))|(with_reducible first|apply k_d|apply k_b)<;>intro _
   refine x_loop2 mixed Lt.bt_ref11_Columns_l0 Lk.bt_ref11_Columns_l0 (λ(k:Nat) (o2:List Int)=>[.d (.sl (eIs o2)),.d (eI k)]) (λk o2=>[.cells [.d (eI op),.d (eI n),.d (eI v.k),.d (eI v.n),.d (.str v.s),.d (.str nm),.d da],.arr [[eI n]] 1 1 false,.arr [[eI n]] 1 0 false]) (λk o2=>k<=ys.length/\o2=(ys.take k).foldl ins out) (λk _=>ys.length-k) 0 out rfl rfl rfl rfl (λ_ _ _=>⟨rfl,rfl⟩) rfl ⟨Nat.zero_le _,rfl⟩ ?_
   repeat' first|refine st ?_|(with_reducible first|apply k_d|apply k_b)<;>intro _
   intro k o2 ⟨q1,q2⟩
   cases hy:ys[k]? with
   |none=>
    have hge:=List.getElem?_eq_none_iff.1 hy
    rw[List.take_of_length_le hge,<- hs] at q2
    repeat' first|refine st ?_|(with_reducible first|apply k_d|apply k_b)<;>intro _
    exact⟨i+1,o2,rfl,rfl,rfl,by omega,by omega,q2⟩
   |some y=>
    have hklt:=(List.getElem?_eq_some_iff.1 hy).1
    have hgy:=eIs_get hy
    have hs2:=foldl_take_succ ins out ys k y hy
    rw[<- q2] at hs2
    have hI:=C.r11_insert o2 (by
     have q3:=foldl_ins_len (ys.take k) out
     rw[List.length_take] at q3
     rw[q2];omega) y (.sl (eIs o2)) sld_sl
    repeat' first|refine st ?_|((with_reducible first|apply k_pn|apply k_pc);(·exact hI))|(with_reducible first|apply k_d|apply k_b)<;>intro _
    exact⟨k+1,ins o2 y,rfl,rfl,rfl,by omega,by omega,hs2.symm⟩
 ·repeat' first|refine st ?_|(with_reducible first|apply k_d|apply k_b)<;>intro _
  refine x_frz 3 rfl rfl rfl ?_
  repeat' first|refine st ?_|(with_reducible first|apply k_d|apply k_b)<;>intro _
  refine x_loop2 mixed Lt.bt_ref11_Columns_l1 Lk.bt_ref11_Columns_l1 (λ(i:Nat) (out:List Int)=>[.d (.sl (eIs out)),.d (eI i)]) (λi out=>[.cells [.d (eI op),.d (eI n),.d (eI v.k),.d (eI v.n),.d (.str v.s),.d (.str nm),.d da],.arr [] 1 0 false]) (λi out=>i<=args.length/\out=(args.take i).foldl rcS (own op n)) (λi _=>args.length-i) 0 (own op n) rfl rfl (by rw[ho];rfl) rfl (λ_ _ _=>⟨rfl,rfl⟩) rfl ⟨Nat.zero_le _,rfl⟩ ?_
  repeat' first|refine st ?_|(with_reducible first|apply k_d|apply k_b)<;>intro _
  intro i out ⟨h4,h5⟩
  cases hx:args[i]? with
  |none=>
   have hge:=List.getElem?_eq_none_iff.1 hx
   rw[List.take_of_length_le hge] at h5
   repeat' first|refine st ?_|(with_reducible first|apply k_d|apply k_b)<;>intro _
   rw[h5]
  |some x=>
   have hlt:=(List.getElem?_eq_some_iff.1 hx).1
   have hgx:=xL_get hx
   have hxm:=List.mem_of_getElem? hx
   have hxb:bulkL x.ds<=bulkLL (xL args):=bulkLL_mem (List.mem_map.2 ⟨x,hxm,rfl⟩)
   have hi:=ih x hxm (b4 x hxm)
   have hs:=foldl_take_succ rcS (own op n) args i x hx
   rw[<- h5] at hs
   have hol:out.length<=1+bulkLL (xL args):=by
    have q1:=foldl_rcS_len (args.take i) (own op n)
    have q2:=own_len op n
    have q3:bulkLL (xL (args.take i))<=bulkLL (xL args):=bulk_take args i
    rw[h5];omega
   have hrl:=cols_len x
   rw[<- rcE_cols] at hrl
   obtain⟨ys,hys⟩:∃y,y=rcE x:=⟨_,rfl⟩
   have hss:rcS out x=ys.foldl ins out:=by rw[hys];rfl
   rw[hss] at hs
   rw[<- hys] at hi hrl
   unfold Ex.bk at hrl
   have hyl:=eIs_len ys
   obtain⟨o1,n1,v1,m1,l1,a1⟩:=x
   rw[Ex.ds_mk] at hgx
   rw[Ex.av_mk] at hi
   repeat' first|refine st ?_|((with_reducible first|apply k_pn|apply k_pc);(·exact hi))|(with_reducible first|apply k_d|apply k_b)<;>intro _
   refine x_loop2 mixed Lt.bt_ref11_Columns_l0 Lk.bt_ref11_Columns_l0 (λ(k:Nat) (o2:List Int)=>[.d (.sl (eIs o2)),.d (eI k)]) (λk o2=>[.cells [.d (eI op),.d (eI n),.d (eI v.k),.d (eI v.n),.d (.str v.s),.d (.str nm),.d da],.arr [] 1 0 false]) (λk o2=>k<=ys.length/\o2=(ys.take k).foldl ins out) (λk _=>ys.length-k) 0 out rfl rfl rfl rfl (λ_ _ _=>⟨rfl,rfl⟩) rfl ⟨Nat.zero_le _,rfl⟩ ?_
   repeat' first|refine st ?_|(with_reducible first|apply k_d|apply k_b)<;>intro _
   intro k o2 ⟨q1,q2⟩
   cases hy:ys[k]? with
   |none=>
    have hge:=List.getElem?_eq_none_iff.1 hy
    rw[List.take_of_length_le hge,<- hs] at q2
    repeat' first|refine st ?_|(with_reducible first|apply k_d|apply k_b)<;>intro _
    exact⟨i+1,o2,rfl,rfl,rfl,by omega,by omega,q2⟩
   |some y=>
    have hklt:=(List.getElem?_eq_some_iff.1 hy).1
    have hgy:=eIs_get hy
    have hs2:=foldl_take_succ ins out ys k y hy
    rw[<- q2] at hs2
    have hI:=C.r11_insert o2 (by
     have q3:=foldl_ins_len (ys.take k) out
     rw[List.length_take] at q3
     rw[q2];omega) y (.sl (eIs o2)) sld_sl
    repeat' first|refine st ?_|((with_reducible first|apply k_pn|apply k_pc);(·exact hI))|(with_reducible first|apply k_d|apply k_b)<;>intro _
    exact⟨k+1,ins o2 y,rfl,rfl,rfl,by omega,by omega,hs2.symm⟩
end Go.Proofs
end
section
namespace Go.Proofs
open Go.Bi
theorem C.r14_has(l:List Int)(hl:l.length<=1048576)(d:D)(hd:SlD d (eIs l))(c:Int):Pure Tryz.prog N.bt_ref14_has [.d d,.d (eI c)] (.d (.bool (decide (c∈l)))):=by
 refine F.bt_ref14_has.go mixed rfl ?_
 have h1:=eIs_len l
 have hm:=eIs_mem l
 obtain⟨q,hq⟩:∃q,q=decide (c∈l):=⟨_,rfl⟩
 rw[<- hq]
 repeat' first|refine st ?_|(with_reducible first|apply k_d|apply k_b)<;>intro _
 refine x_loop1 mixed Lt.bt_ref14_has_l0 Lk.bt_ref14_has_l0 (λ(i:Nat)=>[.d (eI i)]) (λi=>[]) (λi=>i<=l.length/\q=decide (c∈l.drop i)) (λi=>l.length-i) 0 rfl rfl rfl rfl (λ_ _=>⟨rfl,rfl⟩) rfl ⟨by omega,hq⟩ ?_
 repeat' first|refine st ?_|(with_reducible first|apply k_d|apply k_b)<;>intro _
 intro i ⟨h4,h5⟩
 cases hx:l[i]? with
 |some x=>
  obtain⟨hlt,he⟩:=List.getElem?_eq_some_iff.1 hx
  have hg:=eIs_get hx
  rw[List.drop_eq_getElem_cons hlt,he] at h5
  by_cases hc:x=c
  ·subst hc
   rw[show q=true by rw[h5];simp]
   repeat' first|refine st ?_|(with_reducible first|apply k_d|apply k_b)<;>intro _
   all_goals rfl
  ·repeat' first|refine st ?_|(with_reducible first|apply k_d|apply k_b)<;>intro _
   exact⟨i+1,rfl,rfl,rfl,by omega,by omega,by rw[h5];simp[Ne.symm hc]⟩
 |none=>
  have hge:=List.getElem?_eq_none_iff.1 hx
  rw[List.drop_of_length_le hge] at h5
  rw[h5]
  repeat' first|refine st ?_|(with_reducible first|apply k_d|apply k_b)<;>intro _
  all_goals rfl
theorem C.r14_plain(c:Ch):Pure Tryz.prog N.bt_ref14_plain [c.av] (if c.k=1 then chD c.k [] [] c.co.nm c.co.k c.co.nl c.df.k c.df.n c.df.s else if c.k=3 then chD c.k c.nm c.to [] 0 false 0 0 [] else chD c.k c.nm [] [] 0 false 0 0 []):=by
 obtain⟨k,nm,to,⟨cn,ck,cl⟩,⟨vk,vn,vs⟩⟩:=c
 dsimp only
 by_cases h1:k=1
 ·rw[if_pos h1]
  refine F.bt_ref14_plain.go mixed rfl ?_
  repeat' first|refine st ?_|(with_reducible first|apply k_d|apply k_b)<;>intro _
  all_goals rfl
 ·rw[if_neg h1]
  by_cases h3:k=3
  ·rw[if_pos h3]
   refine F.bt_ref14_plain.go mixed rfl ?_
   repeat' first|refine st ?_|(with_reducible first|apply k_d|apply k_b)<;>intro _
   all_goals rfl
  ·rw[if_neg h3]
   refine F.bt_ref14_plain.go mixed rfl ?_
   repeat' first|refine st ?_|(with_reducible first|apply k_d|apply k_b)<;>intro _
   all_goals rfl
end Go.Proofs
end
section
namespace Go.Proofs
open Go.Bi
theorem C.r14_used(t:Tb)(dc dk df dx:D)(h:Tok t dc dk df dx)(c:Int):Pure Tryz.prog N.bt_ref14_used [eT t.nm dc dk df dx,.d (eI c)] (.d (.bool (decide (c∈usedL t)))):=by
 obtain⟨q,hq⟩:∃q,q=decide (c∈usedL t):=⟨_,rfl⟩
 rw[<- hq]
 unfold usedL usedF usedX at hq
 obtain⟨n,l,ks,fs,xs⟩:=t
 obtain⟨hn,hl,hls,hk,hfl,hfc,hxs,hxb,hc,hdk,hdf,hdx⟩:=h
 dsimp only at *
 have hK:=C.r14_has ks hk dk hdk c
 have f1:=eFs_len fs
 have f2:=eFs_mem fs
 have x1:=xL_len xs
 have x2:=xL_mem xs
 have fg0:=λi f=>eFs_get (l:=fs) (i:=i) (f:=f)
 obtain⟨FS,hFS⟩:∃es,es=eFs fs:=⟨_,rfl⟩
 rw[<- hFS] at f1 f2 hdf fg0
 have xg0:=xL_get'' (args:=xs)
 obtain⟨XS,hXS⟩:∃es,es=xL xs:=⟨_,rfl⟩
 rw[<- hXS] at x1 x2 hdx xg0
 refine F.bt_ref14_used.go mixed rfl ?_
 by_cases hin:c∈ks
 ·rw[decide_eq_true hin] at hK
  rw[show q=true by rw[hq];simp[hin]]
  repeat' first|refine st ?_|((with_reducible first|apply k_pn|apply k_pc);(·exact hK))|(with_reducible first|apply k_d|apply k_b)<;>intro _
  all_goals rfl
 rw[decide_eq_false hin] at hK
 have hq:q=decide (c∈fs.flatMap Fo.cs\/c∈xs.flatMap cols):=by rw[hq];simp[hin]
 repeat' first|refine st ?_|((with_reducible first|apply k_pn|apply k_pc);(·exact hK))|(with_reducible first|apply k_d|apply k_b)<;>intro _
 refine x_loop1 mixed Lt.bt_ref14_used_l0 Lk.bt_ref14_used_l0 (λ(i:Nat)=>[.d (eI i)]) (λi=>[.cells [.d (.str n),.d dc,.d dk,.d df,.d dx]]) (λi=>i<=fs.length/\q=decide (c∈(fs.drop i).flatMap Fo.cs\/c∈xs.flatMap cols)) (λi=>fs.length-i) 0 rfl rfl rfl rfl (λ_ _=>⟨rfl,rfl⟩) rfl ⟨by omega,hq⟩ ?_
 repeat' first|refine st ?_|(with_reducible first|apply k_d|apply k_b)<;>intro _
 intro i ⟨h4,h5⟩
 cases hx:fs[i]? with
 |some f=>
  obtain⟨hlt,he⟩:=List.getElem?_eq_some_iff.1 hx
  have hg:=fg0 _ _ hx
  obtain⟨hf,hft⟩:=hfc f (List.mem_of_getElem? hx)
  have hF:=C.r14_has f.cs hf f.d f.sld c
  rw[List.drop_eq_getElem_cons hlt,he] at h5
  obtain⟨nl,cs,tb⟩:=f
  obtain⟨fd,hfd⟩:∃fd,fd=Fo.d ⟨nl,cs,tb⟩:=⟨_,rfl⟩
  have hg:FS[i]?=some [Fo.d ⟨nl,cs,tb⟩,.str tb]:=hg
  rw[<- hfd] at hg hF
  dsimp only at hF h5
  by_cases hcin:c∈cs
  ·rw[decide_eq_true hcin] at hF
   rw[show q=true by rw[h5];simp[hcin]]
   repeat' first|refine st ?_|((with_reducible first|apply k_pn|apply k_pc);(·exact hF))|(with_reducible first|apply k_d|apply k_b)<;>intro _
   all_goals rfl
  ·rw[decide_eq_false hcin] at hF
   have h5:q=decide (c∈(fs.drop (i+1)).flatMap Fo.cs\/c∈xs.flatMap cols):=by rw[h5,List.flatMap_cons];simp only[List.mem_append,hcin,false_or]
   repeat' first|refine st ?_|((with_reducible first|apply k_pn|apply k_pc);(·exact hF))|(with_reducible first|apply k_d|apply k_b)<;>intro _
   exact⟨i+1,rfl,rfl,rfl,by omega,by omega,h5⟩
 |none=>
  have hge:=List.getElem?_eq_none_iff.1 hx
  rw[List.drop_of_length_le hge] at h5
  have h5:q=decide (c∈xs.flatMap cols):=by rw[h5];simp
  repeat' first|refine st ?_|(with_reducible first|apply k_d|apply k_b)<;>intro _
  refine x_loop1 mixed Lt.bt_ref14_used_l1 Lk.bt_ref14_used_l1 (λ(i:Nat)=>[.d (eI i)]) (λi=>[.cells [.d (.str n),.d dc,.d dk,.d df,.d dx]]) (λi=>i<=xs.length/\q=decide (c∈(xs.drop i).flatMap cols)) (λi=>xs.length-i) 0 rfl rfl rfl rfl (λ_ _=>⟨rfl,rfl⟩) rfl ⟨by omega,h5⟩ ?_
  repeat' first|refine st ?_|(with_reducible first|apply k_d|apply k_b)<;>intro _
  intro j ⟨h6,h7⟩
  cases hy:xs[j]? with
  |some e=>
   obtain⟨hlt,he⟩:=List.getElem?_eq_some_iff.1 hy
   have hb:=hxb e (List.mem_of_getElem? hy)
   have hCo:=C.r11_Columns e hb
   rw[rcE_cols] at hCo
   have hF:=C.r14_has (cols e) (Nat.le_trans (cols_len e) hb) (.sl (eIs (cols e))) sld_sl c
   rw[List.drop_eq_getElem_cons hlt,he] at h7
   obtain⟨ce,hce⟩:∃d,d=cols e:=⟨_,rfl⟩
   rw[List.flatMap_cons] at h7
   rw[<- hce] at hCo hF h7
   obtain⟨o1,n1,v1,m1,l1,a1⟩:=e
   have hg:=xg0 _ _ _ _ _ _ _ hy
   rw[Ex.av_mk] at hCo
   by_cases hcin:c∈ce
   ·rw[decide_eq_true hcin] at hF
    rw[show q=true by rw[h7];simp[hcin]]
    repeat' first|refine st ?_|((with_reducible first|apply k_pn|apply k_pc);(·first|exact hCo|exact hF))|(with_reducible first|apply k_d|apply k_b)<;>intro _
    all_goals rfl
   ·rw[decide_eq_false hcin] at hF
    have h7:q=decide (c∈(xs.drop (j+1)).flatMap cols):=by rw[h7];simp only[List.mem_append,hcin,false_or]
    repeat' first|refine st ?_|((with_reducible first|apply k_pn|apply k_pc);(·first|exact hCo|exact hF))|(with_reducible first|apply k_d|apply k_b)<;>intro _
    exact⟨j+1,rfl,rfl,rfl,by omega,by omega,h7⟩
  |none=>
   have hge:=List.getElem?_eq_none_iff.1 hy
   rw[List.drop_of_length_le hge] at h7
   rw[show q=false by rw[h7];simp]
   repeat' first|refine st ?_|(with_reducible first|apply k_d|apply k_b)<;>intro _
   all_goals rfl
theorem C.r14_add(t:Tb)(dc dk df dx:D)(h:Tok t dc dk df dx)(c:Ch)(hcn:c.co.nm.length<=1048576)(hcv:c.df.s.length<=1048576):Pure Tryz.prog N.bt_ref14_add [eT t.nm dc dk df dx,c.av] (.d (eI (addE t c))):=by
 have hF:=C.r13_Find t.nm t.cs h.hl dc dk df dx h.dc c.co.nm
 have hN:=C.r13_Name c.co.nm hcn
 have hV:=C.r7_Valid c.df (by omega)
 have hl:=eCs_len t.cs
 have hdc:=h.dc
 obtain⟨q,hq⟩:∃q,q=addE t c:=⟨_,rfl⟩
 rw[<- hq]
 unfold addE at hq
 obtain⟨f,hf⟩:∃f,f=findC c.co.nm t.cs:=⟨_,rfl⟩
 obtain⟨nb,hnb⟩:∃f,f=nameB c.co.nm:=⟨_,rfl⟩
 obtain⟨vb,hvb⟩:∃f,f=vValid c.df:=⟨_,rfl⟩
 rw[<- hf] at hF hq
 rw[<- hnb] at hN hq
 rw[<- hvb] at hV hq
 obtain⟨k,nm,to,⟨cn,ck,cl⟩,⟨vk,vn,vs⟩⟩:=c
 obtain⟨es,hes⟩:∃es,es=eCs t.cs:=⟨_,rfl⟩
 rw[<- hes] at hl hdc
 dsimp only at hq hF hN hV
 obtain⟨m0,hm0⟩:∃m,m=t.cs.length:=⟨_,rfl⟩
 rw[<- hm0] at hq hl
 clear hf hnb hvb hes hm0
 refine F.bt_ref14_add.go mixed rfl ?_
 repeat' first|refine st ?_|((with_reducible first|apply k_pn|apply k_pc);(·first|exact hF|exact hN|exact hV))|(with_reducible first|apply k_d|apply k_b)<;>intro _
 all_goals (rw[hq];clear hq hF hN hV)
 all_goals repeat' split
 all_goals first|rfl|(exfalso;omega)|(exfalso;simp_all;done)|(exfalso;simp_all;omega)
end Go.Proofs
end
