/- Texts of this claim, joined. No condition. -/
import Derived.Test.YthaildbjjlpdgaaGreatQ4
import Derived.Shelf.SlMaps.Clone
import Derived.Ground.SlmcProg
import Derived.Test.YthaildbjjlpdgaaGreatProg
set_option linter.unusedSimpArgs false
set_option linter.unusedVariables false
set_option maxRecDepth 10000
set_option maxHeartbeats 4000000
section
namespace Go.Proofs
open Go.Bi
def be(m:Nat):List UInt8:=[UInt8.ofNat (m / 16777216),UInt8.ofNat (m / 65536),UInt8.ofNat (m / 256),UInt8.ofNat m]
theorem be_len(m:Nat):(be m).length=4:=rfl
def putA4(A:List (List D))(lo m i:Nat):List (List D):=A.take lo++byteL ((be m).take i)++A.drop (lo+i)
theorem putA4_len{A:List (List D)}{lo m i:Nat}(h:lo+4<=A.length)(hi:i<=4):(putA4 A lo m i).length=A.length:=by
 simp[putA4,byteL_l,be_len];omega
theorem putA4_set{A:List (List D)}{lo m i:Nat}{c:UInt8}(h:lo+4<=A.length)(hc:(be m)[i]?=some c):(putA4 A lo m i).set (lo+i) [D.int .u8 c.toNat]=putA4 A lo m (i+1):=by
 have hi:i<4:=by have:=(List.getElem?_eq_some_iff.1 hc).1;rwa [be_len] at this
 have e1:(A.take lo++byteL ((be m).take i)).length=lo+i:=by simp[byteL_l,be_len];omega
 have e2:A.drop (lo+i)=(A[lo+i]'(by omega))::A.drop (lo+i+1):=List.drop_eq_getElem_cons (by omega)
 have e3:(putA4 A lo m i).set (lo+i) [D.int .u8 c.toNat]=(putA4 A lo m i).set ((A.take lo++byteL ((be m).take i)).length+0) [D.int .u8 c.toNat]:=by rw[e1];rfl
 rw[e3,putA4,List.set_append_right _ _ (by omega),Nat.add_zero,Nat.sub_self,e2,List.set_cons_zero,putA4,List.take_add_one,hc,byteL_app]
 simp[byteL,Nat.add_assoc]
theorem putA4_mem{A:List (List D)}{lo m i:Nat}(h:∀e∈A,e.length=1):∀e∈putA4 A lo m i,e.length=1:=by
 intro e he
 simp only[putA4,List.mem_append] at he
 rcases he with (he|he)|he
 ·exact h e (List.mem_of_mem_take he)
 ·exact byteL_1 _ e he
 ·exact h e (List.mem_of_mem_drop he)
theorem be_get{m i:Nat}(hm:m<4294967296)(hi:i<4):∃c,(be m)[i]?=some c/\IntKind.u8.wrap ((m:Int).fdiv (2 ^ (min (Int.toNat (24-8*i)) IntKind.u32.bits)))=(c.toNat:Int):=by
 have key:∀k:Nat,IntKind.u8.wrap ((m / k:Nat):Int)=(((UInt8.ofNat (m / k)).toNat:Nat):Int):=λk=>by rw[wrap_u8m,UInt8.toNat_ofNat'];omega
 match i,hi with
 |0,_=>
  refine⟨_,rfl,?_⟩
  rw[show(2:Int) ^ (min (Int.toNat (24-8*((0:Nat):Int))) IntKind.u32.bits)=((16777216:Nat):Int) from rfl,Int.fdiv_eq_ediv_of_nonneg _ (by decide),<- key]
  rfl
 |1,_=>
  refine⟨_,rfl,?_⟩
  rw[show(2:Int) ^ (min (Int.toNat (24-8*((1:Nat):Int))) IntKind.u32.bits)=((65536:Nat):Int) from rfl,Int.fdiv_eq_ediv_of_nonneg _ (by decide),<- key]
  rfl
 |2,_=>
  refine⟨_,rfl,?_⟩
  rw[show(2:Int) ^ (min (Int.toNat (24-8*((2:Nat):Int))) IntKind.u32.bits)=((256:Nat):Int) from rfl,Int.fdiv_eq_ediv_of_nonneg _ (by decide),<- key]
  rfl
 |3,_=>
  refine⟨_,rfl,?_⟩
  rw[show(2:Int) ^ (min (Int.toNat (24-8*((3:Nat):Int))) IntKind.u32.bits)=((1:Nat):Int) from rfl,Int.fdiv_eq_ediv_of_nonneg _ (by decide)]
  have:=key 1
  rw[Nat.div_one] at this
  rw[<- this]
  simp
theorem C.frame_put(A:List (List D))(lo n frz m:Nat)(hA:∀e∈A,e.length=1)(h1:4<=n)(h2:lo+n<=A.length)(h3:frz<=lo)(hm:m<4294967296)(hl:A.length<=1073741824) :
  CallSpec Tryz.prog N.frame_put [.sub 0 A.length lo n,.d (eU m)] [.arr A 1 frz false] (λr os=>r=.tup []/\os=[.arr (putA4 A lo m 4) 1 frz false]):=by
 obtain⟨L,hL⟩:∃L,L=A.length:=⟨_,rfl⟩
 rw[<- hL]
 refine F.frame_put.goX mixed rfl ?_
 repeat' first|refine st ?_|((with_reducible apply go_i);conv=>whnf)|refine⟨λ_=>?_,λ_=>?_⟩|fail
 refine x_loop2 mixed Lt.frame_put_l0 Lk.frame_put_l0 (λ(i:Nat) (Z:List (List D))=>[.d (eI i)]) (λi Z=>[.arr Z 1 frz false]) (λi Z=>i<=4/\Z=putA4 A lo m i) (λi Z=>4-i) 0 A rfl rfl rfl rfl (λ_ _ _=>⟨rfl,rfl⟩) rfl ⟨by omega,by simp[putA4,byteL]⟩ ?_
 repeat' first|refine st ?_|((with_reducible apply go_i);conv=>whnf)|refine⟨λ_=>?_,λ_=>?_⟩|fail
 intro i Z ⟨i1,i2⟩
 have hZl:Z.length=L:=by rw[i2,putA4_len (by omega) i1,hL]
 have hZm:∀e∈Z,e.length=1:=by rw[i2];exact putA4_mem hA
 by_cases hi:i<4
 ·obtain⟨c,hc,hw⟩:=be_get hm hi
  have hset:=putA4_set (A:=A) (lo:=lo) (by omega) hc
  rw[<- i2] at hset
  have hget:Z[lo+i]?=some Z[lo+i]:=List.getElem?_eq_getElem (by omega)
  have hg1:=hZm _ (List.mem_of_getElem? hget)
  generalize Z[lo+i]=e0 at *
  obtain⟨x0,rfl⟩:∃x,e0=[x]:=List.length_eq_one_iff.1 hg1
  repeat' first|refine st ?_|((with_reducible apply go_i);conv=>whnf)|refine⟨λ_=>?_,λ_=>?_⟩|fail
  all_goals exact⟨i+1,Z.set (lo+i) [.int .u8 _],rfl,rfl,rfl,by omega,by omega,by rw[hw];exact hset⟩
 ·have:i=4:=by omega
  subst this
  rw[i2]
  repeat' first|refine st ?_|((with_reducible apply go_i);conv=>whnf)|refine⟨λ_=>?_,λ_=>?_⟩|fail
  all_goals first|exact⟨rfl,rfl⟩|(exfalso;omega)
end Go.Proofs
end
section
namespace Go.Proofs
open Go.Bi
def orU(a b:Int):Int:=IntKind.u32.wrap ((BitVec.ofInt IntKind.u32.bits a|||BitVec.ofInt IntKind.u32.bits b).toNat:Nat)
def shU(c k:Int):Int:=IntKind.u32.wrap (IntKind.u32.wrap c*2 ^ (min (Int.toNat k) IntKind.u32.bits))
def getE(c0 c1 c2 c3:Int):Int:=orU (orU (orU (shU c0 24) (shU c1 16)) (shU c2 8)) (IntKind.u32.wrap c3)
theorem orU_eq{x b i:Nat}(hb:b<2 ^ i)(hx:x*2 ^ i+b<4294967296):orU ((x*2 ^ i:Nat):Int) (b:Int)=((x*2 ^ i+b:Nat):Int):=by
 unfold orU
 have h32:IntKind.u32.bits=32:=rfl
 rw[h32,or_bits (by omega) (by omega)]
 have:=Nat.shiftLeft_add_eq_or_of_lt hb x
 rw[Nat.shiftLeft_eq] at this
 rw[<- this]
 exact wrap_u32 (by omega) (by omega)
theorem getE_be{m:Nat}(hm:m<4294967296):getE (m / 16777216:Nat) (m / 65536 % 256:Nat) (m / 256 % 256:Nat) (m % 256:Nat)=m:=by
 have s0:shU (m / 16777216:Nat) 24=((m / 16777216*256*2 ^ 16:Nat):Int):=by
  unfold shU
  rw[show(2:Int) ^ (min (Int.toNat 24) IntKind.u32.bits)=16777216 from rfl,wrap_u32 (n:=((m / 16777216:Nat):Int)) (by omega) (by omega),wrap_u32 (by omega) (by omega)]
  omega
 have s1:shU (m / 65536 % 256:Nat) 16=((m / 65536 % 256*65536:Nat):Int):=by
  unfold shU
  rw[show(2:Int) ^ (min (Int.toNat 16) IntKind.u32.bits)=65536 from rfl,wrap_u32 (n:=((m / 65536 % 256:Nat):Int)) (by omega) (by omega),wrap_u32 (by omega) (by omega)]
  omega
 have s2:shU (m / 256 % 256:Nat) 8=((m / 256 % 256*256:Nat):Int):=by
  unfold shU
  rw[show(2:Int) ^ (min (Int.toNat 8) IntKind.u32.bits)=256 from rfl,wrap_u32 (n:=((m / 256 % 256:Nat):Int)) (by omega) (by omega),wrap_u32 (by omega) (by omega)]
  omega
 unfold getE
 rw[s0,s1,s2,wrap_u32 (n:=(m % 256:Nat)) (by omega) (by omega)]
 have o1:=orU_eq (x:=m / 16777216) (b:=m / 65536 % 256*65536) (i:=24) (by omega) (by omega)
 rw[show m / 16777216*256*2 ^ 16=m / 16777216*2 ^ 24 by omega,o1]
 have o2:=orU_eq (x:=m / 65536) (b:=m / 256 % 256*256) (i:=16) (by omega) (by omega)
 rw[show m / 16777216*2 ^ 24+m / 65536 % 256*65536=m / 65536*2 ^ 16 by omega,o2]
 have o3:=orU_eq (x:=m / 256) (b:=m % 256) (i:=8) (by omega) (by omega)
 rw[show m / 65536*2 ^ 16+m / 256 % 256*256=m / 256*2 ^ 8 by omega,o3]
 omega
theorem C.frame_get(z:List (List D))(m:Nat)(hm:m<4294967296)(hz:z.take 4=byteL (be m))(h1:∀e∈z,e.length=1):Pure Tryz.prog N.frame_get [.d (.sl z)] (.d (eU m)):=by
 have hl:4<=z.length:=by
  have:=congrArg List.length hz
  rw[List.length_take,byteL_l,be_len] at this
  omega
 have hg:∀i,i<4->z[i]?=(byteL (be m))[i]?:=λi hi=>by rw[<- hz,List.getElem?_take,if_pos hi]
 have b1:∀k:Nat,((UInt8.ofNat k).toNat:Int)=((k % 256:Nat):Int):=λk=>by rw[UInt8.toNat_ofNat']
 have g0:z[0]?=some [.int .u8 ((m / 16777216:Nat):Int)]:=by rw[hg 0 (by omega)];simp only[byteL,be,List.map_cons,List.getElem?_cons_zero];rw[b1];congr 3;omega
 have g1:z[1]?=some [.int .u8 ((m / 65536 % 256:Nat):Int)]:=by rw[hg 1 (by omega)];simp only[byteL,be,List.map_cons,List.getElem?_cons_zero,List.getElem?_cons_succ];rw[b1]
 have g2:z[2]?=some [.int .u8 ((m / 256 % 256:Nat):Int)]:=by rw[hg 2 (by omega)];simp only[byteL,be,List.map_cons,List.getElem?_cons_zero,List.getElem?_cons_succ];rw[b1]
 have g3:z[3]?=some [.int .u8 ((m % 256:Nat):Int)]:=by rw[hg 3 (by omega)];simp only[byteL,be,List.map_cons,List.getElem?_cons_zero,List.getElem?_cons_succ];rw[b1]
 have hE:=getE_be hm
 generalize m / 16777216=n0 at *
 generalize m / 65536 % 256=n1 at *
 generalize m / 256 % 256=n2 at *
 generalize m % 256=n3 at *
 rw[<- hE]
 clear hE hz hg b1
 refine F.frame_get.go mixed rfl ?_
 repeat' first|refine st ?_|((with_reducible apply go_i);conv=>whnf)|refine⟨λ_=>?_,λ_=>?_⟩|fail
 all_goals rfl
end Go.Proofs
end
section
namespace Go.Proofs
open Go.Bi
def sumN(b:List UInt8):Nat:=(sumU (be b.length) b).toNat
def fr(b:List UInt8):List UInt8:=be b.length++be (sumN b)++b
theorem fr_len(b:List UInt8):(fr b).length=8+b.length:=by
 rw[fr,List.length_append,List.length_append,be_len,be_len]
theorem notU_rng(n:Int):0<=notU n/\notU n<4294967296:=by
 unfold notU
 rw[wrap_u32m]
 omega
theorem sumN_eq(b:List UInt8):sumU (be b.length) b=(sumN b:Int):=by
 have:=notU_rng (updU (updU 4294967295 (be b.length)) b)
 unfold sumN sumU
 omega
theorem sumN_lt(b:List UInt8):sumN b<4294967296:=by
 have:=notU_rng (updU (updU 4294967295 (be b.length)) b)
 unfold sumN sumU
 omega
theorem C.frame_Append(b:List UInt8)(hb:b.length<=1048576):Pure Tryz.prog N.frame_Append [.d .nil,.d (.sl (byteL b))] (.tup [.d (.sl (byteL (fr b))),.d (eI 0)]):=by
 have hbl:=byteL_l b
 have hb1:=byteL_1 b
 obtain⟨A0,hA0⟩:∃A,A=List.replicate (8+b.length) [D.int .u8 0]:=⟨_,rfl⟩
 have l0:A0.length=8+b.length:=by rw[hA0];simp
 have o0:∀e∈A0,e.length=1:=by
  rw[hA0]
  intro e he
  rw[List.eq_of_mem_replicate he];rfl
 have e0:A0.take 0++([]:List (List D)).take A0.length++A0.drop (0+min ([]:List (List D)).length A0.length)=A0:=by simp
 have p1:=C.frame_put A0 0 A0.length 0 b.length o0 (by omega) (by omega) (Nat.le_refl _) (by omega) (by omega)
 obtain⟨A1,hA1⟩:∃A,A=putA4 A0 0 b.length 4:=⟨_,rfl⟩
 rw[<- hA1] at p1
 have l1:A1.length=A0.length:=by rw[hA1,putA4_len (by omega) (by omega)]
 have o1:∀e∈A1,e.length=1:=by rw[hA1];exact putA4_mem o0
 have p1:=CallSpec.frzP (id:=0) (osf:=λo=>[o]) 4 (Nat.zero_le _) (by omega) rfl rfl p1
 have hS:=C.frame_sum (be b.length) b (by rw[be_len];omega) (by omega)
 rw[sumN_eq] at hS
 have p2:=C.frame_put A1 4 (A0.length-4) 4 (sumN b) o1 (by omega) (by omega) (Nat.le_refl _) (sumN_lt b) (by omega)
 obtain⟨A2,hA2⟩:∃A,A=putA4 A1 4 (sumN b) 4:=⟨_,rfl⟩
 rw[<- hA2,l1] at p2
 have l2:A2.length=A0.length:=by rw[hA2,putA4_len (by omega) (by omega),l1]
 have o2:∀e∈A2,e.length=1:=by rw[hA2];exact putA4_mem o1
 have h4:(A1.drop 0).take 4=byteL (be b.length):=by
  rw[List.drop_zero,hA1,putA4,List.take_zero,List.nil_append,List.take_append_of_le_length (by rw[byteL_l];simp[be_len])]
  rw[List.take_of_length_le (by simp[byteL_l,be_len])]
  rfl
 have h8:A2.take 8=byteL (be b.length++be (sumN b)):=by
  have e1:A1.take 4=byteL (be b.length):=h4
  rw[hA2,putA4,e1,<- byteL_app,show(be (sumN b)).take 4=be (sumN b) from rfl,List.take_append_of_le_length (by rw[byteL_l];simp[be_len])]
  rw[List.take_of_length_le (by simp[byteL_l,be_len])]
 have hfin:∀n,n=b.length->A2.take 8++(byteL b).take n++A2.drop (8+min (byteL b).length n)=byteL (fr b):=by
  intro n hn
  subst hn
  rw[h8,List.take_of_length_le (by omega),List.drop_eq_nil_of_le (by omega),List.append_nil,<- byteL_app]
  rfl
 have hW:IntKind.u32.wrap ((byteL b).length:Int)=(b.length:Nat):=by rw[hbl];exact wrap_u32 (by omega) (by omega)
 have hfl:=fr_len b
 have hfbl:=byteL_l (fr b)
 rw[<- h4] at hS
 have hn0:([]:List (List D)).length=0:=rfl
 have hrep:List.replicate (Int.toNat ((([]:List (List D)).length:Int)+8+(byteL b).length)) [D.int .u8 0]=A0:=by
  rw[hA0];congr 1;rw[hbl,hn0];omega
 clear h8 hA2 hA1 hA0 h4
 generalize byteL b=z at *
 generalize byteL (fr b)=zf at *
 generalize (sumN b)=sN at *
 refine CallSpec.deepP (Q:=λr os=>r=.tup [.arr 0 zf.length,.d (eI 0)]/\os[0]?=some (.arr zf 1 4 false)) ?_ (λr os hq=>?_)
 ·refine F.frame_Append.goO2 mixed rfl ?_
  repeat' first|(rw[hrep])|(rw[e0])|(rw[hW])|refine st ?_|((with_reducible apply go_i);conv=>whnf)|((with_reducible first|apply k_nc|apply k_cs);(·first|exact p1|exact p2);(try rintro _ _ ⟨rfl,rfl⟩))|((with_reducible apply k_pr);(·first|exact p1|exact p2))|refine⟨λ_=>?_,λ_=>?_⟩|fail
  all_goals
   have h9:=hfin (A0.length-8) (by omega)
   refine⟨by rw[show zf.length=A0.length by omega],?_⟩
   show some (AO.arr (A2.take 8++z.take (A0.length-8)++A2.drop (8+min z.length (A0.length-8))) 1 4 false)=_
   rw[h9]
 ·obtain⟨rfl,h2⟩:=hq
  refine .inr ⟨_,_,rfl,rfl,rfl,λj c y hc hy=>?_⟩
  match j,hc,hy with
  |0,hc,hy=>cases hc;cases hy;exact .inl ⟨_,.inl (.inr ⟨0,_,_,_,_,rfl,h2,rfl⟩),rfl⟩
  |1,hc,hy=>cases hc;cases hy;exact .inl ⟨_,.inl (.inl rfl),rfl⟩
  |j+2,hc,hy=>simp at hc
end Go.Proofs
end
section
namespace Go.Bi
open Go
section
variable {P:Program}{n nb:Nat}{M:Mem}{G:Gh}{os:List AO}{w:World}{ρ:Rho}{a:Act}
def retOI3(Q:AV->List AO->Prop)(rs:List RV)(ρ:Rho)(os:List AO):Prop:=resI ρ os rs λl=>match l with
 |[x,y,z]=>x.one=true/\y.one=true/\z.one=true/\Q (.tup [x,y,z]) os
 |_=>False
def retO3(Q:AV->List AO->Prop)(rs:List RV)(L:Sl)(os:List AO):Prop:=xRes L os rs λl=>match l with
 |[x,y,z]=>Chk (x.one=true) (Chk (y.one=true) (Chk (z.one=true) (Q (.tup [x,y,z]) os)))
 |_=>False
theorem resI_mono3{ρ:Rho}{os:List AO}{K K':List AV->Prop}(hk:∀l,K l->K' l):∀{rs:List RV},resI ρ os rs K->resI ρ os rs K'
 |[],h=>hk _ h
 |.t s::rs,h=>resI_mono3 (rs:=rs) (λl hl=>hk _ hl) h
 |.cell s m g::rs,h=>by
  simp only[resI] at h ⊢
  obtain⟨r,h1,h2⟩:=loadI_iff h
  exact h2 _ (resI_mono3 (rs:=rs) (λl hl=>hk _ hl) h1)
theorem retO3_ok{Q:AV->List AO->Prop}{rs:List RV}{L:Sl}{os:List AO}(h:retO3 Q rs L os):retOI3 Q rs (ofL L) os:=by
 have h1:=xRes_ok h
 refine resI_mono3 (λl hl=>?_) h1
 match l,hl with
 |[x,y,z],hl=>exact⟨hl.1,hl.2.1,hl.2.2.1,hl.2.2.2⟩
theorem own_ok3{c:Ctx}(hR:Rel n nb c M G os w ρ a){fn:Func}{rs:List RV}(hrs:fn.results.toList.mapM (cRV P)=some rs){Q:AV->List AO->Prop}(h:retOI3 Q rs ρ os) :
  ∃v,(results fn a.tmps).run P w=.ok v w/\∃M' G' r os',Env M' G' os' w/\Since c.M c.G c.os c.w M' G' os' w/\VA M' G' os' r v/\Q r os':=by
 obtain⟨l,vs,h1,h2,h3,h4⟩:=resI_run hR.env hR.tmps _ rs hrs _ h
 match l,h1,h3,h4 with
 |[x,y,z],h1,h3,h4=>
  simp only[List.length_cons,List.length_nil] at h3
  refine⟨_,run_results h2,M,G,.tup [x,y,z],os,hR.env,hR.since,?_,h1.2.2.2⟩
  rw[dif_neg (by omega)]
  refine⟨vs.toArray,rfl,by simpa using h3,λj c u hc hu=>?_⟩
  have hu:vs[j]?=some u:=by simpa using hu
  match j,hc with
  |0,hc=>cases hc;exact one_vg (h4 0 _ u rfl hu) h1.1
  |1,hc=>cases hc;exact one_vg (h4 1 _ u rfl hu) h1.2.1
  |2,hc=>cases hc;exact one_vg (h4 2 _ u rfl hu) h1.2.2.1
  |j+3,hc=>simp at hc
theorem fn_own3(hm:P.follows .mixedOrders=true){f:FuncId}{fn:Func}{code:Code}{ic:IC}{rs:List RV}(hf:P.funcs[f]?=some fn)(hname:fn.name≠ "runtime.NumGoroutine")(hb:fn.body=some code)(hc:cC P fn.ntmps code=some ic)
  (hrs:fn.results.toList.mapM (cRV P)=some rs) {args:List AV} {bs:List AO} (hargs:args.length<=fn.ntmps) {Q:AV->List AO->Prop}
  (h:wpI P fn.ntmps bs.length ic {norm:=retOI3 Q rs,exit:=λ_ _ _=>False,ret:=retOI3 Q rs} (argsRho args) bs):CallSpec P f args bs Q:=by
 refine⟨⟨fn,hf,by rw[hb];rfl,hname⟩,λM G w vs he hl hv=>?_⟩
 refine calls_of_wp hf hb (wp_mono (wpI_tri hm code ic hc _ _ _ h ⟨M,G,bs,w⟩ M G w {tmps:=vs++Array.replicate (fn.ntmps-vs.size) undef,defers:=[]} ?_) λe a' w' hp=>?_)
 ·exact {
   env:=he,since:=Since.refl ..,size:=by simp;omega,defers:=rfl,base:=rfl
   tmps:=λt=>by
    unfold argsRho
    by_cases ht:t<args.length
    ·have h1:(vs++Array.replicate (fn.ntmps-vs.size) undef).getD t undef=vs[t]:=by
      simp[Array.getElem?_append_left (show t<vs.size by omega),show t<vs.size by omega]
     have h2:args.getD t .junk=args[t]:=by simp[ht]
     show VA M G bs (args.getD t .junk) ((vs++Array.replicate (fn.ntmps-vs.size) undef).getD t undef)
     rw[h1,h2]
     have:=hv t args[t] vs[t] (List.getElem?_eq_getElem ht) (Array.getElem?_eq_getElem (by omega))
     generalize args[t]=c at this
     cases c with
     |tup cs=>exact this.elim
     |junk=>trivial
     |_=>exact this
    ·have:args.getD t .junk=.junk:=by simp[List.getD_eq_getElem?_getD,List.getElem?_eq_none (Nat.le_of_not_lt ht)]
     rw[this]
     trivial}
 ·have fin:Fits fn.ntmps bs.length ⟨M,G,bs,w⟩ (retOI3 Q rs) a' w'->a'.defers=[]/\∃v,(results fn a'.tmps).run P w'=.ok v w'/\∃v',Ending.returned v=.returned v'/\∃M' G' r os',Env M' G' os' w'/\Since M G bs w M' G' os' w'/\VA M' G' os' r v'/\Q r os':=by
   rintro⟨M',G',os',ρ',hR,hk⟩
   obtain⟨v,h1,h2⟩:=own_ok3 hR hrs hk
   exact⟨hR.defers,v,h1,v,rfl,h2⟩
  cases e with
  |normal=>exact fin hp
  |ret=>exact fin hp
  |exit id=>obtain⟨_,_,_,_,_,hk⟩:=hp;exact hk.elim
  |_=>exact hp.elim
end
theorem IsFn.goO3{P:Program}(hm:P.follows .mixedOrders=true){f n:Nat}{ic:IC}{rs:List RV}(h:IsFn P f n ic rs){args:List AV}{bs:List AO}(hargs:Nat.ble args.length n=true){Q:AV->List AO->Prop}
  (hw:Go (xI P n bs.length ic (retO3 Q rs) (λ_ _ _=>False) (retO3 Q rs) (argsL 0 args) bs)):CallSpec P f args bs Q:=by
 obtain⟨fn,h1,h2,h3,h4,h5⟩:=h
 obtain⟨code,hb,hc⟩:=Option.bind_eq_some_iff.1 h4
 subst h2
 refine fn_own3 hm h1 (by simpa using h3) hb hc h5 (Nat.le_of_ble_eq_true hargs) ?_
 rw[ofL_args]
 exact xI_ok (K:=⟨retO3 Q rs,λ_ _ _=>False,retO3 Q rs⟩) ⟨λL os h=>retO3_ok h,λ_ _ _ h=>h,λL os h=>retO3_ok h⟩ hw
end Go.Bi
end
section
namespace Go.Proofs
open Go.Bi
theorem C.frame_Next(B:List UInt8)(hB:B.length<=1073741824)(at_:Nat)(b:List UInt8)(hb:b.length<=1048576)(post:List UInt8)(hd:B.drop at_=fr b++post) :
  Pure Tryz.prog N.frame_Next [.d (.sl (byteL B)),.d (eI at_)] (.tup [.d (.sl (byteL b)),.d (eI (at_+(fr b).length:Nat)),.d (eI 0)]):=by
 have hfl:=fr_len b
 have hle:(fr b).length+post.length=B.length-at_:=by
  have:=congrArg List.length hd
  rw[List.length_drop,List.length_append] at this
  omega
 have hbl:=byteL_l B
 have hb1:=byteL_1 B
 obtain⟨Zf,hZf⟩:∃z,z=byteL (fr b++post):=⟨_,rfl⟩
 have hcut:((byteL B).drop ((at_:Nat):Int).toNat).take (((byteL B).length:Int).toNat-((at_:Nat):Int).toNat)=Zf:=by
  show((byteL B).drop at_).take ((byteL B).length-at_)=Zf
  rw[List.take_of_length_le (by simp),hZf,<- hd]
  simp[byteL,List.map_drop]
 have f1:=byteL_1 (fr b++post)
 have fl:=byteL_l (fr b++post)
 rw[List.length_append] at fl
 rw[<- hZf] at f1 fl
 have k4:Zf.take 4=byteL (be b.length):=by
  rw[hZf,fr,List.append_assoc,List.append_assoc,byteL_app,List.take_append_of_le_length (by rw[byteL_l];simp[be_len]),List.take_of_length_le (by rw[byteL_l];simp[be_len])]
 have d4:Zf.drop 4=byteL (be (sumN b)++b++post):=by
  rw[hZf,fr,List.append_assoc,List.append_assoc,byteL_app,List.drop_left' (by rw[byteL_l];simp[be_len]),List.append_assoc]
 have d8:Zf.drop 8=byteL (b++post):=by
  rw[show(8:Nat)=4+4 from rfl,<- List.drop_drop,d4,List.append_assoc,byteL_app,List.drop_left' (by rw[byteL_l];simp[be_len])]
 have g1:=C.frame_get Zf b.length (by omega) k4 f1
 have g2:=C.frame_get (Zf.drop 4) (sumN b) (sumN_lt b) (by rw[d4,List.append_assoc,byteL_app,List.take_append_of_le_length (by rw[byteL_l];simp[be_len]),List.take_of_length_le (by rw[byteL_l];simp[be_len])]) (λe he=>f1 e (List.mem_of_mem_drop he))
 have hS:=C.frame_sum (be b.length) b (by rw[be_len];omega) (by omega)
 rw[sumN_eq,<- k4] at hS
 have k8:(Zf.drop 8).take b.length=byteL b:=by
  rw[d8,byteL_app,List.take_append_of_le_length (by rw[byteL_l];omega),List.take_of_length_le (by rw[byteL_l];omega)]
 rw[<- k8] at hS ⊢
 have hw:IntKind.i64.wrap (b.length:Int)=b.length:=wrap64 (by omega) (by omega)
 have t4:List.take ((Zf.length:Int).toNat-Int.toNat 4) (List.drop (Int.toNat 4) Zf)=Zf.drop 4:=by
  show List.take (Zf.length-4) (List.drop 4 Zf)=_
  rw[List.take_of_length_le (by simp)]
 have t8:List.take (Int.toNat (8+(b.length:Int))-Int.toNat 8) (List.drop (Int.toNat 8) Zf)=(Zf.drop 8).take b.length:=by
  show List.take (Int.toNat (8+(b.length:Int))-8) (List.drop 8 Zf)=_
  congr 1
  omega
 have t9:List.take ((Zf.length:Int).toNat-Int.toNat 8) (List.drop (Int.toNat 8) Zf)=Zf.drop 8:=by
  show List.take (Zf.length-8) (List.drop 8 Zf)=_
  rw[List.take_of_length_le (by simp)]
 have hz8:∀e∈Zf.drop 8,e.length=1:=λe he=>f1 e (List.mem_of_mem_drop he)
 have lz8:(Zf.drop 8).length=Zf.length-8:=List.length_drop
 clear hZf d4 d8
 generalize byteL B=z at *
 generalize sumN b=sN at *
 refine CallSpec.deepP (Q:=λr os=>r=.tup [.arr 0 b.length,.d (eI (at_+(fr b).length:Nat)),.d (eI 0)]/\os[0]?=some (.arr ((Zf.drop 8).take b.length) 1 0 false)) ?_ (λr os hq=>?_)
 ·refine F.frame_Next.goO3 mixed rfl ?_
  repeat' first|(rw[hcut])|(rw[hw])|(rw[t4])|(rw[t8])|(rw[t9])|refine st ?_|((with_reducible apply go_i);conv=>whnf)|((with_reducible apply k_pc);(·first|exact g2|exact hS|exact g1))|((with_reducible apply k_pn);(·first|exact g2|exact hS|exact g1))|refine⟨λ_=>?_,λ_=>?_⟩|fail
  all_goals
   have hr:(List.replicate b.length [D.int .u8 0]).length=b.length:=by simp
   refine⟨?_,?_⟩
   ·show AV.tup [.arr 0 (List.replicate b.length [D.int .u8 0]).length,_,_]=_
    rw[hr,show((at_:Int)+8+b.length)=((at_+(fr b).length:Nat):Int) by omega]
   ·show some (AO.arr (List.take 0 (List.replicate b.length [D.int .u8 0])++List.take (List.replicate b.length [D.int .u8 0]).length (List.drop 8 Zf)++List.drop (0+min (List.drop 8 Zf).length (List.replicate b.length [D.int .u8 0]).length) (List.replicate b.length [D.int .u8 0])) 1 0 false)=_
    have hdn:List.drop (0+min (List.drop 8 Zf).length b.length) (List.replicate b.length [D.int .u8 0])=[]:=List.drop_eq_nil_of_le (by rw[hr];omega)
    rw[hr,List.take_zero,List.nil_append,hdn,List.append_nil]
 ·obtain⟨rfl,h2⟩:=hq
  have hkl:((Zf.drop 8).take b.length).length=b.length:=by rw[k8,byteL_l]
  refine .inr ⟨_,_,rfl,rfl,rfl,λj c y hc hy=>?_⟩
  match j,hc,hy with
  |0,hc,hy=>cases hc;cases hy;exact .inl ⟨_,.inl (.inr ⟨0,_,_,_,_,by rw[hkl],h2,rfl⟩),rfl⟩
  |1,hc,hy=>cases hc;cases hy;exact .inl ⟨_,.inl (.inl rfl),rfl⟩
  |2,hc,hy=>cases hc;cases hy;exact .inl ⟨_,.inl (.inl rfl),rfl⟩
  |j+3,hc,hy=>simp at hc
end Go.Proofs
end
section
namespace Go.Proofs
open Go.Bi
theorem C.frame_Next_end(d:D)(B:List UInt8)(hB:B.length<=1073741824)(hdd:SlD d (byteL B))(at_:Nat)(hat:at_<=B.length)(t b:List UInt8)(hb:b.length<=1048576)(hd:B.drop at_=t)(ht:t=(fr b).take t.length)(hs:t.length<(fr b).length) :
  Pure Tryz.prog N.frame_Next [.d d,.d (eI at_)] (.tup [.d .nil,.d (eI 0),.d (eI 2)]):=by
 have hbl:=byteL_l B
 have hb1:=byteL_1 B
 have hfl:=fr_len b
 have hle:t.length=B.length-at_:=by
  have:=congrArg List.length hd
  rw[List.length_drop] at this
  omega
 obtain⟨Zf,hZf⟩:∃z,z=byteL t:=⟨_,rfl⟩
 have hcut:((byteL B).drop ((at_:Nat):Int).toNat).take (((byteL B).length:Int).toNat-((at_:Nat):Int).toNat)=Zf:=by
  show((byteL B).drop at_).take ((byteL B).length-at_)=Zf
  rw[List.take_of_length_le (by simp),hZf,<- hd]
  simp[byteL,List.map_drop]
 have f1:=byteL_1 t
 have fl:=byteL_l t
 rw[<- hZf] at f1 fl
 have hw:IntKind.i64.wrap (b.length:Int)=b.length:=wrap64 (by omega) (by omega)
 rcases hdd with ⟨rfl,hnil⟩|rfl
 ·have hz:at_=0:=by rw[hnil] at hbl;simp at hbl;omega
  subst hz
  refine F.frame_Next.go mixed rfl ?_
  repeat' first|refine st ?_|((with_reducible apply go_i);conv=>whnf)|refine⟨λ_=>?_,λ_=>?_⟩|fail
  all_goals first|rfl|(exfalso;omega)
 ·by_cases h8:t.length<8
  ·clear hZf
   generalize byteL B=z at *
   refine F.frame_Next.go mixed rfl ?_
   repeat' first|(rw[hcut])|refine st ?_|((with_reducible apply go_i);conv=>whnf)|refine⟨λ_=>?_,λ_=>?_⟩|fail
   all_goals first|rfl|(exfalso;omega)
  ·have k4:Zf.take 4=byteL (be b.length):=by
    have e:t.take 4=be b.length:=by
     rw[ht,List.take_take,Nat.min_eq_left (by omega),fr,List.append_assoc,List.take_append_of_le_length (by rw[be_len];omega)]
     rfl
    rw[hZf,<- e]
    simp[byteL,List.map_take]
   have g1:=C.frame_get Zf b.length (by omega) k4 f1
   clear hZf
   generalize byteL B=z at *
   refine F.frame_Next.go mixed rfl ?_
   repeat' first|(rw[hcut])|(rw[hw])|refine st ?_|((with_reducible apply go_i);conv=>whnf)|refine⟨λ_=>?_,λ_=>?_⟩|fail
   all_goals first|rfl|(exfalso;omega)
end Go.Proofs
end
section
namespace Go.Proofs
open Go.Bi
def eBs(l:List (List UInt8)):List (List D):=l.map λb=>[.sl (byteL b)]
theorem eBs_len(l:List (List UInt8)):(eBs l).length=l.length:=by simp[eBs]
theorem eBs_get{l:List (List UInt8)}{i:Nat}{b:List UInt8}(h:l[i]?=some b):(eBs l)[i]?=some [.sl (byteL b)]:=by simp[eBs,h]
theorem eBs_mem(l:List (List UInt8)):∀e∈eBs l,e.length=1:=by
 intro e he
 obtain⟨x,_,rfl⟩:=List.mem_map.1 he
 rfl
theorem C.frame_Scan(d:D)(l:List (List UInt8))(t b:List UInt8)(hl:∀x∈l,x.length<=1048576)(hb:b.length<=1048576)(ht:t=(fr b).take t.length)(hs:t.length<(fr b).length)
  (hB:(l.flatMap fr++t).length<=1073741824) (hdd:SlD d (byteL (l.flatMap fr++t))) :
  Pure Tryz.prog N.frame_Scan [.d d] (.tup [.d (ng true (eBs l)),.d (eI (l.flatMap fr).length)]):=by
 obtain⟨B,hBe⟩:∃B,B=l.flatMap fr++t:=⟨_,rfl⟩
 rw[<- hBe] at hB hdd
 have hlen:l.length<=134217728:=by
  have:∀m:List (List UInt8),8*m.length<=(m.flatMap fr).length:=by
   intro m
   induction m with
   |nil=>simp
   |cons x m ih=>
    rw[List.flatMap_cons,List.length_append,fr_len,List.length_cons]
    omega
  have h1:=this l
  have h2:=congrArg List.length hBe
  rw[List.length_append] at h2
  omega
 have hN:=λ(at_:Nat) (b post:List UInt8) (hb:b.length<=1048576) (hd:B.drop at_=fr b++post)=>C.frame_Next B hB at_ b hb post hd
 have hE:=C.frame_Next_end d B hB hdd (l.flatMap fr).length (by rw[hBe,List.length_append];omega) t b hb (by rw[hBe,List.drop_left]) ht hs
 have hdr:∀(i:Nat) x,l[i]?=some x->B.drop ((l.take i).flatMap fr).length=fr x++((l.drop (i+1)).flatMap fr++t):=by
  intro i x hx
  rw[hBe,flat_split hx,List.append_assoc,List.drop_left,List.append_assoc]
 have hfl:∀i,((l.take i).flatMap fr).length<=B.length:=by
  intro i
  have:=flat_le fr l i
  rw[hBe,List.length_append]
  omega
 clear hBe ht hs
 rcases hdd with ⟨rfl,hnil⟩|rfl
 ·have hl0:l=[]:=by
   cases l with
   |nil=>rfl
   |cons x l=>
    have h1:=hdr 0 x rfl
    have h2:B=[]:=by
     have:=congrArg List.length hnil
     rw[byteL_l] at this
     exact List.length_eq_zero_iff.1 this
    have:=congrArg List.length h1
    rw[h2,List.length_append,fr_len] at this
    simp at this
    omega
  subst hl0
  refine F.frame_Scan.go mixed rfl ?_
  repeat' first|refine st ?_|((with_reducible apply go_i);conv=>whnf)|refine⟨λ_=>?_,λ_=>?_⟩|fail
  refine x_loop1 mixed Lt.frame_Scan_l0 Lk.frame_Scan_l0 (λ(i:Nat)=>[.d .nil,.d (eI 0)]) (λi=>[]) (λi=>True) (λi=>0) 0 rfl rfl rfl rfl (λ_ _=>⟨rfl,rfl⟩) rfl trivial ?_
  repeat' first|refine st ?_|((with_reducible apply go_i);conv=>whnf)|refine⟨λ_=>?_,λ_=>?_⟩|fail
  intro i _
  repeat' first|refine st ?_|((with_reducible apply go_i);conv=>whnf)|refine⟨λ_=>?_,λ_=>?_⟩|fail
  all_goals rfl
 ·refine CallSpec.deepP (Q:=λr os=>r=.tup [.arr 0 (eBs l).length,.d (eI (l.flatMap fr).length)]/\os[0]?=some (.arr (eBs l) 1 0 (eBs l).isEmpty)) ?_ (λr os hq=>?_)
  ·have hN':∀(i:Nat) x,l[i]?=some x->Pure Tryz.prog N.frame_Next [.d (.sl (byteL B)),.d (eI ((l.take i).flatMap fr).length)] (.tup [.d (.sl (byteL x)),.d (eI ((l.take (i+1)).flatMap fr).length),.d (eI 0)]):=by
    intro i x hx
    have:=hN _ x _ (hl x (List.mem_of_getElem? hx)) (hdr i x hx)
    rw[flat_take hx,List.length_append]
    exact this
   clear hN
   generalize byteL B=z at *
   refine F.frame_Scan.goO2 mixed rfl ?_
   repeat' first|refine st ?_|((with_reducible apply go_i);conv=>whnf)|refine⟨λ_=>?_,λ_=>?_⟩|fail
   refine x_nil 4 1 rfl rfl ?_
   refine x_loop3 mixed Lt.frame_Scan_l0 Lk.frame_Scan_l0 (λ(i q:Nat) (A:List (List D))=>[.arr 0 A.length,.d (eI q)]) (λi q A=>[.arr A 1 0 A.isEmpty]) (λi q A=>i<=l.length/\q=((l.take i).flatMap fr).length/\A=eBs (l.take i)) (λi q A=>l.length-i) 0 0 [] rfl rfl rfl rfl (λ_ _ _ _=>⟨rfl,rfl⟩) rfl ⟨by omega,by simp,by simp[eBs]⟩ ?_
   repeat' first|refine st ?_|((with_reducible apply go_i);conv=>whnf)|refine⟨λ_=>?_,λ_=>?_⟩|fail
   intro i q A ⟨i1,i2,i3⟩
   have hAl:A.length=i:=by rw[i3,eBs_len];simp;omega
   cases hc:l[i]? with
   |some x=>
    have hlt:=(List.getElem?_eq_some_iff.1 hc).1
    have hx:=hN' i x hc
    rw[<- i2] at hx
    have hAx:A++[[.sl (byteL x)]]=eBs (l.take (i+1)):=by
     rw[i3,List.take_add_one]
     simp[eBs,hc]
    obtain⟨q',hq'⟩:∃q,q=((l.take (i+1)).flatMap fr).length:=⟨_,rfl⟩
    rw[<- hq'] at hx
    generalize byteL x=zx at *
    repeat' first|((with_reducible apply k_lk2))|refine st ?_|((with_reducible apply go_i);conv=>whnf)|refine⟨λ_=>?_,λ_=>?_⟩|fail
    all_goals exact⟨i+1,q',A++[_],by simp,by simp,by simp,by omega,by omega,hq',hAx⟩
   |none=>
    have hge:=List.getElem?_eq_none_iff.1 hc
    rw[List.take_of_length_le hge] at i2 i3
    rw[<- i2] at hE
    rw[<- i2,<- i3]
    repeat' first|refine st ?_|((with_reducible apply go_i);conv=>whnf)|refine⟨λ_=>?_,λ_=>?_⟩|fail
    all_goals exact⟨rfl,rfl⟩
  ·obtain⟨rfl,h2⟩:=hq
   refine .inr ⟨_,_,rfl,rfl,rfl,λj c y hc hy=>?_⟩
   match j,hc,hy with
   |0,hc,hy=>cases hc;cases hy;exact .inl ⟨_,.inl (.inr ⟨0,_,_,_,_,rfl,h2,by unfold slD ng;simp⟩),rfl⟩
   |1,hc,hy=>cases hc;cases hy;exact .inl ⟨_,.inl (.inl rfl),rfl⟩
   |j+2,hc,hy=>simp at hc
end Go.Proofs
end
section
namespace Go.Proofs
open Go.Shelf
def Tryz.cloneM_ren:Go.Shelf.Ren:=⟨fun|5=>93|7=>137|n=>n,fun|23=>50|25=>9|3=>33|4=>4|20=>20|n=>n,fun|n=>n⟩
theorem Tryz.cloneM:Go.Proofs.SlLaysW.n5 Tryz.prog Tryz.cloneM_ren:={
 mixed:=by kernel_rfl
 f5:=⟨Tryz.f93.name,by decide,Tryz.func93.trans (congrArg some (by kernel_rfl))⟩
 f7:=Tryz.func137.trans (congrArg some (by kernel_rfl))
 t4:=Tryz.underlying4
 a4:=Tryz.isAgg4
 z4:=Tryz.sizeOf4
 v4:=Tryz.zeroValue4
 t20:=Tryz.underlying20
 a20:=Tryz.isAgg20
 z20:=Tryz.sizeOf20
 v20:=Tryz.zeroValue20
 t23:=Tryz.underlying50
 a23:=Tryz.isAgg50
 z23:=Tryz.sizeOf50
 v23:=Tryz.zeroValue50}
end Go.Proofs
end
section
namespace Go.Proofs
theorem clone_calls(b:Nat)(es:Array MapEntry)(clock:Nat)(w:World)(hb:w.heap[b]?=some (.map es clock)) :
  Calls Tryz.prog 93 #[.map (some b)] w λe w'=>e=.returned (.map (some w.heap.size))/\w'=w.alloc (.map es clock):=
 AnyW.maps_Clone Tryz.cloneM b es clock w hb
end Go.Proofs
namespace Go.Bi
open Go Go.Proofs
theorem C.maps_Clone(kvs:List (D×AV))(hd:∀p∈kvs,∃x,p.2=.d x):CallSpec Tryz.prog 93 [.mp 0] [.map kvs] (λr os=>r=.mp 1/\os=[.map kvs,.map kvs]):=by
 refine⟨⟨_,Tryz.func93,by kernel_rfl,by decide⟩,λM G w vs he hl hv=>?_⟩
 obtain⟨es,clock,h1,h2,h3⟩:=he.obj 0 (.map kvs) rfl
 have hl:vs.size=1:=hl
 have h0:=hv 0 (.mp 0) vs[0] rfl (Array.getElem?_eq_getElem (by omega))
 have e:vs=#[.map (some (G.blk 0))]:=by
  refine Array.ext (by simpa using hl) λj hj1 hj2=>?_
  have hj:j=0:=by simp at hj2;omega
  subst hj
  exact h0.1
 rw[e]
 refine(clone_calls (G.blk 0) es clock w h1).mono ?_
 rintro e w' ⟨rfl,rfl⟩
 refine⟨_,rfl,M,G.ext 1 w.heap.size 0,.mp 1,_,env_new he (.map kvs) (.map es clock) 0 (λa v=>cell_alloc_old a v) ?_ (λ_ _ _ _ _ h=>by cases h),since_new he (.map kvs) (.map es clock) 0,?_,rfl,rfl⟩
 ·refine⟨es,clock,by rw[ext_blk];exact heap_new ..,h2,λj p e hp he'=>?_⟩
  obtain⟨k1,k2⟩:=h3 j p e hp he'
  obtain⟨x,hx⟩:=hd p (List.mem_of_getElem? hp)
  rw[hx] at k2 ⊢
  exact⟨k1,k2⟩
 ·exact⟨by rw[ext_blk],kvs,rfl⟩
theorem CallSpec.postnil{P:Program}{f:FuncId}{args:List AV}{bs:List AO}{Q Q':AV->List AO->Prop}(id off sz:Nat)(hsz:Nat.blt 0 sz=true)(h:CallSpec P f args bs Q)
  (hq:∀r os,Q r os->∃cs,os[id]?=some (.cells cs)/\cs[off]?=some (.d .nil)/\Q' r ((os++[AO.arr [] sz 0 true]).set id (.cells (cs.set off (.arr os.length 0))))):CallSpec P f args bs Q':=by
 refine⟨h.1,λM G w vs he hl hv=>(h.2 M G w vs he hl hv).mono ?_⟩
 rintro e w' ⟨v,rfl,M',G',r,os,h1,h2,h3,h4⟩
 obtain⟨cs,q1,q2,q3⟩:=hq r os h4
 obtain⟨n1,n2⟩:=env_nilc h1 id off sz (Nat.lt_of_lt_of_le Nat.zero_lt_one (Nat.le_of_ble_eq_true hsz)) q1 q2
 exact⟨v,rfl,M',G',r,_,n1,h2.trans n2,h3.since n2,q3⟩
end Go.Bi
end
section
namespace Go.Proofs
open Go.Bi
abbrev DP(kvs:List (D×AV))(pend:List (List D)):List AO:=[.cells [.mp 1,.arr 2 pend.length],.map kvs,.arr pend 4 0 pend.isEmpty]
theorem C.apply0(kvs kvs':List (D×AV))(nm to:List UInt8)(x:D)(ns:List (List D))(r:D)(h0:mok .s (.str nm) kvs)(hg:lkR false (zv false [.nil]) (mget .s (.str nm) kvs)=.d x)
  (hx:(x=.nil/\r=(if ns.isEmpty then .nil else .sl ns))\/∃es,x=.sl es/\(∀e∈es,e.length=1)/\es.length<=1073741824/\r=.sl (es++ns)) (hns:∀e∈ns,e.length=1) (hnl:ns.length<=1073741824) (hp:mput .s (.str nm) (.d r) kvs=kvs') (hb:∀m,(AO.map kvs').bndB m=true) :
  CallSpec Tryz.prog N.disk_apply [.mp 0,av [eI 0,.str nm,.str to,.sl ns]] [.map kvs] (λr os=>r=.tup []/\os=[.map kvs']):=by
 rcases hx with ⟨rfl,rfl⟩|⟨es,rfl,hes,hel,rfl⟩
 ·refine CallSpec.drop 1 rfl (Q:=λr os=>r=.tup []/\os.take 1=[.map kvs']) ?_ (λr os hq=>by obtain⟨rfl,hq⟩:=hq;rw[hq];exact⟨rfl,by simp[hb 1],rfl,rfl⟩)
  have hz:([]:List (List D)).length=0:=rfl
  have hb1:=hb 1
  have ha:([AO.map kvs'].all λo=>AO.bndB [AO.map kvs].length o)=true:=by simp[hb 1]
  cases ns with
  |nil=>
   refine F.disk_apply.goX mixed rfl ?_
   repeat' first|refine st ?_|((with_reducible apply go_i);conv=>whnf)|refine⟨λ_=>?_,λ_=>?_⟩|fail
   all_goals exact⟨rfl,rfl⟩
  |cons n ns=>
   refine F.disk_apply.goX mixed rfl ?_
   repeat' first|refine st ?_|((with_reducible apply go_i);conv=>whnf)|refine⟨λ_=>?_,λ_=>?_⟩|fail
   all_goals exact⟨rfl,rfl⟩
 ·refine CallSpec.drop 1 rfl (Q:=λr os=>r=.tup []/\os.take 1=[.map kvs']) ?_ (λr os hq=>by obtain⟨rfl,hq⟩:=hq;rw[hq];exact⟨rfl,by simp[hb 1],rfl,rfl⟩)
  have ha:([AO.map kvs'].all λo=>AO.bndB [AO.map kvs].length o)=true:=by simp[hb 1]
  refine F.disk_apply.goX mixed rfl ?_
  repeat' first|refine st ?_|((with_reducible apply go_i);conv=>whnf)|refine⟨λ_=>?_,λ_=>?_⟩|fail
  all_goals exact⟨rfl,rfl⟩
theorem C.apply2(kvs kvs1 kvs':List (D×AV))(nm to:List UInt8)(x da:D)(h0:mok .s (.str nm) kvs)(hg:lkR false (zv false [.nil]) (mget .s (.str nm) kvs)=.d x)(hd:mdelL .s (.str nm) kvs=kvs1)
  (h1:mok .s (.str to) kvs1) (hp:mput .s (.str to) (.d x) kvs1=kvs') (hb:∀m,(AO.map kvs').bndB m=true) :
  CallSpec Tryz.prog N.disk_apply [.mp 0,av [eI 2,.str nm,.str to,da]] [.map kvs] (λr os=>r=.tup []/\os=[.map kvs']):=by
 refine CallSpec.drop 1 rfl (Q:=λr os=>r=.tup []/\os.take 1=[.map kvs']) ?_ (λr os hq=>by obtain⟨rfl,hq⟩:=hq;rw[hq];exact⟨rfl,by simp[hb 1],rfl,rfl⟩)
 have ha:([AO.map kvs'].all λo=>AO.bndB [AO.map kvs].length o)=true:=by simp[hb 1]
 refine F.disk_apply.goX mixed rfl ?_
 repeat' first|refine st ?_|((with_reducible apply go_i);conv=>whnf)|((with_reducible apply k_md);(·exact h0);(·exact hd))|refine⟨λ_=>?_,λ_=>?_⟩|fail
 all_goals exact⟨rfl,rfl⟩
end Go.Proofs
end
section
namespace Go.Proofs
open Go.Bi
def MD(kvs:List (D×AV)):Prop:=∀p∈kvs,∃x,p.2=.d x
theorem mO_md{f:Nat->Nat}{kvs:List (D×AV)}(h:MD kvs):mO f (.map kvs)=.map kvs:=by
 simp only[mO]
 congr 1
 conv=>rhs;rw[<- List.map_id kvs]
 refine List.map_congr_left λp hp=>?_
 obtain⟨x,hx⟩:=h p hp
 show(p.1,mG f p.2)=p
 rw[hx]
 show(p.1,AV.d x)=p
 rw[<- hx]
theorem bnd_md{m:Nat}{kvs:List (D×AV)}(h:MD kvs):(AO.map kvs).bnd m:=by
 intro p hp
 obtain⟨x,hx⟩:=h p hp
 rw[hx]
 trivial
theorem CallSpec.mapAt{f:FuncId}{xs:List AV}{a b:List (D×AV)}(ha:MD a)(hb:MD b)(h:CallSpec Tryz.prog f (.mp 0::xs) [.map a] (λr os=>r=.tup []/\os=[.map b]))(hx:xs.all AV.isDB=true)(id:Nat)(os:List AO)(ho:os[id]?=some (.map a)) :
  CallSpec Tryz.prog f (.mp id::xs) os (λr os'=>r=.tup []/\os'=os.set id (.map b)):=by
 have h2:=CallSpec.frame (K:=λr os'=>r=.tup []/\os'=os.set id (.map b)) h [id] os rfl (by simp) (λi o hx=>by
   match i with
   |0=>simp at hx;subst hx;rw[mO_md ha];exact ho
   |i+1=>simp at hx) (λa ha=>by
   rcases List.mem_cons.1 ha with rfl|ha
   ·exact Nat.zero_lt_succ 0
   ·exact bnd_data (List.all_eq_true.1 hx a ha)) (λo ho=>by
   cases List.mem_singleton.1 ho
   exact bnd_md ha) (λr bs' hq=>by
   obtain⟨rfl,rfl⟩:=hq
   refine⟨rfl,?_⟩
   show putA _ [id] [.map b] os=_
   simp only[putA,mO_md hb,List.map_nil,List.append_nil])
 have e:(AV.mp 0::xs).map (mG (rn [id] os.length))=.mp id::xs:=by
  rw[List.map_cons]
  congr 1
  conv=>rhs;rw[<- List.map_id xs]
  exact List.map_congr_left λa ha=>mG_data (List.all_eq_true.1 hx a ha)
 rw[e] at h2
 exact h2
theorem C.maps_CloneAt{kvs:List (D×AV)}(hd:MD kvs)(id:Nat)(os:List AO)(ho:os[id]?=some (.map kvs)) :
  CallSpec Tryz.prog N.maps_Clone_map_string_byte_string__byte [.mp id] os (λr os'=>r=.mp os.length/\os'=os++[.map kvs]):=by
 have h2:=CallSpec.frame (K:=λr os'=>r=.mp os.length/\os'=os++[.map kvs]) (C.maps_Clone kvs hd) [id] os rfl (by simp) (λi o hx=>by
   match i with
   |0=>simp at hx;subst hx;rw[mO_md hd];exact ho
   |i+1=>simp at hx) (λa ha=>by
   cases List.mem_singleton.1 ha
   exact Nat.zero_lt_succ 0) (λo ho=>by
   cases List.mem_singleton.1 ho
   exact bnd_md hd) (λr bs' hq=>by
   obtain⟨rfl,rfl⟩:=hq
   refine⟨rfl,?_⟩
   show putA _ [id] [.map kvs,.map kvs] os=_
   have e:os.set id (.map kvs)=os:=by
    apply List.ext_getElem?
    intro i
    by_cases hi:id=i
    ·subst hi
     rw[List.getElem?_set_self (List.getElem?_eq_some_iff.1 ho).1,ho]
    ·rw[List.getElem?_set_ne hi]
   simp only[putA,mO_md hd,List.map_nil,List.map_cons,e])
 exact h2
theorem C.view(kvs:List (D×AV))(hd:MD kvs)(pend:List (List D))(hp4:∀e∈pend,e.length=4)(hpl:pend.length<=1048576)(sf:Nat->List (D×AV))(h0:sf 0=kvs)(hst:∀i,MD (sf i))
  (hs:∀(i:Nat) e,pend[i]?=some e->∃a b c d,e=[a,b,c,d]/\CallSpec Tryz.prog N.disk_apply [.mp 0,av [a,b,c,d]] [.map (sf i)] (λr os=>r=.tup []/\os=[.map (sf (i+1))])) :
  CallSpec Tryz.prog N.pdisk_Disk_view [.ptr 0 0] (DP kvs pend) (λr os=>r=.mp 3/\os=DP kvs pend++[.map (sf pend.length)]):=by
 subst h0
 have hC:=C.maps_CloneAt hd 1 (DP (sf 0) pend) rfl
 have hbB:∀m,((AO.map (sf 0)).bndB m=true):=λm=>by
  have:=bnd_md (m:=m) hd
  simp only[AO.bndB,List.all_eq_true]
  intro p hp
  obtain⟨x,hx⟩:=hd p hp
  rw[hx];rfl
 have hbS:∀i m,((AO.map (sf i)).bndB m=true):=λi m=>by
  simp only[AO.bndB,List.all_eq_true]
  intro p hp
  obtain⟨x,hx⟩:=hst i p hp
  rw[hx];rfl
 obtain⟨e,he⟩:∃e,e=pend.isEmpty:=⟨_,rfl⟩
 unfold DP at hC ⊢
 rw[<- he] at hC ⊢
 refine CallSpec.drop 4 rfl (Q:=λr os=>r=.mp 3/\os.take 4=[.cells [.mp 1,.arr 2 pend.length],.map (sf 0),.arr pend 4 0 e]++[.map (sf pend.length)]) ?_ (λr os hq=>by obtain⟨rfl,hq⟩:=hq;rw[hq];exact⟨rfl,by simp only[List.all_append,List.all_cons,List.all_nil,hbB,hbS];rfl,rfl,rfl⟩)
 have hbb:∀i,([AO.cells [.mp 1,.arr 2 pend.length],.map (sf 0),.arr pend 4 0 e,.map (sf i)].all λo=>o.bndB 4)=true:=λi=>by
  simp only[List.all_cons,List.all_nil,hbB,hbS];rfl
 refine F.pdisk_Disk_view.goO mixed rfl ?_
 repeat' first|refine st ?_|((with_reducible apply go_i);conv=>whnf)|((with_reducible first|apply k_nc|apply k_cs);(·exact hC);(try rintro _ _ ⟨rfl,rfl⟩))|((with_reducible apply k_pr);(·exact hC))|refine⟨λ_=>?_,λ_=>?_⟩|fail
 refine x_loop1 mixed Lt.pdisk_Disk_view_l0 Lk.pdisk_Disk_view_l0 (λ(i:Nat)=>[.d (eI i)]) (λi=>[.cells [.mp 1,.arr 2 pend.length],.map (sf 0),.arr pend 4 0 e,.map (sf i)]) (λi=>i<=pend.length) (λi=>pend.length-i) 0 rfl rfl rfl rfl (λi _=>⟨rfl,hbb i⟩) rfl (by omega) ?_
 repeat' first|refine st ?_|((with_reducible apply go_i);conv=>whnf)|refine⟨λ_=>?_,λ_=>?_⟩|fail
 intro i i1
 cases hc:pend[i]? with
 |some x=>
  have hlt:=(List.getElem?_eq_some_iff.1 hc).1
  obtain⟨a,b,c,d,rfl,hA⟩:=hs i x hc
  have hef:e=false:=by
   rw[he]
   cases pend with
   |nil=>simp at hlt
   |cons=>rfl
  clear he
  have hA':=CallSpec.mapAt (hst i) (hst (i+1)) hA rfl 3
  repeat' first|refine st ?_|((with_reducible apply go_i);conv=>whnf)|((with_reducible first|apply k_nc|apply k_cs);(·exact hA' _ rfl);(try rintro _ _ ⟨rfl,rfl⟩))|((with_reducible apply k_pr);(·exact hA' _ rfl))|refine⟨λ_=>?_,λ_=>?_⟩|fail
  all_goals exact⟨i+1,rfl,rfl,rfl,by omega,by omega⟩
 |none=>
  have hge:=List.getElem?_eq_none_iff.1 hc
  have:i=pend.length:=by omega
  subst this
  repeat' first|refine st ?_|((with_reducible apply go_i);conv=>whnf)|refine⟨λ_=>?_,λ_=>?_⟩|fail
  all_goals first|exact⟨rfl,rfl⟩|(exfalso;omega)
end Go.Proofs
end
section
namespace Go.Bi
open Go
section
variable {P:Program}{n nb:Nat}{M:Mem}{G:Gh}{os:List AO}{w:World}{ρ:Rho}{a:Act}
def retOI0(Q:AV->List AO->Prop)(rs:List RV)(ρ:Rho)(os:List AO):Prop:=resI ρ os rs λl=>match l with
 |[]=>Q (.tup []) os
 |_=>False
def retO0(Q:AV->List AO->Prop)(rs:List RV)(L:Sl)(os:List AO):Prop:=xRes L os rs λl=>match l with
 |[]=>Q (.tup []) os
 |_=>False
theorem resI_mono0{ρ:Rho}{os:List AO}{K K':List AV->Prop}(hk:∀l,K l->K' l):∀{rs:List RV},resI ρ os rs K->resI ρ os rs K'
 |[],h=>hk _ h
 |.t s::rs,h=>resI_mono0 (rs:=rs) (λl hl=>hk _ hl) h
 |.cell s m g::rs,h=>by
  simp only[resI] at h ⊢
  obtain⟨r,h1,h2⟩:=loadI_iff h
  exact h2 _ (resI_mono0 (rs:=rs) (λl hl=>hk _ hl) h1)
theorem retO0_ok{Q:AV->List AO->Prop}{rs:List RV}{L:Sl}{os:List AO}(h:retO0 Q rs L os):retOI0 Q rs (ofL L) os:=by
 have h1:=xRes_ok h
 refine resI_mono0 (λl hl=>?_) h1
 match l,hl with
 |[],hl=>exact hl
theorem own_ok0{c:Ctx}(hR:Rel n nb c M G os w ρ a){fn:Func}{rs:List RV}(hrs:fn.results.toList.mapM (cRV P)=some rs){Q:AV->List AO->Prop}(h:retOI0 Q rs ρ os) :
  ∃v,(results fn a.tmps).run P w=.ok v w/\∃M' G' r os',Env M' G' os' w/\Since c.M c.G c.os c.w M' G' os' w/\VA M' G' os' r v/\Q r os':=by
 obtain⟨l,vs,h1,h2,h3,h4⟩:=resI_run hR.env hR.tmps _ rs hrs _ h
 match l,h1,h3,h4 with
 |[],h1,h3,h4=>
  simp only[List.length_nil] at h3
  have hv:vs=[]:=List.length_eq_zero_iff.1 (by omega)
  subst hv
  refine⟨_,run_results h2,M,G,.tup [],os,hR.env,hR.since,?_,h1⟩
  rw[dif_neg (by simp)]
  exact⟨#[],rfl,rfl,λj c u hc hu=>by simp at hc⟩
theorem fn_own0(hm:P.follows .mixedOrders=true){f:FuncId}{fn:Func}{code:Code}{ic:IC}{rs:List RV}(hf:P.funcs[f]?=some fn)(hname:fn.name≠ "runtime.NumGoroutine")(hb:fn.body=some code)(hc:cC P fn.ntmps code=some ic)
  (hrs:fn.results.toList.mapM (cRV P)=some rs) {args:List AV} {bs:List AO} (hargs:args.length<=fn.ntmps) {Q:AV->List AO->Prop}
  (h:wpI P fn.ntmps bs.length ic {norm:=retOI0 Q rs,exit:=λ_ _ _=>False,ret:=retOI0 Q rs} (argsRho args) bs):CallSpec P f args bs Q:=by
 refine⟨⟨fn,hf,by rw[hb];rfl,hname⟩,λM G w vs he hl hv=>?_⟩
 refine calls_of_wp hf hb (wp_mono (wpI_tri hm code ic hc _ _ _ h ⟨M,G,bs,w⟩ M G w {tmps:=vs++Array.replicate (fn.ntmps-vs.size) undef,defers:=[]} ?_) λe a' w' hp=>?_)
 ·exact {
   env:=he,since:=Since.refl ..,size:=by simp;omega,defers:=rfl,base:=rfl
   tmps:=λt=>by
    unfold argsRho
    by_cases ht:t<args.length
    ·have h1:(vs++Array.replicate (fn.ntmps-vs.size) undef).getD t undef=vs[t]:=by
      simp[Array.getElem?_append_left (show t<vs.size by omega),show t<vs.size by omega]
     have h2:args.getD t .junk=args[t]:=by simp[ht]
     show VA M G bs (args.getD t .junk) ((vs++Array.replicate (fn.ntmps-vs.size) undef).getD t undef)
     rw[h1,h2]
     have:=hv t args[t] vs[t] (List.getElem?_eq_getElem ht) (Array.getElem?_eq_getElem (by omega))
     generalize args[t]=c at this
     cases c with
     |tup cs=>exact this.elim
     |junk=>trivial
     |_=>exact this
    ·have:args.getD t .junk=.junk:=by simp[List.getD_eq_getElem?_getD,List.getElem?_eq_none (Nat.le_of_not_lt ht)]
     rw[this]
     trivial}
 ·have fin:Fits fn.ntmps bs.length ⟨M,G,bs,w⟩ (retOI0 Q rs) a' w'->a'.defers=[]/\∃v,(results fn a'.tmps).run P w'=.ok v w'/\∃v',Ending.returned v=.returned v'/\∃M' G' r os',Env M' G' os' w'/\Since M G bs w M' G' os' w'/\VA M' G' os' r v'/\Q r os':=by
   rintro⟨M',G',os',ρ',hR,hk⟩
   obtain⟨v,h1,h2⟩:=own_ok0 hR hrs hk
   exact⟨hR.defers,v,h1,v,rfl,h2⟩
  cases e with
  |normal=>exact fin hp
  |ret=>exact fin hp
  |exit id=>obtain⟨_,_,_,_,_,hk⟩:=hp;exact hk.elim
  |_=>exact hp.elim
end
theorem IsFn.goO0{P:Program}(hm:P.follows .mixedOrders=true){f n:Nat}{ic:IC}{rs:List RV}(h:IsFn P f n ic rs){args:List AV}{bs:List AO}(hargs:Nat.ble args.length n=true){Q:AV->List AO->Prop}
  (hw:Go (xI P n bs.length ic (retO0 Q rs) (λ_ _ _=>False) (retO0 Q rs) (argsL 0 args) bs)):CallSpec P f args bs Q:=by
 obtain⟨fn,h1,h2,h3,h4,h5⟩:=h
 obtain⟨code,hb,hc⟩:=Option.bind_eq_some_iff.1 h4
 subst h2
 refine fn_own0 hm h1 (by simpa using h3) hb hc h5 (Nat.le_of_ble_eq_true hargs) ?_
 rw[ofL_args]
 exact xI_ok (K:=⟨retO0 Q rs,λ_ _ _=>False,retO0 Q rs⟩) ⟨λL os h=>retO0_ok h,λ_ _ _ h=>h,λL os h=>retO0_ok h⟩ hw
end Go.Bi
end
section
namespace Go.Proofs
open Go.Bi
theorem C.cloneB_nil:Pure Tryz.prog N.slices_Clone__byte_byte [.d .nil] (.d .nil):=by
 refine F.slices_Clone__byte_byte.go mixed rfl ?_
 repeat' first|refine st ?_|((with_reducible apply go_i);conv=>whnf)|refine⟨λ_=>?_,λ_=>?_⟩|fail
 all_goals rfl
theorem C.cloneB_sl(es:List (List D))(h1:∀e∈es,e.length=1)(hl:es.length<=1073741824):Pure Tryz.prog N.slices_Clone__byte_byte [.d (.sl es)] (.d (.sl es)):=by
 refine CallSpec.deepP (Q:=λr os=>r=.arr 0 es.length/\os[0]?=some (.arr es 1 0 false)) ?_ (λr os hq=>?_)
 ·have hz:([]:List (List D)).length=0:=rfl
  refine F.slices_Clone__byte_byte.goO mixed rfl ?_
  repeat' first|refine st ?_|((with_reducible apply go_i);conv=>whnf)|refine⟨λ_=>?_,λ_=>?_⟩|fail
  all_goals exact⟨rfl,by cases es<;>rfl⟩
 ·obtain⟨rfl,h2⟩:=hq
  exact .inl (.inl ⟨_,.inl (.inr ⟨0,_,_,_,_,rfl,h2,rfl⟩),rfl⟩)
def fnB(s:List UInt8):Prop:=s≠[]/\s.length<=24/\∀c∈s,33<=c.toNat/\c.toNat<=126
theorem C.disk_word(s:List UInt8)(h:fnB s):Pure Tryz.prog N.disk_word [.d (.str s)] (.d (.bool true)):=by
 obtain⟨h1,h2,h3⟩:=h
 have hbl:=byteL_l s
 have hb1:=byteL_1 s
 have hbg:=λi x=>@byteL_get s i x
 refine F.disk_word.go mixed rfl ?_
 repeat' first|refine st ?_|((with_reducible apply go_i);conv=>whnf)|refine⟨λ_=>?_,λ_=>?_⟩|fail
 all_goals first|(exfalso;omega)|skip
 refine x_loop1 mixed Lt.disk_word_l0 Lk.disk_word_l0 (λ(i:Nat)=>[.d (eI i)]) (λi=>[]) (λi=>i<=s.length) (λi=>s.length-i) 0 rfl rfl rfl rfl (λ_ _=>⟨rfl,rfl⟩) rfl (by omega) ?_
 repeat' first|refine st ?_|((with_reducible apply go_i);conv=>whnf)|refine⟨λ_=>?_,λ_=>?_⟩|fail
 intro i i1
 cases hx:s[i]? with
 |some x=>
  have hlt:=(List.getElem?_eq_some_iff.1 hx).1
  have hget:=hbg i x hx
  have hc:=h3 x (List.mem_of_getElem? hx)
  repeat' first|refine st ?_|((with_reducible apply go_i);conv=>whnf)|refine⟨λ_=>?_,λ_=>?_⟩|fail
  all_goals first|(exfalso;omega)|exact⟨i+1,rfl,rfl,rfl,by omega,by omega⟩
 |none=>
  have hge:=List.getElem?_eq_none_iff.1 hx
  repeat' first|refine st ?_|((with_reducible apply go_i);conv=>whnf)|refine⟨λ_=>?_,λ_=>?_⟩|fail
  all_goals first|rfl|(exfalso;omega)
theorem C.wal_word(s:List UInt8)(h:fnB s):Pure Tryz.prog N.wal_word [.d (.str s)] (.d (.bool true)):=by
 obtain⟨h1,h2,h3⟩:=h
 have hbl:=byteL_l s
 have hb1:=byteL_1 s
 have hbg:=λi x=>@byteL_get s i x
 refine F.wal_word.go mixed rfl ?_
 repeat' first|refine st ?_|((with_reducible apply go_i);conv=>whnf)|refine⟨λ_=>?_,λ_=>?_⟩|fail
 all_goals first|(exfalso;omega)|skip
 refine x_loop1 mixed Lt.wal_word_l0 Lk.wal_word_l0 (λ(i:Nat)=>[.d (eI i)]) (λi=>[]) (λi=>i<=s.length) (λi=>s.length-i) 0 rfl rfl rfl rfl (λ_ _=>⟨rfl,rfl⟩) rfl (by omega) ?_
 repeat' first|refine st ?_|((with_reducible apply go_i);conv=>whnf)|refine⟨λ_=>?_,λ_=>?_⟩|fail
 intro i i1
 cases hx:s[i]? with
 |some x=>
  have hlt:=(List.getElem?_eq_some_iff.1 hx).1
  have hget:=hbg i x hx
  have hc:=h3 x (List.mem_of_getElem? hx)
  repeat' first|refine st ?_|((with_reducible apply go_i);conv=>whnf)|refine⟨λ_=>?_,λ_=>?_⟩|fail
  all_goals first|(exfalso;omega)|exact⟨i+1,rfl,rfl,rfl,by omega,by omega⟩
 |none=>
  have hge:=List.getElem?_eq_none_iff.1 hx
  repeat' first|refine st ?_|((with_reducible apply go_i);conv=>whnf)|refine⟨λ_=>?_,λ_=>?_⟩|fail
  all_goals first|rfl|(exfalso;omega)
abbrev Vw(kvs:List (D×AV))(pend:List (List D))(kvs':List (D×AV)):Prop:=CallSpec Tryz.prog N.pdisk_Disk_view [.ptr 0 0] (DP kvs pend) (λr os=>r=.mp 3/\os=DP kvs pend++[.map kvs'])
theorem bndB_md{kvs:List (D×AV)}(h:MD kvs)(m:Nat):(AO.map kvs).bndB m=true:=by
 simp only[AO.bndB,List.all_eq_true]
 intro p hp
 obtain⟨x,hx⟩:=h p hp
 rw[hx];rfl
theorem C.Read{kvs kvs':List (D×AV)}{pend:List (List D)}(h:Vw kvs pend kvs')(hd:MD kvs)(nm:List UInt8)(x:D)(b:Bool)(h0:mok .s (.str nm) kvs')(hg:lkR true (zv false [.nil]) (mget .s (.str nm) kvs')=.tup [.d x,.d (.bool b)])
  (hx:x=.nil\/∃es,x=.sl es/\(∀e∈es,e.length=1)/\es.length<=1073741824):CallSpec Tryz.prog N.pdisk_Disk_Read [.ptr 0 0,.d (.str nm)] (DP kvs pend) (λr os=>r=.tup [.d x,.d (.bool b)]/\os=DP kvs pend):=by
 have hc:Pure Tryz.prog N.slices_Clone__byte_byte [.d x] (.d x):=by
  rcases hx with rfl|⟨es,rfl,h1,h2⟩
  ·exact C.cloneB_nil
  ·exact C.cloneB_sl es h1 h2
 have hb:=bndB_md hd 3
 have ha:((DP kvs pend).all λo=>AO.bndB (DP kvs pend).length o)=true:=by
  show((DP kvs pend).all λo=>AO.bndB 3 o)=true
  simp only[DP,List.all_cons,List.all_nil,hb];rfl
 unfold Vw at h
 unfold DP at *
 generalize pend.isEmpty=e at *
 refine F.pdisk_Disk_Read.goX mixed rfl ?_
 repeat' first|refine st ?_|((with_reducible apply go_i);conv=>whnf)|((with_reducible first|apply k_nc|apply k_cs);(·exact h);(try rintro _ _ ⟨rfl,rfl⟩))|((with_reducible apply k_pr);(·exact h))|refine⟨λ_=>?_,λ_=>?_⟩|fail
 all_goals exact⟨rfl,rfl⟩
theorem C.exists{kvs kvs':List (D×AV)}{pend:List (List D)}(h:Vw kvs pend kvs')(hd:MD kvs)(nm:List UInt8)(x:D)(b:Bool)(h0:mok .s (.str nm) kvs')(hg:lkR true (zv false [.nil]) (mget .s (.str nm) kvs')=.tup [.d x,.d (.bool b)]) :
  CallSpec Tryz.prog N.pdisk_Disk_exists [.ptr 0 0,.d (.str nm)] (DP kvs pend) (λr os=>r=.d (.bool b)/\os=DP kvs pend):=by
 have hb:=bndB_md hd 3
 have ha:((DP kvs pend).all λo=>AO.bndB (DP kvs pend).length o)=true:=by
  show((DP kvs pend).all λo=>AO.bndB 3 o)=true
  simp only[DP,List.all_cons,List.all_nil,hb];rfl
 unfold Vw at h
 unfold DP at *
 generalize pend.isEmpty=e at *
 refine F.pdisk_Disk_exists.goX mixed rfl ?_
 repeat' first|refine st ?_|((with_reducible apply go_i);conv=>whnf)|((with_reducible first|apply k_nc|apply k_cs);(·exact h);(try rintro _ _ ⟨rfl,rfl⟩))|((with_reducible apply k_pr);(·exact h))|refine⟨λ_=>?_,λ_=>?_⟩|fail
 all_goals exact⟨rfl,rfl⟩
end Go.Proofs
end
section
namespace Go.Proofs
open Go.Bi
theorem isE_snoc{α:Type}(l:List α)(x:α):(l++[x]).isEmpty=false:=by cases l<;>rfl
theorem C.Disk_Append(kvs:List (D×AV))(hd:MD kvs)(pend:List (List D))(hpl:pend.length<=1048576)(nm:List UInt8)(hn:fnB nm)(z:List (List D))(h1:∀e∈z,e.length=1)(hl:z.length<=1073741824) :
  CallSpec Tryz.prog N.pdisk_Disk_Append [.ptr 0 0,.d (.str nm),.d (.sl z)] (DP kvs pend) (λr os=>r=.d (eI 0)/\os=DP kvs (pend++[[eI 0,.str nm,.str [],.sl z]])):=by
 have hw:=C.disk_word nm hn
 have hc:=C.cloneB_sl z h1 hl
 have hb:=bndB_md hd 3
 unfold DP at *
 rw[isE_snoc]
 generalize pend.isEmpty=e at *
 refine F.pdisk_Disk_Append.goX mixed rfl ?_
 repeat' first|refine st ?_|((with_reducible apply go_i);conv=>whnf)|refine⟨λ_=>?_,λ_=>?_⟩|fail
 all_goals exact⟨by(show(List.all _ λo=>AO.bndB 3 o)=true);simp only[List.all_cons,List.all_nil,hb];rfl,rfl,rfl⟩
theorem C.Disk_Rename{kvs kvs':List (D×AV)}{pend:List (List D)}(h:Vw kvs pend kvs')(hd:MD kvs)(hpl:pend.length<=1048576)(nm to:List UInt8)(hn:fnB to)(x:D)(h0:mok .s (.str nm) kvs')(hg:lkR true (zv false [.nil]) (mget .s (.str nm) kvs')=.tup [.d x,.d (.bool true)]) :
  CallSpec Tryz.prog N.pdisk_Disk_Rename [.ptr 0 0,.d (.str nm),.d (.str to)] (DP kvs pend) (λr os=>r=.d (eI 0)/\os=DP kvs (pend++[[eI 2,.str nm,.str to,.nil]])):=by
 have hw:=C.disk_word to hn
 have hE:=C.exists h hd nm x true h0 hg
 have hb:=bndB_md hd 3
 unfold DP at *
 rw[isE_snoc]
 generalize pend.isEmpty=e at *
 refine F.pdisk_Disk_Rename.goX mixed rfl ?_
 repeat' first|refine st ?_|((with_reducible apply go_i);conv=>whnf)|((with_reducible first|apply k_nc|apply k_cs);(·exact hE);(try rintro _ _ ⟨rfl,rfl⟩))|((with_reducible apply k_pr);(·exact hE))|refine⟨λ_=>?_,λ_=>?_⟩|fail
 all_goals exact⟨by(show(List.all _ λo=>AO.bndB 3 o)=true);simp only[List.all_cons,List.all_nil,hb];rfl,rfl,rfl⟩
theorem C.Disk_Sync{kvs kvs':List (D×AV)}{pend:List (List D)}(h:Vw kvs pend kvs') :
  CallSpec Tryz.prog N.pdisk_Disk_Sync [.ptr 0 0] (DP kvs pend) (λr os=>r=.tup []/\os=[.cells [.mp 3,.arr 4 0],.map kvs,.arr pend 4 0 pend.isEmpty,.map kvs',.arr [] 4 0 true]):=by
 refine CallSpec.postnil 0 1 4 rfl (Q:=λr os=>r=.tup []/\os=[.cells [.mp 3,.d .nil],.map kvs,.arr pend 4 0 pend.isEmpty,.map kvs']) ?_ (λr os hq=>?_)
 ·unfold Vw DP at *
  generalize pend.isEmpty=e at *
  refine F.pdisk_Disk_Sync.goO0 mixed rfl ?_
  repeat' first|refine st ?_|((with_reducible apply go_i);conv=>whnf)|((with_reducible first|apply k_nc|apply k_cs);(·exact h);(try rintro _ _ ⟨rfl,rfl⟩))|((with_reducible apply k_pr);(·exact h))|refine⟨λ_=>?_,λ_=>?_⟩|fail
  all_goals exact⟨rfl,rfl⟩
 ·obtain⟨rfl,rfl⟩:=hq
  exact⟨_,rfl,rfl,rfl,rfl⟩
theorem C.disk_New:CallSpec Tryz.prog N.disk_New [] [] (λr os=>r=.ptr 1 0/\os=[.map [],.cells [.mp 0,.arr 2 0],.arr [] 4 0 true]):=by
 refine CallSpec.postnil 1 1 4 rfl (Q:=λr os=>r=.ptr 1 0/\os=[.map [],.cells [.mp 0,.d .nil]]) ?_ (λr os hq=>?_)
 ·refine F.disk_New.goO mixed rfl ?_
  repeat' first|refine st ?_|((with_reducible apply go_i);conv=>whnf)|refine⟨λ_=>?_,λ_=>?_⟩|fail
  all_goals exact⟨rfl,rfl⟩
 ·obtain⟨rfl,rfl⟩:=hq
  exact⟨_,rfl,rfl,rfl,rfl⟩
end Go.Proofs
end
section
namespace Go.Proofs
open Go.Bi
theorem C.viewD(pend:List (List D))(d:D)(hdd:SlD d pend)(hp4:∀e∈pend,e.length=4)(hpl:pend.length<=1048576)(sf:Nat->List (D×AV))(hst:∀i,MD (sf i))
  (hs:∀(i:Nat) e,pend[i]?=some e->∃a b c d,e=[a,b,c,d]/\CallSpec Tryz.prog N.disk_apply [.mp 0,av [a,b,c,d]] [.map (sf i)] (λr os=>r=.tup []/\os=[.map (sf (i+1))])) :
  CallSpec Tryz.prog N.pdisk_Disk_view [.ptr 0 0] [.cells [.mp 1,.d d],.map (sf 0)] (λr os=>r=.mp 2/\os=[.cells [.mp 1,.d d],.map (sf 0),.map (sf pend.length)]):=by
 have hC:=C.maps_CloneAt (hst 0) 1 [.cells [.mp 1,.d d],.map (sf 0)] rfl
 have hbS:∀i m,((AO.map (sf i)).bndB m=true):=λi m=>bndB_md (hst i) m
 refine CallSpec.drop 3 rfl (Q:=λr os=>r=.mp 2/\os.take 3=[.cells [.mp 1,.d d],.map (sf 0)]++[.map (sf pend.length)]) ?_ (λr os hq=>by obtain⟨rfl,hq⟩:=hq;rw[hq];exact⟨rfl,by simp only[List.all_append,List.all_cons,List.all_nil,hbS];rfl,rfl,rfl⟩)
 have hbb:∀i,([AO.cells [.mp 1,.d d],.map (sf 0),.map (sf i)].all λo=>o.bndB 3)=true:=λi=>by
  simp only[List.all_cons,List.all_nil,hbS];rfl
 refine F.pdisk_Disk_view.goO mixed rfl ?_
 repeat' first|refine st ?_|((with_reducible apply go_i);conv=>whnf)|((with_reducible first|apply k_nc|apply k_cs);(·exact hC);(try rintro _ _ ⟨rfl,rfl⟩))|((with_reducible apply k_pr);(·exact hC))|refine⟨λ_=>?_,λ_=>?_⟩|fail
 refine x_loop1 mixed Lt.pdisk_Disk_view_l0 Lk.pdisk_Disk_view_l0 (λ(i:Nat)=>[.d (eI i)]) (λi=>[.cells [.mp 1,.d d],.map (sf 0),.map (sf i)]) (λi=>i<=pend.length) (λi=>pend.length-i) 0 rfl rfl rfl rfl (λi _=>⟨rfl,hbb i⟩) rfl (by omega) ?_
 repeat' first|refine st ?_|((with_reducible apply go_i);conv=>whnf)|refine⟨λ_=>?_,λ_=>?_⟩|fail
 intro i i1
 cases hc:pend[i]? with
 |some x=>
  have hlt:=(List.getElem?_eq_some_iff.1 hc).1
  obtain⟨a,b,c,d,rfl,hA⟩:=hs i x hc
  have hA':=CallSpec.mapAt (hst i) (hst (i+1)) hA rfl 2
  repeat' first|refine st ?_|((with_reducible apply go_i);conv=>whnf)|((with_reducible first|apply k_nc|apply k_cs);(·exact hA' _ rfl);(try rintro _ _ ⟨rfl,rfl⟩))|((with_reducible apply k_pr);(·exact hA' _ rfl))|refine⟨λ_=>?_,λ_=>?_⟩|fail
  all_goals exact⟨i+1,rfl,rfl,rfl,by omega,by omega⟩
 |none=>
  have hge:=List.getElem?_eq_none_iff.1 hc
  have:i=pend.length:=by omega
  subst this
  repeat' first|refine st ?_|((with_reducible apply go_i);conv=>whnf)|refine⟨λ_=>?_,λ_=>?_⟩|fail
  all_goals first|exact⟨rfl,rfl⟩|(exfalso;omega)
abbrev VwD(kvs:List (D×AV))(d:D)(kvs':List (D×AV)):Prop:=CallSpec Tryz.prog N.pdisk_Disk_view [.ptr 0 0] [.cells [.mp 1,.d d],.map kvs] (λr os=>r=.mp 2/\os=[.cells [.mp 1,.d d],.map kvs,.map kvs'])
theorem C.Disk_SyncD{kvs kvs':List (D×AV)}{d:D}(h:VwD kvs d kvs') :
  CallSpec Tryz.prog N.pdisk_Disk_Sync [.ptr 0 0] [.cells [.mp 1,.d d],.map kvs] (λr os=>r=.tup []/\os=[.cells [.mp 2,.arr 3 0],.map kvs,.map kvs',.arr [] 4 0 true]):=by
 refine CallSpec.postnil 0 1 4 rfl (Q:=λr os=>r=.tup []/\os=[.cells [.mp 2,.d .nil],.map kvs,.map kvs']) ?_ (λr os hq=>?_)
 ·unfold VwD at *
  refine F.pdisk_Disk_Sync.goO0 mixed rfl ?_
  repeat' first|refine st ?_|((with_reducible apply go_i);conv=>whnf)|((with_reducible first|apply k_nc|apply k_cs);(·exact h);(try rintro _ _ ⟨rfl,rfl⟩))|((with_reducible apply k_pr);(·exact h))|refine⟨λ_=>?_,λ_=>?_⟩|fail
  all_goals exact⟨rfl,rfl⟩
 ·obtain⟨rfl,rfl⟩:=hq
  exact⟨_,rfl,rfl,rfl,rfl⟩
def K(nm B:List UInt8):List (D×AV):=if B.isEmpty then [] else [(.str nm,.d (.sl (byteL B)))]
theorem K_md(nm B:List UInt8):MD (K nm B):=by
 unfold K
 split
 ·intro p hp;cases hp
 ·intro p hp
  cases List.mem_singleton.1 hp
  exact⟨_,rfl⟩
theorem eqS(a:List UInt8):eqD .s (.str a) (.str a)=some true:=by
 show some (a==a)=_
 simp
theorem K_mok(nm B:List UInt8)(s:List UInt8):mok .s (.str s) (K nm B):=by
 refine⟨λp hp=>?_,by rw[eqS];simp⟩
 unfold K at hp
 split at hp
 ·cases hp
 ·cases List.mem_singleton.1 hp
  intro h
  cases h
def fD(B:List UInt8):D:=if B.isEmpty then .nil else .sl (byteL B)
theorem K_get(nm B:List UInt8):mget .s (.str nm) (K nm B)=if B.isEmpty then none else some (.d (.sl (byteL B))):=by
 unfold K
 split
 ·rfl
 ·simp only[mget,eqS,if_true]
theorem K_put(nm B u:List UInt8)(hu:u≠[]):mput .s (.str nm) (.d (.sl (byteL (B++u)))) (K nm B)=K nm (B++u):=by
 have hne:(B++u).isEmpty=false:=isE_app hu
 unfold K
 rw[hne]
 split
 ·rfl
 ·simp only[mput,eqS,if_true]
  rfl
theorem K_apply(nm to B u:List UInt8)(hu:u≠[])(hB:B.length<=1073741824)(hul:u.length<=1073741824) :
  CallSpec Tryz.prog N.disk_apply [.mp 0,av [eI 0,.str nm,.str to,.sl (byteL u)]] [.map (K nm B)] (λr os=>r=.tup []/\os=[.map (K nm (B++u))]):=by
 refine C.apply0 (K nm B) (K nm (B++u)) nm to (fD B) (byteL u) (.sl (byteL (B++u))) (K_mok nm B nm) ?_ ?_ (byteL_1 u) (by rw[byteL_l];exact hul) (K_put nm B u hu) (bndB_md (K_md nm _))
 ·rw[K_get]
  unfold fD
  split<;>rfl
 ·unfold fD
  by_cases hb:B.isEmpty=true
  ·rw[if_pos hb]
   have:B=[]:=List.isEmpty_iff.1 hb
   subst this
   refine .inl ⟨rfl,?_⟩
   rw[List.nil_append]
   have:(byteL u).isEmpty=false:=by cases u with|nil=>exact absurd rfl hu|cons=>rfl
   rw[this]
   rfl
  ·rw[if_neg hb]
   exact .inr ⟨_,rfl,byteL_1 B,by rw[byteL_l];exact hB,by rw[byteL_app]⟩
def opsL(nm:List UInt8)(us:List (List UInt8)):List (List D):=us.map λu=>[eI 0,.str nm,.str [],.sl (byteL u)]
theorem opsL_len(nm:List UInt8)(us:List (List UInt8)):(opsL nm us).length=us.length:=by simp[opsL]
theorem opsL_4(nm:List UInt8)(us:List (List UInt8)):∀e∈opsL nm us,e.length=4:=by
 intro e he
 obtain⟨x,_,rfl⟩:=List.mem_map.1 he
 rfl
theorem flatten_take_le(us:List (List UInt8))(i:Nat):((us.take i).flatten).length<=us.flatten.length:=by
 conv=>rhs;rw[<- List.take_append_drop i us,List.flatten_append,List.length_append]
 omega
theorem mem_flatten_le{us:List (List UInt8)}{u:List UInt8}(h:u∈us):u.length<=us.flatten.length:=by
 induction us with
 |nil=>cases h
 |cons a us ih=>
  rw[List.flatten_cons,List.length_append]
  rcases List.mem_cons.1 h with rfl|h
  ·omega
  ·have:=ih h;omega
theorem opsL_step(nm B:List UInt8)(us:List (List UInt8))(hu:∀u∈us,u≠[])(hl:B.length+us.flatten.length<=1073741824)(i:Nat)(e:List D)(he:(opsL nm us)[i]?=some e) :
  ∃a b c d,e=[a,b,c,d]/\CallSpec Tryz.prog N.disk_apply [.mp 0,av [a,b,c,d]] [.map (K nm (B++(us.take i).flatten))] (λr os=>r=.tup []/\os=[.map (K nm (B++(us.take (i+1)).flatten))]):=by
 unfold opsL at he
 rw[List.getElem?_map] at he
 obtain⟨u,hui,rfl⟩:=Option.map_eq_some_iff.1 he
 have hm:=List.mem_of_getElem? hui
 have h1:=flatten_take_le us i
 have h2:=mem_flatten_le hm
 refine⟨_,_,_,_,rfl,?_⟩
 have:=K_apply nm [] (B++(us.take i).flatten) u (hu u hm) (by rw[List.length_append];omega) (by omega)
 rw[List.take_add_one,hui,List.flatten_append,<- List.append_assoc]
 simpa using this
theorem K_view(nm B:List UInt8)(us:List (List UInt8))(hu:∀u∈us,u≠[])(hn:us.length<=1048576)(hl:B.length+us.flatten.length<=1073741824):Vw (K nm B) (opsL nm us) (K nm (B++us.flatten)):=by
 have:=C.view (K nm B) (K_md nm B) (opsL nm us) (opsL_4 nm us) (by rw[opsL_len];exact hn) (λi=>K nm (B++(us.take i).flatten)) (by simp) (λi=>K_md nm _) (opsL_step nm B us hu hl)
 rw[opsL_len,List.take_length] at this
 exact this
theorem K_viewD(nm B:List UInt8)(us:List (List UInt8))(d:D)(hd:SlD d (opsL nm us))(hu:∀u∈us,u≠[])(hn:us.length<=1048576)(hl:B.length+us.flatten.length<=1073741824):VwD (K nm B) d (K nm (B++us.flatten)):=by
 have:=C.viewD (opsL nm us) d hd (opsL_4 nm us) (by rw[opsL_len];exact hn) (λi=>K nm (B++(us.take i).flatten)) (λi=>K_md nm _) (opsL_step nm B us hu hl)
 rw[opsL_len,List.take_length] at this
 simpa using this
end Go.Proofs
end
section
namespace Go.Proofs
open Go.Bi
def CrQ(kvs:List (D×AV))(r:AV)(os:List AO):Prop:=r=.tup []/\3<=os.length/\∃f p:Nat,os[0]?=some (.cells [.mp f,.arr p 0])/\os[f]?=some (.map kvs)/\os[p]?=some (.arr [] 4 0 true)/\[0,f,p].Nodup
theorem C.SyncD_at{kvs kvs':List (D×AV)}{d:D}(h:VwD kvs d kvs')(hd:MD kvs)(hd':MD kvs')(o:AO) :
  CallSpec Tryz.prog N.pdisk_Disk_Sync [.ptr 0 0] [.cells [.mp 1,.d d],.map kvs,o] (λr os=>CrQ kvs' r os):=by
 have h2:=CallSpec.frame (K:=λr os=>CrQ kvs' r os) (C.Disk_SyncD h) [0,1] [.cells [.mp 1,.d d],.map kvs,o] rfl (by decide) (λi x hx=>by
   match i with
   |0=>simp at hx;subst hx;rfl
   |1=>simp at hx;subst hx;rw[mO_md hd];rfl
   |i+2=>simp at hx) (λa ha=>by cases List.mem_singleton.1 ha;exact Nat.zero_lt_succ 1) (λx hx=>by
   rcases List.mem_cons.1 hx with rfl|hx
   ·intro c hc
    rcases List.mem_cons.1 hc with rfl|hc
    ·exact Nat.lt_succ_self 1
    ·cases List.mem_singleton.1 hc;trivial
   ·cases List.mem_singleton.1 hx;exact bnd_md hd) (λr bs' hq=>by
   obtain⟨rfl,rfl⟩:=hq
   refine⟨rfl,by(show 3<=5);decide,3,4,rfl,?_,rfl,by decide⟩
   show some (mO _ (.map kvs'))=_
   rw[mO_md hd'])
 exact h2
theorem C.Sync_at{kvs kvs':List (D×AV)}{pend:List (List D)}(h:Vw kvs pend kvs')(hd:MD kvs)(hd':MD kvs')(o o':AO) :
  CallSpec Tryz.prog N.pdisk_Disk_Sync [.ptr 0 0] [.cells [.mp 1,.arr 4 pend.length],.map kvs,o,o',.arr pend 4 0 pend.isEmpty] (λr os=>CrQ kvs' r os):=by
 have h2:=CallSpec.frame (K:=λr os=>CrQ kvs' r os) (C.Disk_Sync h) [0,1,4] [.cells [.mp 1,.arr 4 pend.length],.map kvs,o,o',.arr pend 4 0 pend.isEmpty] rfl (by decide) (λi x hx=>by
   match i with
   |0=>simp at hx;subst hx;rfl
   |1=>simp at hx;subst hx;rw[mO_md hd];rfl
   |2=>simp at hx;subst hx;rfl
   |i+3=>simp at hx) (λa ha=>by cases List.mem_singleton.1 ha;exact Nat.zero_lt_succ 2) (λx hx=>by
   rcases List.mem_cons.1 hx with rfl|hx
   ·intro c hc
    rcases List.mem_cons.1 hc with rfl|hc
    ·exact(by decide:1<3)
    ·cases List.mem_singleton.1 hc;exact(by decide:2<3)
   ·rcases List.mem_cons.1 hx with rfl|hx
    ·exact bnd_md hd
    ·cases List.mem_singleton.1 hx;trivial) (λr bs' hq=>by
   obtain⟨rfl,rfl⟩:=hq
   refine⟨rfl,by(show 3<=7);decide,5,6,rfl,?_,rfl,by decide⟩
   show some (mO _ (.map kvs'))=_
   rw[mO_md hd'])
 exact h2
theorem C.Crash_t(nm B:List UInt8)(us:List (List UInt8))(hu:∀u∈us,u≠[])(hn:us.length<=1048576)(hl:B.length+us.flatten.length<=536870912)(keep:Int)(k:Nat)(hk:k<us.length)(hmm:min (max keep 0) (us.length:Int)=k)(torn:Int)(ht:0<torn)(w:List UInt8)(hw:us[k]?=some w) :
  CallSpec Tryz.prog N.pdisk_Disk_Crash [.ptr 0 0,.d (eI keep),.d (eI torn)] (DP (K nm B) (opsL nm us)) (CrQ (K nm (B++(us.take k++[w.take torn.toNat]).flatten))):=by
 have hpl:=opsL_len nm us
 have hp4:=opsL_4 nm us
 obtain⟨P,hP⟩:∃P,P=opsL nm us:=⟨_,rfl⟩
 obtain⟨P1,hP1⟩:∃P,P=opsL nm (us.take k):=⟨_,rfl⟩
 obtain⟨P2,hP2⟩:∃P,P=opsL nm (us.drop k):=⟨_,rfl⟩
 rw[<- hP] at hpl hp4 ⊢
 have hPe:P.isEmpty=false:=by
  cases P with
  |nil=>simp at hpl;omega
  |cons=>rfl
 have hR:List.take ((P.length:Int).toNat-((k:Nat):Int).toNat) (List.drop ((k:Nat):Int).toNat P)=P2:=by
  show List.take (P.length-k) (List.drop k P)=P2
  rw[List.take_of_length_le (by simp),hP,hP2]
  simp[opsL,List.map_drop]
 have hT:List.take (((k:Nat):Int).toNat-((0:Nat):Int).toNat) (List.drop ((0:Nat):Int).toNat P)=P1:=by
  show List.take (k-0) (List.drop 0 P)=P1
  rw[hP,hP1]
  simp[opsL,List.map_take]
 rw[<- hpl] at hmm
 have l1:P1.length=k:=by rw[hP1,opsL_len];simp;omega
 have l2:P2.length=us.length-k:=by rw[hP2,opsL_len];simp
 have o1:∀e∈P1,e.length=4:=by rw[hP1];exact opsL_4 _ _
 have o2:∀e∈P2,e.length=4:=by rw[hP2];exact opsL_4 _ _
 have g2:P2[0]?=some [eI 0,.str nm,.str [],.sl (byteL w)]:=by
  rw[hP2]
  unfold opsL
  rw[List.getElem?_map,List.getElem?_drop,Nat.add_zero,hw]
  rfl
 have hwm:=List.mem_of_getElem? hw
 have hwl:=mem_flatten_le hwm
 have hwne:=hu w hwm
 have hbl:=byteL_l w
 have hb1:=byteL_1 w
 have hV:=C.Sync_at (K_view nm B (us.take k++[w.take torn.toNat]) (λu hu'=>by
  rcases List.mem_append.1 hu' with h|h
  ·exact hu u (List.mem_of_mem_take h)
  ·cases List.mem_singleton.1 h
   intro h
   have:=congrArg List.length h
   rw[List.length_take,List.length_nil] at this
   have:0<w.length:=by cases w with|nil=>exact absurd rfl hwne|cons=>simp
   omega) (by simp;omega) (by
   have:=flatten_take_le us k
   rw[List.flatten_append,List.length_append,show[w.take torn.toNat].flatten=w.take torn.toNat by simp,List.length_take]
   omega)) (K_md nm B) (K_md nm _)
 have hO:opsL nm (us.take k++[w.take torn.toNat])=P1++[[eI 0,.str nm,.str [],.sl ((byteL w).take torn.toNat)]]:=by
  rw[hP1]
  simp[opsL,byteL,List.map_take]
 rw[hO,isE_snoc] at hV
 clear hP hP1 hP2 hO
 generalize byteL w=z at *
 generalize K nm (B++(us.take k++[w.take torn.toNat]).flatten)=KF at *
 have hsl:List.take ((min torn (z.length:Int)).toNat-Int.toNat 0) (List.drop (Int.toNat 0) z)=z.take torn.toNat:=by
  show List.take ((min torn (z.length:Int)).toNat) z=z.take torn.toNat
  by_cases h:torn<=z.length
  ·rw[Int.min_eq_left h]
  ·rw[Int.min_eq_right (by omega),show((z.length:Int)).toNat=z.length from rfl,List.take_length,List.take_of_length_le (by omega)]
 unfold DP
 rw[hPe]
 refine F.pdisk_Disk_Crash.goO0 mixed rfl ?_
 repeat' first|(rw[hmm])|(rw[hR])|(rw[hT])|(rw[hsl])|refine st ?_|((with_reducible apply go_i);conv=>whnf)|refine⟨λ_=>?_,λ_=>?_⟩|fail
 all_goals first|(exfalso;omega)|skip
 refine k_cs (hV _ _) λr os' hq=>?_
 repeat' first|refine st ?_|((with_reducible apply go_i);conv=>whnf)|refine⟨λ_=>?_,λ_=>?_⟩|fail
 all_goals exact⟨rfl,hq.2⟩
theorem C.Crash_n(nm B:List UInt8)(us:List (List UInt8))(hu:∀u∈us,u≠[])(hn:us.length<=1048576)(hl:B.length+us.flatten.length<=536870912)(keep:Int)(k:Nat)(hk:k<=us.length)(hmm:min (max keep 0) (us.length:Int)=k)(torn:Int)(ht:torn<=0\/k=us.length)(hne:us≠[]) :
  CallSpec Tryz.prog N.pdisk_Disk_Crash [.ptr 0 0,.d (eI keep),.d (eI torn)] (DP (K nm B) (opsL nm us)) (CrQ (K nm (B++(us.take k).flatten))):=by
 have hpl:=opsL_len nm us
 have hp4:=opsL_4 nm us
 obtain⟨P,hP⟩:∃P,P=opsL nm us:=⟨_,rfl⟩
 obtain⟨P1,hP1⟩:∃P,P=opsL nm (us.take k):=⟨_,rfl⟩
 obtain⟨P2,hP2⟩:∃P,P=opsL nm (us.drop k):=⟨_,rfl⟩
 rw[<- hP] at hpl hp4 ⊢
 have hPe:P.isEmpty=false:=by
  cases P with
  |nil=>exact absurd (List.length_eq_zero_iff.1 (by simpa using hpl.symm)) hne
  |cons=>rfl
 have hR:List.take ((P.length:Int).toNat-((k:Nat):Int).toNat) (List.drop ((k:Nat):Int).toNat P)=P2:=by
  show List.take (P.length-k) (List.drop k P)=P2
  rw[List.take_of_length_le (by simp),hP,hP2]
  simp[opsL,List.map_drop]
 have hT:List.take (((k:Nat):Int).toNat-((0:Nat):Int).toNat) (List.drop ((0:Nat):Int).toNat P)=P1:=by
  show List.take (k-0) (List.drop 0 P)=P1
  rw[hP,hP1]
  simp[opsL,List.map_take]
 rw[<- hpl] at hmm
 have l2:P2.length=us.length-k:=by rw[hP2,opsL_len];simp
 have o2:∀e∈P2,e.length=4:=by rw[hP2];exact opsL_4 _ _
 have hV:=C.SyncD_at (K_viewD nm B (us.take k) (.sl P1) (by rw[hP1];exact .inr rfl) (λu hu'=>hu u (List.mem_of_mem_take hu')) (by simp;omega) (by
   have:=flatten_take_le us k
   omega)) (K_md nm B) (K_md nm _)
 have g2:k<us.length->∃z,P2[0]?=some [eI 0,.str nm,.str [],.sl z]:=λh=>by
  refine⟨byteL us[k],?_⟩
  rw[hP2]
  unfold opsL
  rw[List.getElem?_map,List.getElem?_drop,Nat.add_zero,List.getElem?_eq_getElem h]
  rfl
 clear hP hP1 hP2
 generalize K nm (B++(us.take k).flatten)=KF at *
 unfold DP
 rw[hPe]
 by_cases hkl:k<us.length
 ·obtain⟨z,g2⟩:=g2 hkl
  refine F.pdisk_Disk_Crash.goO0 mixed rfl ?_
  repeat' first|(rw[hmm])|(rw[hR])|(rw[hT])|refine st ?_|((with_reducible apply go_i);conv=>whnf)|refine⟨λ_=>?_,λ_=>?_⟩|fail
  all_goals first|(exfalso;omega)|skip
  all_goals
   refine k_cs (hV _) λr os' hq=>?_
   repeat' first|refine st ?_|((with_reducible apply go_i);conv=>whnf)|refine⟨λ_=>?_,λ_=>?_⟩|fail
   all_goals exact⟨rfl,hq.2⟩
 ·refine F.pdisk_Disk_Crash.goO0 mixed rfl ?_
  repeat' first|(rw[hmm])|(rw[hR])|(rw[hT])|refine st ?_|((with_reducible apply go_i);conv=>whnf)|refine⟨λ_=>?_,λ_=>?_⟩|fail
  all_goals first|(exfalso;omega)|skip
  all_goals
   refine k_cs (hV _) λr os' hq=>?_
   repeat' first|refine st ?_|((with_reducible apply go_i);conv=>whnf)|refine⟨λ_=>?_,λ_=>?_⟩|fail
   all_goals exact⟨rfl,hq.2⟩
theorem C.Crash_0(nm B:List UInt8)(hl:B.length<=536870912)(keep torn:Int) :
  CallSpec Tryz.prog N.pdisk_Disk_Crash [.ptr 0 0,.d (eI keep),.d (eI torn)] (DP (K nm B) []) (CrQ (K nm B)):=by
 have hV:=C.SyncD_at (K_viewD nm B [] .nil (.inl ⟨rfl,rfl⟩) (λu hu'=>by cases hu') (by simp) (by simp;omega)) (K_md nm B) (K_md nm _)
 rw[show B++([]:List (List UInt8)).flatten=B by simp] at hV
 have hz:([]:List (List D)).length=0:=rfl
 have hmm:min (max keep 0) (([]:List (List D)).length:Int)=0:=by
  show min (max keep 0) 0=0
  omega
 unfold DP
 refine F.pdisk_Disk_Crash.goO0 mixed rfl ?_
 repeat' first|(rw[hmm])|refine st ?_|((with_reducible apply go_i);conv=>whnf)|refine⟨λ_=>?_,λ_=>?_⟩|fail
 all_goals first|(exfalso;omega)|skip
 all_goals
  refine k_cs (hV _) λr os' hq=>?_
  repeat' first|refine st ?_|((with_reducible apply go_i);conv=>whnf)|refine⟨λ_=>?_,λ_=>?_⟩|fail
  all_goals exact⟨rfl,hq.2⟩
end Go.Proofs
end
section
namespace Go.Proofs
open Go.Bi
def fN:List UInt8:=[102,48,48,48,48,48,49]
def tN:List UInt8:=[84,79,82,78]
theorem fN_ok:fnB fN:=⟨by decide,by decide,by decide⟩
theorem tN_ok:fnB tN:=⟨by decide,by decide,by decide⟩
theorem mokL:∀(l:List (List UInt8×AV)) (s:List UInt8),mok .s (.str s) (l.map λp=>(.str p.1,p.2)):=by
 intro l s
 refine⟨λp hp=>?_,by rw[eqS];simp⟩
 obtain⟨q,_,rfl⟩:=List.mem_map.1 hp
 intro h
 cases h
theorem mok1(s a:List UInt8)(x:AV):mok .s (.str s) [(.str a,x)]:=mokL [(a,x)] s
theorem mok2(s a b:List UInt8)(x y:AV):mok .s (.str s) [(.str a,x),(.str b,y)]:=mokL [(a,x),(b,y)] s
def sD(z:List (List D)):D:=if z.isEmpty then .nil else .sl z
theorem C.wal_repair(W:List UInt8)(hC:W≠[])(hCl:W.length<=1073741824)(z:List (List D))(h1:∀e∈z,e.length=1)(hl:z.length<=1073741824) :
  CallSpec Tryz.prog N.wal_repair [.ptr 0 0,.d (.str fN),.d (.sl z)] (DP (K fN W) []) (λr os=>r=.tup []/\os=[.cells [.mp 3,.arr 4 0],.map (K fN W),.arr [[eI 0,.str tN,.str [],.sl z],[eI 2,.str tN,.str fN,.nil]] 4 0 false,.map [(.str fN,.d (sD z))],.arr [] 4 0 true]):=by
 have hKe:K fN W=[(.str fN,.d (.sl (byteL W)))]:=by
  unfold K
  rw[if_neg (by cases W with|nil=>exact absurd rfl hC|cons=>simp)]
 have hmd:=K_md fN W
 have hv0:Vw (K fN W) [] (K fN W):=by
  have:=K_view fN W [] (λu hu'=>by cases hu') (by simp) (by simp;omega)
  rwa [show W++([]:List (List UInt8)).flatten=W by simp] at this
 have hR:=C.Read hv0 hmd tN .nil false (by rw[hKe];exact mok1 _ _ _) (by rw[hKe];rfl) (.inl rfl)
 have hA:=C.Disk_Append (K fN W) hmd [] (by simp) tN tN_ok z h1 hl
 have md1:MD [(.str fN,.d (.sl (byteL W))),(.str tN,.d (sD z))]:=by
  intro p hp
  rcases List.mem_cons.1 hp with rfl|hp
  ·exact⟨_,rfl⟩
  ·cases List.mem_singleton.1 hp;exact⟨_,rfl⟩
 have md2:MD [(.str fN,.d (sD z))]:=by
  intro p hp
  cases List.mem_singleton.1 hp;exact⟨_,rfl⟩
 have a1:CallSpec Tryz.prog N.disk_apply [.mp 0,av [eI 0,.str tN,.str [],.sl z]] [.map (K fN W)] (λr os=>r=.tup []/\os=[.map [(.str fN,.d (.sl (byteL W))),(.str tN,.d (sD z))]]):=
  C.apply0 _ _ tN [] .nil z (sD z) (by rw[hKe];exact mok1 _ _ _) (by rw[hKe];rfl) (.inl ⟨rfl,rfl⟩) h1 hl (by rw[hKe];rfl) (bndB_md md1)
 have a2:CallSpec Tryz.prog N.disk_apply [.mp 0,av [eI 2,.str tN,.str fN,.nil]] [.map [(.str fN,.d (.sl (byteL W))),(.str tN,.d (sD z))]] (λr os=>r=.tup []/\os=[.map [(.str fN,.d (sD z))]]):=
  C.apply2 _ [(.str fN,.d (.sl (byteL W)))] _ tN fN (sD z) .nil (mok2 _ _ _ _ _) rfl rfl (mok1 _ _ _) rfl (bndB_md md2)
 have v1:Vw (K fN W) [[eI 0,.str tN,.str [],.sl z]] [(.str fN,.d (.sl (byteL W))),(.str tN,.d (sD z))]:=
  C.view _ hmd _ (by simp) (by simp) (λi=>match i with|0=>K fN W|_+1=>[(.str fN,.d (.sl (byteL W))),(.str tN,.d (sD z))]) rfl (λi=>by cases i;exact hmd;exact md1) (λi e he=>by
   match i,he with
   |0,he=>cases he;exact⟨_,_,_,_,rfl,a1⟩
   |i+1,he=>simp at he)
 have v2:Vw (K fN W) [[eI 0,.str tN,.str [],.sl z],[eI 2,.str tN,.str fN,.nil]] [(.str fN,.d (sD z))]:=
  C.view _ hmd _ (by simp) (by simp) (λi=>match i with|0=>K fN W|1=>[(.str fN,.d (.sl (byteL W))),(.str tN,.d (sD z))]|_+2=>[(.str fN,.d (sD z))]) rfl (λi=>by
    match i with
    |0=>exact hmd
    |1=>exact md1
    |i+2=>exact md2) (λi e he=>by
   match i,he with
   |0,he=>cases he;exact⟨_,_,_,_,rfl,a1⟩
   |1,he=>cases he;exact⟨_,_,_,_,rfl,a2⟩
   |i+2,he=>simp at he)
 have hN:=C.Disk_Rename v1 hmd (by simp) tN fN fN_ok (sD z) (mok2 _ _ _ _ _) rfl
 have hS:=C.Disk_Sync v2
 unfold DP at hR hA hN hS ⊢
 unfold fN tN at *
 generalize K [102,48,48,48,48,48,49] W=KC at *
 generalize sD z=x at *
 refine F.wal_repair.goO0 mixed rfl ?_
 repeat' first|refine st ?_|((with_reducible apply go_i);conv=>whnf)|((with_reducible first|apply k_nc|apply k_cs);(·first|exact hR|exact hA|exact hN|exact hS);(try rintro _ _ ⟨rfl,rfl⟩))|((with_reducible apply k_pr);(·first|exact hR|exact hA|exact hN|exact hS))|refine⟨λ_=>?_,λ_=>?_⟩|fail
 all_goals exact⟨rfl,rfl⟩
end Go.Proofs
end
section
namespace Go.Proofs
open Go.Bi
theorem C.frame_Len(n:Nat)(h:n<=1048576):Pure Tryz.prog N.frame_Len [.d (eI n)] (.d (eI (n+8:Nat))):=by
 refine F.frame_Len.go mixed rfl ?_
 repeat' first|refine st ?_|((with_reducible apply go_i);conv=>whnf)|refine⟨λ_=>?_,λ_=>?_⟩|fail
 all_goals first|rfl|(exfalso;omega)
abbrev LO(r b:Nat)(kvs:List (D×AV))(pend:List (List D)):List AO:=[.cells [.d (eI r),.d (eI b),.ptr 1 0,.d (.str fN)],.cells [.mp 2,.arr 3 pend.length],.map kvs,.arr pend 4 0 pend.isEmpty]
theorem C.count(r b:Nat)(kvs:List (D×AV))(hd:MD kvs)(pend:List (List D))(n:Nat)(h:n<=1048576)(hr:r<=1099511627776)(hb:b<=1099511627776) :
  CallSpec Tryz.prog N.pwal_counter_count [.ptr 0 0,.d (eI n)] (LO r b kvs pend) (λv os=>v=.tup []/\os=LO (r+1) (b+(n+8)) kvs pend):=by
 have hc:=C.frame_Len n h
 have hbb:=bndB_md hd 4
 unfold LO
 generalize pend.isEmpty=e at *
 refine F.pwal_counter_count.goX mixed rfl ?_
 repeat' first|refine st ?_|((with_reducible apply go_i);conv=>whnf)|refine⟨λ_=>?_,λ_=>?_⟩|fail
 all_goals exact⟨by(show(List.all _ λo=>AO.bndB 4 o)=true);simp only[List.all_cons,List.all_nil,hbb];rfl,rfl,rfl⟩
theorem C.count_at(r b:Nat)(kvs:List (D×AV))(hd:MD kvs)(n:Nat)(h:n<=1048576)(hr:r<=1099511627776)(hb:b<=1099511627776)(o1 o2 o3 o4:Nat)(os:List AO)(hn:[o1,o2,o3,o4].Nodup)
  (h1:os[o1]?=some (.cells [.d (eI r),.d (eI b),.ptr o2 0,.d (.str fN)])) (h2:os[o2]?=some (.cells [.mp o3,.arr o4 0])) (h3:os[o3]?=some (.map kvs)) (h4:os[o4]?=some (.arr [] 4 0 true)) :
  CallSpec Tryz.prog N.pwal_counter_count [.ptr o1 0,.d (eI n)] os (λv os'=>v=.tup []/\os'=os.set o1 (.cells [.d (eI (r+1:Nat)),.d (eI (b+(n+8):Nat)),.ptr o2 0,.d (.str fN)])):=by
 have hset:∀(i:Nat) (o:AO) (os:List AO),os[i]?=some o->os.set i o=os:=by
  intro i o os ho
  apply List.ext_getElem?
  intro j
  by_cases hi:i=j
  ·subst hi
   rw[List.getElem?_set_self (List.getElem?_eq_some_iff.1 ho).1,ho]
  ·rw[List.getElem?_set_ne hi]
 simp only[List.nodup_cons,List.mem_cons,List.not_mem_nil,or_false,not_or,List.nodup_nil,and_true,not_false_eq_true] at hn
 have h5:=CallSpec.frame (K:=λv os'=>v=.tup []/\os'=os.set o1 (.cells [.d (eI (r+1:Nat)),.d (eI (b+(n+8):Nat)),.ptr o2 0,.d (.str fN)])) (C.count r b kvs hd [] n h hr hb) [o1,o2,o3,o4] os rfl (by
   simp only[List.nodup_cons,List.mem_cons,List.not_mem_nil,or_false,not_or,List.nodup_nil,and_true,not_false_eq_true];exact hn) (λi o hx=>by
   match i with
   |0=>simp at hx;subst hx;exact h1
   |1=>simp at hx;subst hx;exact h2
   |2=>simp at hx;subst hx;rw[mO_md hd];exact h3
   |3=>simp at hx;subst hx;exact h4
   |i+4=>simp at hx) (λa ha=>by
   rcases List.mem_cons.1 ha with rfl|ha
   ·exact(by decide:0<4)
   ·cases List.mem_singleton.1 ha;trivial) (λo ho=>by
   rcases List.mem_cons.1 ho with rfl|ho
   ·intro c hc
    simp only[List.mem_cons,List.not_mem_nil,or_false] at hc
    rcases hc with rfl|rfl|rfl|rfl
    ·trivial
    ·trivial
    ·exact(by decide:1<4)
    ·trivial
   ·rcases List.mem_cons.1 ho with rfl|ho
    ·intro c hc
     simp only[List.mem_cons,List.not_mem_nil,or_false] at hc
     rcases hc with rfl|rfl
     ·exact(by decide:2<4)
     ·exact(by decide:3<4)
    ·rcases List.mem_cons.1 ho with rfl|ho
     ·exact bnd_md hd
     ·cases List.mem_singleton.1 ho;trivial) (λv bs' hq=>by
   obtain⟨rfl,rfl⟩:=hq
   refine⟨rfl,?_⟩
   show putA _ [o1,o2,o3,o4] (LO (r+1) (b+(n+8)) kvs []) os=_
   unfold LO
   simp only[putA,mO_md hd,List.map_nil,List.append_nil]
   have e1:mO (rn [o1,o2,o3,o4] os.length) (.cells [.d (eI (r+1:Nat)),.d (eI (b+(n+8):Nat)),.ptr 1 0,.d (.str fN)])=.cells [.d (eI (r+1:Nat)),.d (eI (b+(n+8):Nat)),.ptr o2 0,.d (.str fN)]:=rfl
   have e2:mO (rn [o1,o2,o3,o4] os.length) (.cells [.mp 2,.arr 3 ([]:List (List D)).length])=.cells [.mp o3,.arr o4 0]:=rfl
   have e3:mO (rn [o1,o2,o3,o4] os.length) (.arr [] 4 0 ([]:List (List D)).isEmpty)=.arr [] 4 0 true:=rfl
   rw[e1,e2,e3]
   rw[hset o2 _ _ (by rw[List.getElem?_set_ne (by omega)];exact h2)]
   rw[hset o3 _ _ (by rw[List.getElem?_set_ne (by omega)];exact h3)]
   rw[hset o4 _ _ (by rw[List.getElem?_set_ne (by omega)];exact h4)])
 exact h5
end Go.Proofs
end
section
namespace Go.Proofs
open Go.Bi
theorem fD_sl(B:List UInt8):SlD (fD B) (byteL B):=by
 unfold fD
 split
 ·rename_i h
  rw[List.isEmpty_iff.1 h]
  exact .inl ⟨rfl,rfl⟩
 ·exact .inr rfl
theorem K_v0(B:List UInt8)(h:B.length<=1073741824):Vw (K fN B) [] (K fN B):=by
 have:=K_view fN B [] (λu hu'=>by cases hu') (by simp) (by simp;omega)
 rwa [show B++([]:List (List UInt8)).flatten=B by simp] at this
theorem K_read(B:List UInt8)(h:B.length<=1073741824):CallSpec Tryz.prog N.pdisk_Disk_Read [.ptr 0 0,.d (.str fN)] (DP (K fN B) []) (λr os=>r=.tup [.d (fD B),.d (.bool (!B.isEmpty))]/\os=DP (K fN B) []):=by
 refine C.Read (K_v0 B h) (K_md fN B) fN (fD B) (!B.isEmpty) (K_mok fN B fN) ?_ ?_
 ·rw[K_get]
  unfold fD
  cases B.isEmpty<;>rfl
 ·unfold fD
  split
  ·exact .inl rfl
  ·exact .inr ⟨_,rfl,byteL_1 B,by rw[byteL_l];exact h⟩
theorem C.Open_0:CallSpec Tryz.prog N.wal_Open [.ptr 0 0,.d (.str fN)] (DP [] []) (λr os=>r=.tup [.ptr 3 0,.d .nil,.d (eI 0)]/\os=[.cells [.mp 1,.arr 2 0],.map [],.arr [] 4 0 true,.cells [.d (eI 0),.d (eI 0),.ptr 0 0,.d (.str fN)]]):=by
 have hw:=C.wal_word fN fN_ok
 have hR:=K_read [] (by simp)
 have hS:Pure Tryz.prog N.frame_Scan [.d .nil] (.tup [.d .nil,.d (eI 0)]):=C.frame_Scan .nil [] [] [] (by simp) (by simp) rfl (by rw[fr_len];simp) (by simp) (.inl ⟨rfl,rfl⟩)
 unfold DP at hR ⊢
 unfold fN at *
 have hz:([]:List (List D)).length=0:=rfl
 refine F.wal_Open.goO3 mixed rfl ?_
 repeat' first|refine st ?_|((with_reducible apply go_i);conv=>whnf)|((with_reducible first|apply k_nc|apply k_cs);(·exact hR);(try rintro _ _ ⟨rfl,rfl⟩))|((with_reducible apply k_pr);(·exact hR))|refine⟨λ_=>?_,λ_=>?_⟩|fail
 refine x_rounds 1 ?_
 refine x_round mixed ?_
 repeat' first|refine st ?_|((with_reducible apply go_i);conv=>whnf)|refine⟨λ_=>?_,λ_=>?_⟩|fail
 all_goals exact⟨rfl,rfl⟩
theorem C.Open_F(l:List (List UInt8))(t b:List UInt8)(hl:∀x∈l,x.length<=1048576)(hb:b.length<=1048576)(ht:t=(fr b).take t.length)(hs:t.length<(fr b).length)(hB:(l.flatMap fr++t).length<=1073741824)(hn:l.length<=65536) :
  CallSpec Tryz.prog N.wal_Open [.ptr 0 0,.d (.str fN)] (DP (K fN (l.flatMap fr++t)) []) (λr os=>∃j,r=.tup [.ptr j 0,.d (ng true (eBs l)),.d (eI 0)]):=by
 obtain⟨B,hBe⟩:∃B,B=l.flatMap fr++t:=⟨_,rfl⟩
 have hw:=C.wal_word fN fN_ok
 have hS:=C.frame_Scan (fD B) l t b hl hb ht hs hB (by rw[hBe];exact fD_sl _)
 rw[<- hBe] at hB ⊢
 have hR:=K_read B hB
 have e1:=eBs_len l
 have m1:=eBs_mem l
 have g1:=λi x=>@eBs_get l i x
 have sd:SlD (ng true (eBs l)) (eBs l):=sld_ng
 have hfl:(l.flatMap fr).length+t.length=B.length:=by rw[hBe,List.length_append]
 have hbl:=byteL_l B
 have hb1:=byteL_1 B
 have hKb:=bndB_md (K_md fN B)
 by_cases hte:t=[]
 ·have hfe:(l.flatMap fr).length=B.length:=by rw[hte] at hfl;simpa using hfl
  have hc:=λ(i bt:Nat) (hi:i<=65536) (hbt:bt<=i*2097152) (x:List UInt8) (hx:x∈l)=>C.count_at i bt (K fN B) (K_md fN B) x.length (hl x hx) (by omega) (by omega) 3 0 1 2 [.cells [.mp 1,.arr 2 0],.map (K fN B),.arr [] 4 0 true,.cells [.d (eI i),.d (eI bt),.ptr 0 0,.d (.str fN)]] (by decide) rfl rfl rfl rfl
  have hsl:=fD_sl B
  unfold DP at hR ⊢
  generalize fD B=x at *
  generalize (!B.isEmpty)=bb at *
  generalize K fN B=KB at *
  generalize byteL B=z at *
  generalize ng true (eBs l)=d at *
  generalize eBs l=zs at *
  generalize (l.flatMap fr).length=q at *
  unfold fN at *
  clear ht hs hBe hte
  have hbbb:∀(i bt:Nat),([AO.cells [.mp 1,.arr 2 0],.map KB,.arr [] 4 0 true,.cells [.d (eI i),.d (eI bt),.ptr 0 0,.d (.str [102,48,48,48,48,48,49])]].all λo=>o.bndB 4)=true:=λi bt=>by
   simp only[List.all_cons,List.all_nil,hKb];rfl
  refine F.wal_Open.goO3 mixed rfl ?_
  repeat' first|refine st ?_|((with_reducible apply go_i);conv=>whnf)|((with_reducible first|apply k_nc|apply k_cs);(·exact hR);(try rintro _ _ ⟨rfl,rfl⟩))|((with_reducible apply k_pr);(·exact hR))|refine⟨λ_=>?_,λ_=>?_⟩|fail
  refine x_loop2 mixed Lt.wal_Open_l0 Lk.wal_Open_l0 (λ(i:Nat) (bt:Nat)=>[.d (eI i)]) (λi bt=>[.cells [.mp 1,.arr 2 0],.map KB,.arr [] 4 0 true,.cells [.d (eI i),.d (eI bt),.ptr 0 0,.d (.str [102,48,48,48,48,48,49])]]) (λi bt=>i<=l.length/\bt<=i*2097152) (λi bt=>l.length-i) 0 0 rfl rfl rfl rfl (λi bt _=>⟨rfl,hbbb i bt⟩) rfl ⟨by omega,by omega⟩ ?_
  repeat' first|refine st ?_|((with_reducible apply go_i);conv=>whnf)|refine⟨λ_=>?_,λ_=>?_⟩|fail
  intro i bt ⟨i1,i2⟩
  cases hx:l[i]? with
  |some y=>
   have hlt:=(List.getElem?_eq_some_iff.1 hx).1
   have hgy:=g1 i y hx
   have hym:=List.mem_of_getElem? hx
   have hcy:=hc i bt (by omega) i2 y hym
   have hyl:=hl y hym
   have hybl:=byteL_l y
   rw[<- hybl] at hcy
   have hyb:SlD (.sl (byteL y)) (byteL y):=.inr rfl
   generalize byteL y=zy at *
   repeat' first|refine st ?_|((with_reducible apply go_i);conv=>whnf)|((with_reducible first|apply k_nc|apply k_cs);(·exact hcy);(try rintro _ _ ⟨rfl,rfl⟩))|((with_reducible apply k_pr);(·exact hcy))|refine⟨λ_=>?_,λ_=>?_⟩|fail
   all_goals exact⟨i+1,bt+(zy.length+8),rfl,rfl,rfl,by omega,by omega,by omega⟩
  |none=>
   have hge:=List.getElem?_eq_none_iff.1 hx
   repeat' first|refine st ?_|((with_reducible apply go_i);conv=>whnf)|refine⟨λ_=>?_,λ_=>?_⟩|fail
   all_goals first|exact⟨_,rfl⟩|(exfalso;omega)
 ·have htl:0<t.length:=by cases t with|nil=>exact absurd rfl hte|cons=>simp
  have hBn:B≠[]:=by
   intro h
   rw[h,List.length_nil] at hfl
   omega
  have hx:fD B=.sl (byteL B):=by
   unfold fD
   rw[if_neg (by cases B with|nil=>exact absurd rfl hBn|cons=>simp)]
  obtain⟨Z1,hZ1⟩:∃Z,Z=(byteL B).take (l.flatMap fr).length:=⟨_,rfl⟩
  have hT:List.take (((l.flatMap fr).length:Int).toNat-Int.toNat 0) (List.drop (Int.toNat 0) (byteL B))=Z1:=by
   rw[hZ1];rfl
  have z1:∀e∈Z1,e.length=1:=by rw[hZ1];exact λe he=>hb1 e (List.mem_of_mem_take he)
  have zl:Z1.length<=1073741824:=by rw[hZ1,List.length_take];omega
  have hRp:=C.wal_repair B hBn hB Z1 z1 zl
  have md2:MD [(.str fN,.d (sD Z1))]:=by
   intro p hp
   cases List.mem_singleton.1 hp;exact⟨_,rfl⟩
  have hc:=λ(i bt:Nat) (hi:i<=65536) (hbt:bt<=i*2097152) (x:List UInt8) (hx:x∈l)=>C.count_at i bt [(.str fN,.d (sD Z1))] md2 x.length (hl x hx) (by omega) (by omega) 5 0 3 4 [.cells [.mp 3,.arr 4 0],.map (K fN B),.arr [[eI 0,.str tN,.str [],.sl Z1],[eI 2,.str tN,.str fN,.nil]] 4 0 false,.map [(.str fN,.d (sD Z1))],.arr [] 4 0 true,.cells [.d (eI i),.d (eI bt),.ptr 0 0,.d (.str fN)]] (by decide) rfl rfl rfl rfl
  have hK2:=bndB_md md2
  rw[hx] at hS hR
  unfold DP at hR hRp ⊢
  generalize (!B.isEmpty)=bb at *
  generalize K fN B=KB at *
  generalize byteL B=z at *
  generalize ng true (eBs l)=d at *
  generalize eBs l=zs at *
  generalize (l.flatMap fr).length=q at *
  generalize ([[eI 0,.str tN,.str [],.sl Z1],[eI 2,.str tN,.str fN,.nil]]:List (List D))=ops at *
  unfold fN at *
  generalize ([(.str [102,48,48,48,48,48,49],.d (sD Z1))]:List (D×AV))=K2 at *
  clear ht hs hBe hte hZ1 hx
  have hbbb:∀(i bt:Nat),([AO.cells [.mp 3,.arr 4 0],.map KB,.arr ops 4 0 false,.map K2,.arr [] 4 0 true,.cells [.d (eI i),.d (eI bt),.ptr 0 0,.d (.str [102,48,48,48,48,48,49])]].all λo=>o.bndB 6)=true:=λi bt=>by
   simp only[List.all_cons,List.all_nil,hKb,hK2];rfl
  refine F.wal_Open.goO3 mixed rfl ?_
  repeat' first|(rw[hT])|refine st ?_|((with_reducible apply go_i);conv=>whnf)|((with_reducible first|apply k_nc|apply k_cs);(·first|exact hR|exact hRp);(try rintro _ _ ⟨rfl,rfl⟩))|((with_reducible apply k_pr);(·first|exact hR|exact hRp))|refine⟨λ_=>?_,λ_=>?_⟩|fail
  refine x_loop2 mixed Lt.wal_Open_l0 Lk.wal_Open_l0 (λ(i:Nat) (bt:Nat)=>[.d (eI i)]) (λi bt=>[.cells [.mp 3,.arr 4 0],.map KB,.arr ops 4 0 false,.map K2,.arr [] 4 0 true,.cells [.d (eI i),.d (eI bt),.ptr 0 0,.d (.str [102,48,48,48,48,48,49])]]) (λi bt=>i<=l.length/\bt<=i*2097152) (λi bt=>l.length-i) 0 0 rfl rfl rfl rfl (λi bt _=>⟨rfl,hbbb i bt⟩) rfl ⟨by omega,by omega⟩ ?_
  repeat' first|refine st ?_|((with_reducible apply go_i);conv=>whnf)|refine⟨λ_=>?_,λ_=>?_⟩|fail
  intro i bt ⟨i1,i2⟩
  cases hx:l[i]? with
  |some y=>
   have hlt:=(List.getElem?_eq_some_iff.1 hx).1
   have hgy:=g1 i y hx
   have hym:=List.mem_of_getElem? hx
   have hcy:=hc i bt (by omega) i2 y hym
   have hyl:=hl y hym
   have hybl:=byteL_l y
   rw[<- hybl] at hcy
   have hyb:SlD (.sl (byteL y)) (byteL y):=.inr rfl
   generalize byteL y=zy at *
   repeat' first|refine st ?_|((with_reducible apply go_i);conv=>whnf)|((with_reducible first|apply k_nc|apply k_cs);(·exact hcy);(try rintro _ _ ⟨rfl,rfl⟩))|((with_reducible apply k_pr);(·exact hcy))|refine⟨λ_=>?_,λ_=>?_⟩|fail
   all_goals exact⟨i+1,bt+(zy.length+8),rfl,rfl,rfl,by omega,by omega,by omega⟩
  |none=>
   have hge:=List.getElem?_eq_none_iff.1 hx
   repeat' first|refine st ?_|((with_reducible apply go_i);conv=>whnf)|refine⟨λ_=>?_,λ_=>?_⟩|fail
   all_goals first|exact⟨_,rfl⟩|(exfalso;omega)
end Go.Proofs
end
