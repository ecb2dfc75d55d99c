/- Texts of this claim, joined. No condition. -/
import Derived.Test.YtfnaleemmeejcaaGreatQ7
import Derived.Test.YtfnaleemmeejcaaGreatRows
set_option linter.unusedSimpArgs false
set_option linter.unusedVariables false
set_option maxRecDepth 10000
set_option maxHeartbeats 4000000
section
namespace Go.Proofs
open Go.Bi
def ins(l:List Int)(n:Int):List Int:=l.takeWhile (λx=>decide (x<n))++([n]++(l.dropWhile λx=>decide (x<n)).filter λx=>decide (x≠n))
end Go.Proofs
end
section
namespace Go.Proofs
open Go.Bi
structure Cd where
 op:Int
 col:Int
 v:Vl
abbrev Cd.ds(c:Cd):List D:=[eI c.op,eI c.col,eI c.v.k,eI c.v.n,.str c.v.s]
abbrev Cd.av(c:Cd):AV:=.agg [.d (eI c.op),.d (eI c.col),.d (eI c.v.k),.d (eI c.v.n),.d (.str c.v.s)]
def mir(op:Int):Int:=if op=9 then 11 else if op=11 then 9 else if op=10 then 12 else if op=12 then 10 else op
def cmpOp(op:Int):Bool:=decide (op=7\/op=9\/op=10\/op=11\/op=12)
def condP(op aop an:Int)(av:Vl)(bop bn:Int)(bv:Vl):Option Cd:=
 if aop=1 then (if bop=2/\av.k≠0/\vValid av=true then some ⟨mir op,bn,av⟩ else none)
 else if aop=2/\bop=1/\bv.k≠0/\vValid bv=true then some ⟨op,an,bv⟩ else none
def cond:Ex->Option Cd
 |.mk op _ _ _ _ [.mk aop an av _ _ _,.mk bop bn bv _ _ _]=>if cmpOp op then condP op aop an av bop bn bv else none
 |_=>none
end Go.Proofs
end
section
namespace Go.Proofs
open Go.Bi
def okA(sz:Nat)(k:Nat)(A:List (List D)):Prop:=A.length+k<=2097152/\∀e∈A,e.length=sz
end Go.Proofs
end
section
namespace Go.Proofs
open Go.Bi
theorem each_use{g:FuncId}{sz:Nat}(hsz:Nat.blt 0 sz=true){R:List (List D)}{ds:List D}(hE:CallSpec Tryz.prog N.predicate_each [.agg (ds.map .d),.clo g [0]] [.cells [.arr 1 0],.arr [] sz 0 true] (λr os=>r=.tup []/\os=[.cells [.arr 1 R.length],.arr R sz 0 R.isEmpty]))(E:List AV)(hEE:∀c∈E,∃x,c=.d x) :
  CallSpec Tryz.prog N.predicate_each [.agg (ds.map .d),.clo g [1]] [.cells E,.cells [.d .nil]] (λr os=>r=.tup []/\os=[.cells E,.cells [.arr 2 R.length],.arr R sz 0 R.isEmpty]):=by
 refine CallSpec.nilc 1 0 sz hsz (cs:=[.d .nil]) rfl rfl ?_
 have:=CallSpec.frame (K:=λr os=>r=.tup []/\os=[.cells E,.cells [.arr 2 R.length],.arr R sz 0 R.isEmpty]) hE [1,2] [.cells E,.cells [.arr 2 0],.arr [] sz 0 true] rfl (by decide) (λi o h=>by
  match i,h with
  |0,h=>cases h;rfl
  |1,h=>cases h;rfl
  |i+2,h=>simp at h) (λa ha=>by
   simp only[List.mem_cons,List.not_mem_nil,or_false] at ha
   rcases ha with rfl|rfl
   ·exact bnd_ds _ _
   ·simp[AV.bnd2,AV.bnd1]) (λo ho=>by
   simp only[List.mem_cons,List.not_mem_nil,or_false] at ho
   rcases ho with rfl|rfl<;>simp[AO.bnd,AV.bnd1]) (by rintro r bs' ⟨rfl,rfl⟩;exact⟨rfl,rfl⟩)
 rw[List.map_cons,List.map_cons,List.map_nil,mG_ds] at this
 exact this
theorem all_d(ds:List D):∀c∈ds.map AV.d,∃x,c=.d x:=λc hc=>by
 obtain⟨y,_,rfl⟩:=List.mem_map.1 hc
 exact⟨y,rfl⟩
def addX(A:List (List D))(x:Ex):List (List D):=A++[(shf 0 x).ds]
theorem addX_fold(l:List Ex):∀A,l.foldl addX A=A++xL (l.map (shf 0)):=by
 induction l with
 |nil=>intro A;simp[xL]
 |cons x l ih=>
  intro A
  rw[List.foldl_cons,ih,addX,List.append_assoc]
  simp[xL]
theorem shf_ds_len(k:Int)(x:Ex):(shf k x).ds.length=7:=by
 obtain⟨op,n,v,nm,nl,args⟩:=x
 rw[shf_mk,Ex.ds_mk];rfl
theorem C.Conjuncts_c1(x:Ex)(hx:x.bk<=1048576)(k:Nat)(A:List (List D))(hA:okA 7 (k+1) A):okA 7 k (addX A x)/\CallSpec Tryz.prog N.predicate_Conjuncts_c1 [x.av,.ptr 0 0] [.cells [.arr 1 A.length],.arr A 7 0 A.isEmpty] (λr os=>r=.tup []/\os=[.cells [.arr 1 (addX A x).length],.arr (addX A x) 7 0 (addX A x).isEmpty]):=by
 obtain⟨k1,k2⟩:=hA
 have hC:=C.expr_Shift x hx 0
 have h7:=shf_ds_len 0 x
 unfold addX
 refine⟨⟨by simp;omega,λe he=>?_⟩,?_⟩
 ·rcases List.mem_append.1 he with h|h
  ·exact k2 e h
  ·simp at h;subst h;exact h7
 obtain⟨z,hz⟩:∃z,z=shf 0 x:=⟨_,rfl⟩
 rw[<- hz] at hC ⊢
 obtain⟨op,n,v,nm,nl,args⟩:=x
 obtain⟨o2,n2,v2,m2,l2,a2⟩:=z
 rw[Ex.av_mk,Ex.av_mk] at hC
 rw[Ex.av_mk,Ex.ds_mk]
 have e1:(A++[xds o2 n2 v2 m2 (ng l2 (xL a2))]).isEmpty=false:=by simp
 rw[e1]
 obtain⟨b,hb⟩:∃b,b=A.isEmpty:=⟨_,rfl⟩
 rw[<- hb]
 have g1:0<=(A.length:Int)/\(A.length:Int)<((A++[[eI 0,eI 0,eI 0,eI 0,.str [],.str [],.nil]]).length:Nat):=by simp;omega
 have g2:(A++[[eI 0,eI 0,eI 0,eI 0,.str [],.str [],.nil]])[(A.length:Int).toNat]?=some [eI 0,eI 0,eI 0,eI 0,.str [],.str [],.nil]:=by simp
 have g3:(A++[[eI 0,eI 0,eI 0,eI 0,.str [],.str [],.nil]]).set (A.length:Int).toNat (xds o2 n2 v2 m2 (ng l2 (xL a2)))=A++[xds o2 n2 v2 m2 (ng l2 (xL a2))]:=by simp
 refine F.predicate_Conjuncts_c1.goX mixed rfl ?_
 repeat' first|refine st ?_|((with_reducible apply go_i);conv=>whnf)|refine⟨λ_=>?_,λ_=>?_⟩|fail
 all_goals exact⟨rfl,by simp⟩
theorem C.predicate_Conjuncts(e:Ex)(he:e.bk<=1048576):Pure Tryz.prog N.predicate_Conjuncts [e.av] (.d (nsl (xL ((cj e).map (shf 0))))):=by
 have hl:=cj_len e
 have hE:=(C.each_l N.predicate_Conjuncts_c1 7 addX (okA 7) C.Conjuncts_c1 e he 0 [] ⟨by simp;omega,by simp⟩).2
 rw[addX_fold,List.nil_append] at hE
 obtain⟨R,hR⟩:∃R,R=xL ((cj e).map (shf 0)):=⟨_,rfl⟩
 rw[<- hR] at hE ⊢
 obtain⟨op,n,v,nm,nl,args⟩:=e
 have hB:=each_use rfl hE ((xds op n v nm (ng nl (xL args))).map .d) (all_d _)
 rw[Ex.ds_mk] at hB
 rw[Ex.av_mk]
 refine F.predicate_Conjuncts.go mixed rfl ?_
 obtain⟨b,hb⟩:∃b,b=R.isEmpty:=⟨_,rfl⟩
 rw[<- hb] at hB
 unfold nsl
 rw[<- hb]
 cases b with
 |true=>
  repeat' first|refine st ?_|((with_reducible apply go_i);conv=>whnf)|((with_reducible first|apply k_nc|apply k_cs);(·exact hB);(try rintro _ _ ⟨rfl,rfl⟩))|((with_reducible apply k_pr);(·exact hB))|refine⟨λ_=>?_,λ_=>?_⟩|fail
  all_goals rfl
 |false=>
  repeat' first|refine st ?_|((with_reducible apply go_i);conv=>whnf)|((with_reducible first|apply k_nc|apply k_cs);(·exact hB);(try rintro _ _ ⟨rfl,rfl⟩))|((with_reducible apply k_pr);(·exact hB))|refine⟨λ_=>?_,λ_=>?_⟩|fail
  all_goals rfl
end Go.Proofs
end
section
namespace Go.Proofs
open Go.Bi
def eqP(s op aop an bop bn:Int):Option (Int×Int):=
 if op=7/\aop=2/\bop=2/\min an bn<s/\s<=max an bn then some (min an bn,max an bn) else none
def eqn(s:Int):Ex->Option (Int×Int)
 |.mk op _ _ _ _ [.mk aop an _ _ _ _,.mk bop bn _ _ _ _]=>eqP s op aop an bop bn
 |_=>none
def eqs(s:Int)(e:Ex):List (Int×Int):=(cj e).filterMap (eqn s)
end Go.Proofs
end
section
namespace Go.Proofs
open Go.Bi
abbrev T.int:TypeId:=3
abbrev T.str:TypeId:=9
abbrev T.val:TypeId:=25
abbrev T.ints:TypeId:=22
abbrev T.vals:TypeId:=78
theorem cells_int:Tryz.prog.cellsOf T.int=1:=by kernel_rfl
theorem cells_str:Tryz.prog.cellsOf T.str=1:=by kernel_rfl
theorem cells_val:Tryz.prog.cellsOf T.val=3:=by kernel_rfl
theorem wt_int{ds:List D}(h:WT Tryz.prog T.int ds):∃n,ds=[eI n]:=by
 obtain⟨a,ha,_,_⟩:=h.int' Tryz.underlying3
 exact⟨a,ha⟩
theorem wt_str{ds:List D}(h:WT Tryz.prog T.str ds):∃s,ds=[.str s]:=by
 obtain⟨a,ha,_⟩:=h.str' Tryz.underlying9
 exact⟨a,ha⟩
theorem wt_val{ds:List D}(h:WT Tryz.prog T.val ds):∃v:Vl,ds=v.ds:=by
 obtain⟨hl,hf⟩:=h.st' Tryz.underlying25
 rw[cells_val] at hl
 match ds,hl with
 |[x,y,z],_=>
  have h0:=hf _ (List.mem_cons_self ..)
  have h1:=hf _ (List.mem_cons_of_mem _ (List.mem_cons_self ..))
  have h2:=hf _ (List.mem_cons_of_mem _ (List.mem_cons_of_mem _ (List.mem_cons_self ..)))
  dsimp only at h0 h1 h2
  rw[cells_int] at h0 h1
  rw[cells_str] at h2
  obtain⟨a,ha⟩:=wt_int h0
  obtain⟨b,hb⟩:=wt_int h1
  obtain⟨s,hs⟩:=wt_str h2
  simp at ha hb hs
  exact⟨⟨a,b,s⟩,by rw[ha,hb,hs]⟩
theorem wt_ints{ds:List D}(h:WT Tryz.prog T.ints ds):∃d ks,ds=[d]/\SlD d (eIs ks):=by
 obtain⟨d,es,h1,h2,h4,h3⟩:=h.sl' Tryz.underlying22
 have:∃ks,es=eIs ks:=by
  clear h1 h2 h4
  induction es with
  |nil=>exact⟨[],rfl⟩
  |cons x es ih=>
   obtain⟨n,hn⟩:=wt_int (h3 x (by simp))
   obtain⟨ks,hk⟩:=ih λy hy=>h3 y (by simp[hy])
   exact⟨n::ks,by rw[hn,hk];rfl⟩
 obtain⟨ks,rfl⟩:=this
 exact⟨d,ks,h1,h2⟩
theorem wt_vals{ds:List D}(h:WT Tryz.prog T.vals ds):∃d row,ds=[d]/\SlD d (eVs row):=by
 obtain⟨d,es,h1,h2,h4,h3⟩:=h.sl' Tryz.underlying78
 have:∃row,es=eVs row:=by
  clear h1 h2 h4
  induction es with
  |nil=>exact⟨[],rfl⟩
  |cons x es ih=>
   obtain⟨n,hn⟩:=wt_val (h3 x (by simp))
   obtain⟨ks,hk⟩:=ih λy hy=>h3 y (by simp[hy])
   exact⟨n::ks,by rw[hn,hk];rfl⟩
 obtain⟨ks,rfl⟩:=this
 exact⟨d,ks,h1,h2⟩
theorem sld_bulk{d:D}{es:List (List D)}(h:SlD d es):bulkLL es<=bulkL [d]:=by
 rcases h with ⟨rfl,rfl⟩|rfl
 ·simp[bulkLL]
 ·simp only[bulkL,bulkD];omega
theorem bulkR(H:Type):Bulk (H:=H) Go.Proofs.YtfnaleemmeejcaaGreat.Rows.uptoBulk Go.Proofs.YtfnaleemmeejcaaGreat.Rows.uptoBulkAll where
 lit l:=by unfold Go.Proofs.YtfnaleemmeejcaaGreat.Rows.uptoBulk;split<;>simp_all
 str b:=by simp[Go.Proofs.YtfnaleemmeejcaaGreat.Rows.uptoBulk]
 nil:=by simp[Go.Proofs.YtfnaleemmeejcaaGreat.Rows.uptoBulk]
 sl es sp:=by simp[Go.Proofs.YtfnaleemmeejcaaGreat.Rows.uptoBulk]
 agg ps:=by simp[Go.Proofs.YtfnaleemmeejcaaGreat.Rows.uptoBulk]
 cons x l:=by simp[Go.Proofs.YtfnaleemmeejcaaGreat.Rows.uptoBulkAll]
end Go.Proofs
end
section
namespace Go.Proofs
open Go.Bi
abbrev T.exs:TypeId:=26
abbrev T.ex:TypeId:=28
theorem cells_exs:Tryz.prog.cellsOf T.exs=1:=by kernel_rfl
theorem cells_ex:Tryz.prog.cellsOf T.ex=7:=by kernel_rfl
theorem wt_ex'{t:TypeId}{ds:List D}(h:WT Tryz.prog t ds):(t=T.ex->∃e:Ex,ds=e.ds)/\(t=T.exs->∃nl args,ds=[ng nl (xL args)]):=by
 induction h with
 |int h=>exact⟨λe=>(by subst e;rw[Tryz.underlying28] at h;cases h),λe=>(by subst e;rw[Tryz.underlying26] at h;cases h)⟩
 |bool h=>exact⟨λe=>(by subst e;rw[Tryz.underlying28] at h;cases h),λe=>(by subst e;rw[Tryz.underlying26] at h;cases h)⟩
 |str h=>exact⟨λe=>(by subst e;rw[Tryz.underlying28] at h;cases h),λe=>(by subst e;rw[Tryz.underlying26] at h;cases h)⟩
 |nil h=>exact⟨λe=>(by subst e;rw[Tryz.underlying28] at h;cases h),λe=>⟨true,[],rfl⟩⟩
 |@sl t e es h hl hs he ih=>
  refine⟨λe=>(by subst e;rw[Tryz.underlying28] at h;cases h),λe'=>?_⟩
  subst e'
  rw[Tryz.underlying26] at h
  cases h
  have:∃l,es=xL l:=by
   clear he hs hl
   induction es with
   |nil=>exact⟨[],rfl⟩
   |cons x es ihh=>
    obtain⟨n,hn⟩:=(ih x (by simp)).1 rfl
    obtain⟨ks,hk⟩:=ihh λy hy=>ih y (by simp[hy])
    exact⟨n::ks,by rw[hn,hk];rfl⟩
  obtain⟨l,rfl⟩:=this
  exact⟨false,l,rfl⟩
 |@st t fs ds h hl hf ih=>
  refine⟨λe=>?_,λe=>(by subst e;rw[Tryz.underlying26] at h;cases h)⟩
  subst e
  rw[Tryz.underlying28] at h
  cases h
  rw[cells_ex] at hl
  match ds,hl with
  |[d0,d1,d2,d3,d4,d5,d6],_=>
   have h0:=hf _ (List.mem_cons_self ..)
   have h1:=hf _ (List.mem_cons_of_mem _ (List.mem_cons_self ..))
   have h2:=hf _ (List.mem_cons_of_mem _ (List.mem_cons_of_mem _ (List.mem_cons_self ..)))
   have h3:=hf _ (List.mem_cons_of_mem _ (List.mem_cons_of_mem _ (List.mem_cons_of_mem _ (List.mem_cons_self ..))))
   have h4:=(ih _ (List.mem_cons_of_mem _ (List.mem_cons_of_mem _ (List.mem_cons_of_mem _ (List.mem_cons_of_mem _ (List.mem_cons_self ..)))))).2 rfl
   dsimp only at h0 h1 h2 h3 h4
   rw[cells_int] at h0 h1
   rw[cells_val] at h2
   rw[cells_str] at h3
   rw[cells_exs] at h4
   obtain⟨a,ha⟩:=wt_int h0
   obtain⟨b,hb⟩:=wt_int h1
   obtain⟨v,hv⟩:=wt_val h2
   obtain⟨s,hs⟩:=wt_str h3
   obtain⟨nl,args,hx⟩:=h4
   simp at ha hb hs hx
   refine⟨.mk a b v s nl args,?_⟩
   rw[Ex.ds_mk,ha,hb,hs,hx]
   have hv:[d2,d3,d4]=[eI v.k,eI v.n,.str v.s]:=hv
   simp only[List.cons.injEq,and_true] at hv
   rw[hv.1,hv.2.1,hv.2.2]
theorem wt_ex{ds:List D}(h:WT Tryz.prog T.ex ds):∃e:Ex,ds=e.ds:=(wt_ex' h).1 rfl
end Go.Proofs
end
section
namespace Go.Proofs
open Go.Bi
theorem C.expr_Truth_of(row:List Vl)(dr:D)(op n:Int)(v:Vl)(name:List UInt8)(d:D)(r:Vl)(h:Pure Tryz.prog N.expr_Eval [eX op n v name d,.d dr] (eV r)):Pure Tryz.prog N.expr_Truth [eX op n v name d,.d dr] (.d (eI (vTruth r))):=by
 refine F.expr_Truth.go mixed rfl ?_
 repeat' first|refine st ?_|((with_reducible apply go_i);conv=>whnf)|((with_reducible first|apply k_pn|apply k_pc);(·exact C.value_Truth _))|refine⟨λ_=>?_,λ_=>?_⟩|fail
theorem evOp_3(op n:Int)(v:Vl)(l row:List Vl)(h1:op≠1)(h2:op≠2)(h3:op≠22):evOp op n v l row=(if op=4 then vOf (tNot (vTruth (l.getD 0 vNull)))
 else if op=5\/op=6 then vOf (lgF op (l.getD 0 vNull) (l.drop 1))
 else if op=21 then vBool (decide ((l.getD 0 vNull).k=0))
 else if op=23 then coa l
 else if op=24 then vRel n (l.getD 0 vNull) (l.getD 1 vNull) (l.getD 2 vNull) (l.getD 3 vNull)
 else if op=19\/op=20 then vTxt op l
 else if 13<=op/\op<=18 then vAri op l
 else vOf (vCp op (l.getD 0 vNull) (l.getD 1 vNull))):=by
 unfold evOp
 rw[if_neg h1,if_neg h2,if_neg h3]
theorem coa_drop{l:List Vl}{i:Nat}{v:Vl}(h:l[i]?=some v):coa (l.drop i)=if v.k=0 then coa (l.drop (i+1)) else v:=by
 obtain⟨hlt,he⟩:=List.getElem?_eq_some_iff.1 h
 rw[List.drop_eq_getElem_cons hlt,he];rfl
theorem C.expr_Eval(row:List Vl)(hr:row.length<=1048576)(hrs:∀v∈row,v.s.length<=1048576)(dr:D)(hdr:SlD dr (eVs row)):∀e:Ex,e.bk<=1048576->Pure Tryz.prog N.expr_Eval [e.av,.d dr] (eV (ev row e)):=by
 refine Ex.ind λop n v name nl args ih hbk=>?_
 obtain⟨b1,b2,b3,b4⟩:=Ex.bk_bounds hbk
 have ih':∀a∈args,Pure Tryz.prog N.expr_Eval [a.av,.d dr] (eV (ev row a)):=λa ha=>ih a ha (b4 a ha)
 clear ih
 rw[Ex.av_mk]
 refine F.expr_Eval.go mixed rfl ?_
 have hlen:=xL_len args
 have hF:=C.expr_formed op n v name (ng nl (xL args)) (xL args) sld_ng b2 (by omega)
 rw[hlen] at hF
 have hm:=xL_mem args
 have hd:SlD (ng nl (xL args)) (xL args):=sld_ng
 have hget:∀(i:Nat) (op' n':Int) (v':Vl) (name':List UInt8) (nl':Bool) (args':List Ex),args[i]?=some (.mk op' n' v' name' nl' args')->(xL args)[i]?=some (xds op' n' v' name' (ng nl' (xL args'))):=λi op' n' v' name' nl' args' h=>by
  rw[<- Ex.ds_mk];exact xL_get h
 obtain⟨d,hde⟩:∃d,d=ng nl (xL args):=⟨_,rfl⟩
 rw[<- hde] at hF hd ⊢
 obtain⟨es,hes⟩:∃es,es=xL args:=⟨_,rfl⟩
 rw[<- hes] at hlen hm hd hget
 rw[ev_mk]
 cases hf:fmd op n v name args.length with
 |false=>
  rw[hf] at hF
  repeat' first|refine st ?_|((with_reducible apply go_i);conv=>whnf)|((with_reducible first|apply k_pn|apply k_pc);(·exact C.value_Null))|refine⟨λ_=>?_,λ_=>?_⟩|fail
  all_goals rfl
 |true=>
 rw[hf] at hF
 rw[if_pos rfl]
 by_cases h1:op=1
 ·subst h1
  repeat' first|refine st ?_|((with_reducible apply go_i);conv=>whnf)|refine⟨λ_=>?_,λ_=>?_⟩|fail
  all_goals rfl
 by_cases h2:op=2
 ·subst h2
  have hc:=C.expr_column row hr hrs dr hdr n
  repeat' first|refine st ?_|((with_reducible apply go_i);conv=>whnf)|refine⟨λ_=>?_,λ_=>?_⟩|fail
  all_goals rfl
 have hcnt:=cnt_case (fmd_cnt hf)
 by_cases h3:op=22
 ·subst h3
  have hl3:args.length=3:=by omega
  obtain⟨a,b,c,rfl⟩:∃a b c,args=[a,b,c]:=by
   match args,hl3 with
   |[a,b,c],_=>exact⟨a,b,c,rfl⟩
  have ia:=ih' a (by simp)
  have ib:=ih' b (by simp)
  have ic:=ih' c (by simp)
  obtain⟨o0,n0,v0,m0,l0,a0⟩:=a
  obtain⟨o1,n1,v1,m1,l1,a1⟩:=b
  obtain⟨o2,n2,v2,m2,l2,a2⟩:=c
  have g0:=hget 0 _ _ _ _ _ _ rfl
  have g1:=hget 1 _ _ _ _ _ _ rfl
  have g2:=hget 2 _ _ _ _ _ _ rfl
  rw[Ex.av_mk] at ia ib ic
  have it:=C.expr_Truth_of row dr _ _ _ _ _ _ ia
  have e:evOp 22 n v (List.map (ev row) [.mk o0 n0 v0 m0 l0 a0,.mk o1 n1 v1 m1 l1 a1,.mk o2 n2 v2 m2 l2 a2]) row=if vTruth (ev row (.mk o0 n0 v0 m0 l0 a0))=2 then ev row (.mk o1 n1 v1 m1 l1 a1) else ev row (.mk o2 n2 v2 m2 l2 a2):=rfl
  rw[e]
  by_cases ht:vTruth (ev row (.mk o0 n0 v0 m0 l0 a0))=2
  ·rw[if_pos ht]
   repeat' first|refine st ?_|((with_reducible apply go_i);conv=>whnf)|refine⟨λ_=>?_,λ_=>?_⟩|fail
   all_goals rfl
  ·rw[if_neg ht]
   repeat' first|refine st ?_|((with_reducible apply go_i);conv=>whnf)|refine⟨λ_=>?_,λ_=>?_⟩|fail
   all_goals rfl
 rw[evOp_3 op n v _ row h1 h2 h3]
 have hlr:(List.replicate ((es.length:Int)).toNat z3).length=args.length:=by rw[List.length_replicate];omega
 repeat' first|refine st ?_|((with_reducible apply go_i);conv=>whnf)|refine⟨λ_=>?_,λ_=>?_⟩|fail
 refine x_loop2 mixed Lt.expr_Eval_l0 Lk.expr_Eval_l0 (λ(i:Nat) (A:List (List D))=>[.d (eI i)]) (λi A=>[.cells [.d (eI op),.d (eI n),.d (eI v.k),.d (eI v.n),.d (.str v.s),.d (.str name),.d d],.cells [.d (eI 0),.d (eI 0),.d (.str [])],.arr A 3 0 false]) (λi A=>i<=args.length/\A=Lv row args i) (λi _=>args.length-i) 0 (List.replicate ((es.length:Int)).toNat z3) rfl rfl rfl rfl (λ_ _ _=>⟨rfl,rfl⟩) rfl ⟨by omega,Lv_zero row args _ hlen⟩ ?_
 repeat' first|refine st ?_|((with_reducible apply go_i);conv=>whnf)|refine⟨λ_=>?_,λ_=>?_⟩|fail
 intro i A ⟨h4,h5⟩
 have hAl:A.length=args.length:=by rw[h5];exact Lv_len row args i h4
 have hAm:∀e∈A,e.length=3:=by rw[h5];exact Lv_mem row args i
 have hlr2:(List.replicate ((es.length:Int)).toNat [D.int .i64 0,D.int .i64 0,D.str []]).length=A.length:=by rw[List.length_replicate];omega
 cases hx:args[i]? with
 |some x=>
  have hlt:=(List.getElem?_eq_some_iff.1 hx).1
  have hI:=ih' x (List.mem_of_getElem? hx)
  have hset:=Lv_set (row:=row) hx
  obtain⟨op',n',v',name',nl',args'⟩:=x
  rw[Ex.av_mk] at hI
  have hg:=hget i _ _ _ _ _ _ hx
  have hA:=Lv_get (row:=row) hlt
  rw[<- h5] at hA hset
  repeat' first|refine st ?_|((with_reducible apply go_i);conv=>whnf)|refine⟨λ_=>?_,λ_=>?_⟩|fail
  exact⟨i+1,_,rfl,rfl,rfl,by omega,by omega,hset⟩
 |none=>
  have hge:=List.getElem?_eq_none_iff.1 hx
  rw[Lv_end hge] at h5
  clear ih' hget hF
  -- the values of the arguments
  obtain⟨l,hl⟩:∃l,l=args.map (ev row):=⟨_,rfl⟩
  have hll:l.length=args.length:=by rw[hl,List.length_map]
  have hs:=evs_s row args
  have hn:=evs_n row args
  rw[<- hl] at h5 hs hn ⊢
  subst h5
  rcases hcnt with ⟨h,k⟩|⟨h,k⟩|⟨h,k⟩|⟨h,k⟩|⟨h,k⟩|⟨h,k⟩|⟨h,k⟩
  ·omega
  ·obtain⟨a,rfl⟩:∃a,l=[a]:=by
    match l,hll.trans k with
    |[a],_=>exact⟨a,rfl⟩
   have g0:(eVs [a])[(0:Nat)]?=some a.ds:=rfl
   rcases h with rfl|rfl|rfl|rfl
   ·have hC:=C.expr_logic4 a [] (by simp)
    repeat' first|refine st ?_|((with_reducible apply go_i);conv=>whnf)|refine⟨λ_=>?_,λ_=>?_⟩|fail
    all_goals rfl
   ·have hC:=C.expr_arithmetic 18 [a] a a rfl rfl (by simp) hn ⟨by decide,by decide⟩
    repeat' first|refine st ?_|((with_reducible apply go_i);conv=>whnf)|refine⟨λ_=>?_,λ_=>?_⟩|fail
    all_goals rfl
   ·have hC:=C.expr_text 20 [a] (by simp) hs
    repeat' first|refine st ?_|((with_reducible apply go_i);conv=>whnf)|refine⟨λ_=>?_,λ_=>?_⟩|fail
    all_goals rfl
   ·repeat' first|refine st ?_|((with_reducible apply go_i);conv=>whnf)|((with_reducible first|apply k_pn|apply k_pc);(·exact C.value_Bool _))|refine⟨λ_=>?_,λ_=>?_⟩|fail
    all_goals rfl
  ·obtain⟨a,b,rfl⟩:∃a b,l=[a,b]:=by
    match l,hll.trans k with
    |[a,b],_=>exact⟨a,b,rfl⟩
   have g0:(eVs [a,b])[(0:Nat)]?=some a.ds:=rfl
   have g1:(eVs [a,b])[(1:Nat)]?=some b.ds:=rfl
   by_cases h19:op=19
   ·subst h19
    have hC:=C.expr_text 19 [a,b] (by simp) hs
    repeat' first|refine st ?_|((with_reducible apply go_i);conv=>whnf)|refine⟨λ_=>?_,λ_=>?_⟩|fail
    all_goals rfl
   by_cases h13:13<=op
   ·have hC:=C.expr_arithmetic op [a,b] a b rfl rfl (by simp) hn ⟨h13,by omega⟩
    have e:(if op=4 then vOf (tNot (vTruth ([a,b].getD 0 vNull))) else if op=5\/op=6 then vOf (lgF op ([a,b].getD 0 vNull) ([a,b].drop 1)) else if op=21 then vBool (decide (([a,b].getD 0 vNull).k=0)) else if op=23 then coa [a,b] else if op=24 then vRel n ([a,b].getD 0 vNull) ([a,b].getD 1 vNull) ([a,b].getD 2 vNull) ([a,b].getD 3 vNull) else if op=19\/op=20 then vTxt op [a,b] else if 13<=op/\op<=18 then vAri op [a,b] else vOf (vCp op ([a,b].getD 0 vNull) ([a,b].getD 1 vNull)))=vAri op [a,b]:=by
     rw[if_neg (by omega),if_neg (by omega),if_neg (by omega),if_neg (by omega),if_neg (by omega),if_neg (by omega),if_pos (by omega)]
    rw[e]
    rcases(show op=13\/op=14\/op=15\/op=16\/op=17 by omega) with rfl|rfl|rfl|rfl|rfl
    all_goals clear e
    all_goals repeat' first|refine st ?_|((with_reducible apply go_i);conv=>whnf)|refine⟨λ_=>?_,λ_=>?_⟩|fail
    all_goals rfl
   ·have e:(if op=4 then vOf (tNot (vTruth ([a,b].getD 0 vNull))) else if op=5\/op=6 then vOf (lgF op ([a,b].getD 0 vNull) ([a,b].drop 1)) else if op=21 then vBool (decide (([a,b].getD 0 vNull).k=0)) else if op=23 then coa [a,b] else if op=24 then vRel n ([a,b].getD 0 vNull) ([a,b].getD 1 vNull) ([a,b].getD 2 vNull) ([a,b].getD 3 vNull) else if op=19\/op=20 then vTxt op [a,b] else if 13<=op/\op<=18 then vAri op [a,b] else vOf (vCp op ([a,b].getD 0 vNull) ([a,b].getD 1 vNull)))=vOf (vCp op a b):=by
     rw[if_neg (by omega),if_neg (by omega),if_neg (by omega),if_neg (by omega),if_neg (by omega),if_neg (by omega),if_neg (by omega)];rfl
    rw[e]
    rcases(show op=7\/op=8\/op=9\/op=10\/op=11\/op=12 by omega) with rfl|rfl|rfl|rfl|rfl|rfl
    all_goals clear e
    all_goals repeat' first|refine st ?_|((with_reducible apply go_i);conv=>whnf)|((with_reducible first|apply k_pn|apply k_pc);(·first|exact C.expr_comparison _ _ _|exact C.value_Of _))|refine⟨λ_=>?_,λ_=>?_⟩|fail
    all_goals rfl
  ·obtain⟨a,r,rfl⟩:∃a r,l=a::r:=by
    match l,hll with
    |[],h=>simp at h;omega
    |a::r,_=>exact⟨a,r,rfl⟩
   have hC:=C.expr_logic op h a r (by simp at hll;omega)
   rcases h with rfl|rfl
   ·repeat' first|refine st ?_|((with_reducible apply go_i);conv=>whnf)|refine⟨λ_=>?_,λ_=>?_⟩|fail
    all_goals rfl
   ·repeat' first|refine st ?_|((with_reducible apply go_i);conv=>whnf)|refine⟨λ_=>?_,λ_=>?_⟩|fail
    all_goals rfl
  ·omega
  ·obtain⟨rfl⟩:=h
   have hLl:=eVs_len l
   have e:(if (23:Int)=4 then vOf (tNot (vTruth (l.getD 0 vNull))) else if (23:Int)=5\/(23:Int)=6 then vOf (lgF 23 (l.getD 0 vNull) (l.drop 1)) else if (23:Int)=21 then vBool (decide ((l.getD 0 vNull).k=0)) else if (23:Int)=23 then coa l else if (23:Int)=24 then vRel n (l.getD 0 vNull) (l.getD 1 vNull) (l.getD 2 vNull) (l.getD 3 vNull) else if (23:Int)=19\/(23:Int)=20 then vTxt 23 l else if 13<=(23:Int)/\(23:Int)<=18 then vAri 23 l else vOf (vCp 23 (l.getD 0 vNull) (l.getD 1 vNull)))=coa l:=rfl
   rw[e]
   repeat' first|refine st ?_|((with_reducible apply go_i);conv=>whnf)|refine⟨λ_=>?_,λ_=>?_⟩|fail
   refine x_loop1 mixed Lt.expr_Eval_l1 Lk.expr_Eval_l1 (λ(i:Nat)=>[.d (eI i)]) (λi=>[.cells [.d (eI 23),.d (eI n),.d (eI v.k),.d (eI v.n),.d (.str v.s),.d (.str name),.d d],.cells [.d (eI 0),.d (eI 0),.d (.str [])],.arr (eVs l) 3 0 false]) (λi=>i<=l.length/\coa l=coa (l.drop i)) (λi=>l.length-i) 0 rfl rfl rfl rfl (λ_ _=>⟨rfl,rfl⟩) rfl ⟨by omega,rfl⟩ ?_
   repeat' first|refine st ?_|((with_reducible apply go_i);conv=>whnf)|refine⟨λ_=>?_,λ_=>?_⟩|fail
   intro j ⟨h6,h7⟩
   cases hy:l[j]? with
   |some w=>
    have hlt2:=(List.getElem?_eq_some_iff.1 hy).1
    have hg2:=eVs_get hy
    rw[coa_drop hy] at h7
    by_cases hk:w.k=0
    ·rw[if_pos hk] at h7
     repeat' first|refine st ?_|((with_reducible apply go_i);conv=>whnf)|refine⟨λ_=>?_,λ_=>?_⟩|fail
     exact⟨j+1,rfl,rfl,rfl,by omega,by omega,h7⟩
    ·rw[if_neg hk] at h7
     rw[h7]
     repeat' first|refine st ?_|((with_reducible apply go_i);conv=>whnf)|refine⟨λ_=>?_,λ_=>?_⟩|fail
     all_goals rfl
   |none=>
    have hge2:=List.getElem?_eq_none_iff.1 hy
    rw[List.drop_eq_nil_of_le hge2] at h7
    rw[h7]
    repeat' first|refine st ?_|((with_reducible apply go_i);conv=>whnf)|((with_reducible first|apply k_pn|apply k_pc);(·exact C.value_Null))|refine⟨λ_=>?_,λ_=>?_⟩|fail
    all_goals rfl
  ·obtain⟨a,b,c,e,rfl⟩:∃a b c e,l=[a,b,c,e]:=by
    match l,hll.trans k with
    |[a,b,c,e],_=>exact⟨a,b,c,e,rfl⟩
   subst h
   have hC:=C.expr_related n a b c e
   repeat' first|refine st ?_|((with_reducible apply go_i);conv=>whnf)|refine⟨λ_=>?_,λ_=>?_⟩|fail
   all_goals rfl
end Go.Proofs
end
section
namespace Go.Proofs
open Go.Bi
mutual
def smE:Ex->Ex->Bool
 |.mk op n v name nl args,.mk op' n' v' name' nl' args'=>decide (op=op')&&decide (n=n')&&decide (v=v')&&decide (name=name')&&smL args args'
def smL:List Ex->List Ex->Bool
 |[],[]=>true
 |a::l,b::m=>smE a b&&smL l m
 |[],_::_=>false
 |_::_,[]=>false
end
theorem smL_eq:∀l m,smL l m=(decide (l.length=m.length)&&(l.zip m).all λp=>smE p.1 p.2)
 |[],[]=>by simp[smL]
 |a::l,b::m=>by
  rw[smL,smL_eq l m]
  simp only[List.length_cons,List.zip_cons_cons,List.all_cons]
  cases smE a b<;>simp
 |[],_::_=>by simp[smL]
 |_::_,[]=>by simp[smL]
theorem smE_mk(op n:Int)(v:Vl)(name:List UInt8)(nl:Bool)(args:List Ex)(op' n':Int)(v':Vl)(name':List UInt8)(nl':Bool)(args':List Ex):smE (.mk op n v name nl args) (.mk op' n' v' name' nl' args')=(decide (op=op')&&decide (n=n')&&decide (v=v')&&decide (name=name')&&smL args args'):=by rw[smE]
theorem all_take_succ3{α:Type}{p:α->Bool}{l:List α}{i:Nat}{x:α}(h:l[i]?=some x):(l.take (i+1)).all p=((l.take i).all p&&p x):=by
 rw[List.take_add_one,h];simp
theorem all_none3{α:Type}{p:α->Bool}{l:List α}{i:Nat}{x:α}(h:l[i]?=some x)(hx:p x=false):l.all p=false:=by
 rw[Bool.eq_false_iff]
 intro e
 have:=List.all_eq_true.1 e x (List.mem_of_getElem? h)
 rw[hx] at this;cases this
theorem xL_get'{args:List Ex}(i:Nat)(op' n':Int)(v':Vl)(name':List UInt8)(nl':Bool)(args':List Ex)(h:args[i]?=some (.mk op' n' v' name' nl' args')):(xL args)[i]?=some (xds op' n' v' name' (ng nl' (xL args'))):=by
 rw[<- Ex.ds_mk];exact xL_get h
theorem C.equalFunc(args args':List Ex)(hl:args.length<=2097152)(hl':args'.length<=2097152)(ih:∀a∈args,∀b∈args',Pure Tryz.prog N.expr_Same [a.av,b.av] (.d (.bool (smE a b))))(d d':D)(hd:SlD d (xL args))(hd':SlD d' (xL args')):Pure Tryz.prog N.slices_EqualFunc__api_Expr__api_Expr_api_Expr_api_Expr [.d d,.d d',.d (.fn N.expr_Same)] (.d (.bool (smL args args'))):=by
 refine F.slices_EqualFunc__api_Expr__api_Expr_api_Expr_api_Expr.go mixed rfl ?_
 have hlen:=xL_len args
 have hm:=xL_mem args
 have hlen':=xL_len args'
 have hm':=xL_mem args'
 have hget:=xL_get' (args:=args)
 have hget':=xL_get' (args:=args')
 obtain⟨es,hes⟩:∃es,es=xL args:=⟨_,rfl⟩
 rw[<- hes] at hlen hm hd hget
 obtain⟨es',hes'⟩:∃es,es=xL args':=⟨_,rfl⟩
 rw[<- hes'] at hlen' hm' hd' hget'
 obtain⟨q,hq⟩:∃q,q=smL args args':=⟨_,rfl⟩
 rw[<- hq]
 rw[smL_eq] at hq
 by_cases hll:args.length=args'.length
 rotate_left
 ·rw[decide_eq_false hll,Bool.false_and] at hq
  rw[hq]
  repeat' first|refine st ?_|refine⟨λ_=>?_,λ_=>?_⟩|fail
  all_goals first|rfl|(exfalso;omega)
 rw[decide_eq_true hll,Bool.true_and] at hq
 have hl2:es.length=es'.length:=by omega
 repeat' first|refine st ?_|refine⟨λ_=>?_,λ_=>?_⟩|fail
 refine x_loop1 mixed Lt.slices_EqualFunc__api_Expr__api_Expr_api_Expr_api_Expr_l0 Lk.slices_EqualFunc__api_Expr__api_Expr_api_Expr_api_Expr_l0 (λ(i:Nat)=>[.d (eI i)]) (λi=>[]) (λi=>i<=args.length/\((args.zip args').take i).all (λp=>smE p.1 p.2)=true) (λi=>args.length-i) 0 rfl rfl rfl rfl (λ_ _=>⟨rfl,rfl⟩) rfl ⟨by omega,rfl⟩ ?_
 repeat' first|refine st ?_|refine⟨λ_=>?_,λ_=>?_⟩|fail
 intro i ⟨h4,h5⟩
 cases hx:args[i]? with
 |some x=>
  have hlt:=(List.getElem?_eq_some_iff.1 hx).1
  obtain⟨y,hy⟩:∃y,args'[i]?=some y:=⟨_,List.getElem?_eq_getElem (by omega)⟩
  have hz:(args.zip args')[i]?=some (x,y):=List.getElem?_zip_eq_some.2 ⟨hx,hy⟩
  have hI:=ih x (List.mem_of_getElem? hx) y (List.mem_of_getElem? hy)
  have hs:=all_take_succ3 (p:=λp:Ex×Ex=>smE p.1 p.2) hz
  have hn:=all_none3 (p:=λp:Ex×Ex=>smE p.1 p.2) hz
  rw[h5,Bool.true_and] at hs
  dsimp only at hs hn
  obtain⟨b,hb⟩:∃b,b=smE x y:=⟨_,rfl⟩
  rw[<- hb] at hI hs hn
  obtain⟨o1,n1,v1,m1,l1,a1⟩:=x
  obtain⟨o2,n2,v2,m2,l2,a2⟩:=y
  rw[Ex.av_mk,Ex.av_mk] at hI
  have hg:=hget i _ _ _ _ _ _ hx
  have hg':es'[((i:Nat):Int).toNat]?=_:=hget' i _ _ _ _ _ _ hy
  have hlt':(i:Int)<es'.length:=by omega
  cases b with
  |true=>
   repeat' first|refine st ?_|refine⟨λ_=>?_,λ_=>?_⟩|fail
   exact⟨i+1,rfl,rfl,rfl,by omega,by omega,hs⟩
  |false=>
   rw[hn rfl] at hq
   rw[hq]
   repeat' first|refine st ?_|refine⟨λ_=>?_,λ_=>?_⟩|fail
   all_goals rfl
 |none=>
  have hge:=List.getElem?_eq_none_iff.1 hx
  rw[List.take_of_length_le (by rw[List.length_zip];omega)] at h5
  rw[h5] at hq
  rw[hq]
  repeat' first|refine st ?_|refine⟨λ_=>?_,λ_=>?_⟩|fail
  all_goals rfl
theorem C.expr_Same:∀a:Ex,a.bk<=2097152->∀b:Ex,b.bk<=2097152->Pure Tryz.prog N.expr_Same [a.av,b.av] (.d (.bool (smE a b))):=by
 refine Ex.ind λop n v name nl args ih hbk b hbb=>?_
 obtain⟨op',n',v',name',nl',args'⟩:=b
 obtain⟨b1,b2,b3,b4⟩:=Ex.bk_bounds hbk
 obtain⟨c1,c2,c3,c4⟩:=Ex.bk_bounds hbb
 have hE:=C.equalFunc args args' b1 c1 (λa ha b hb=>ih a ha (b4 a ha) b (c4 b hb)) (ng nl (xL args)) (ng nl' (xL args')) sld_ng sld_ng
 rw[Ex.av_mk,Ex.av_mk,smE_mk]
 obtain⟨d,hde⟩:∃d,d=ng nl (xL args):=⟨_,rfl⟩
 obtain⟨d',hde'⟩:∃d,d=ng nl' (xL args'):=⟨_,rfl⟩
 rw[<- hde,<- hde'] at hE ⊢
 refine F.expr_Same.go mixed rfl ?_
 obtain⟨q,hq⟩:∃q,q=smL args args':=⟨_,rfl⟩
 rw[<- hq] at hE ⊢
 have hv:decide (v=v')=(decide (v.k=v'.k)&&(decide (v.n=v'.n)&&decide (v.s=v'.s))):=by
  rw[Bool.eq_iff_iff]
  simp only[decide_eq_true_eq,Bool.and_eq_true,vl_eq]
 rw[hv]
 repeat' first|refine st ?_|refine⟨λ_=>?_,λ_=>?_⟩|fail
 all_goals simp_all
theorem C.r11_Same:∀a:Ex,a.bk<=2097152->∀b:Ex,b.bk<=2097152->Pure Tryz.prog N.bt_ref11_Same [a.av,b.av] (.d (.bool (smE a b))):=by
 refine Ex.ind λop n v name nl args ih hbk b hbb=>?_
 obtain⟨op',n',v',name',nl',args'⟩:=b
 obtain⟨b1,b2,b3,b4⟩:=Ex.bk_bounds hbk
 obtain⟨c1,c2,c3,c4⟩:=Ex.bk_bounds hbb
 have ih':∀a∈args,∀b∈args',Pure Tryz.prog N.bt_ref11_Same [a.av,b.av] (.d (.bool (smE a b))):=λa ha b hb=>ih a ha (b4 a ha) b (c4 b hb)
 clear ih
 rw[Ex.av_mk,Ex.av_mk,smE_mk]
 have hd:SlD (ng nl (xL args)) (xL args):=sld_ng
 have hd':SlD (ng nl' (xL args')) (xL args'):=sld_ng
 have hlen:=xL_len args
 have hm:=xL_mem args
 have hlen':=xL_len args'
 have hm':=xL_mem args'
 have hget:=xL_get' (args:=args)
 have hget':=xL_get' (args:=args')
 obtain⟨d,hde⟩:∃d,d=ng nl (xL args):=⟨_,rfl⟩
 obtain⟨d',hde'⟩:∃d,d=ng nl' (xL args'):=⟨_,rfl⟩
 rw[<- hde] at hd ⊢
 rw[<- hde'] at hd' ⊢
 obtain⟨es,hes⟩:∃es,es=xL args:=⟨_,rfl⟩
 rw[<- hes] at hlen hm hd hget
 obtain⟨es',hes'⟩:∃es,es=xL args':=⟨_,rfl⟩
 rw[<- hes'] at hlen' hm' hd' hget'
 refine F.bt_ref11_Same.go mixed rfl ?_
 have hv:decide (v=v')=(decide (v.k=v'.k)&&(decide (v.n=v'.n)&&decide (v.s=v'.s))):=by
  rw[Bool.eq_iff_iff]
  simp only[decide_eq_true_eq,Bool.and_eq_true,vl_eq]
 by_cases hall:op=op'/\n=n'/\v=v'/\name=name'/\args.length=args'.length
 rotate_left
 ·have hr:(decide (op=op')&&decide (n=n')&&decide (v=v')&&decide (name=name')&&smL args args')=false:=by
   rw[Bool.eq_false_iff]
   intro h
   simp only[Bool.and_eq_true,decide_eq_true_eq,smL_eq] at h
   exact hall ⟨h.1.1.1.1,h.1.1.1.2,h.1.1.2,h.1.2,h.2.1⟩
  rw[hr]
  clear hr
  have hlle:((es.length:Int)=es'.length)↔args.length=args'.length:=by omega
  rw[vl_eq] at hall
  clear hget hget' ih'
  by_cases g1:op=op'
  rotate_left
  ·repeat' first|refine st ?_|refine⟨λ_=>?_,λ_=>?_⟩|fail
   all_goals rfl
  by_cases g2:n=n'
  rotate_left
  ·repeat' first|refine st ?_|refine⟨λ_=>?_,λ_=>?_⟩|fail
   all_goals rfl
  by_cases g3:v.k=v'.k/\v.n=v'.n/\v.s=v'.s
  rotate_left
  ·repeat' first|refine st ?_|refine⟨λ_=>?_,λ_=>?_⟩|fail
   all_goals first|rfl|(exfalso;simp_all)
  obtain⟨g3,g4,g5⟩:=g3
  by_cases g6:name=name'
  rotate_left
  ·repeat' first|refine st ?_|refine⟨λ_=>?_,λ_=>?_⟩|fail
   all_goals first|rfl|(exfalso;simp_all)
  have g7:¬(es.length:Int)=es'.length:=λh=>hall ⟨g1,g2,⟨g3,g4,g5⟩,g6,hlle.1 h⟩
  repeat' first|refine st ?_|refine⟨λ_=>?_,λ_=>?_⟩|fail
  all_goals first|rfl|(exfalso;simp_all;done)|(exfalso;omega)
 obtain⟨rfl,rfl,rfl,rfl,hll⟩:=hall
 obtain⟨q,hq⟩:∃q,q=(decide (op=op)&&decide (n=n)&&decide (v=v)&&decide (name=name)&&smL args args'):=⟨_,rfl⟩
 rw[<- hq]
 rw[smL_eq,decide_eq_true hll] at hq
 simp only[decide_true,Bool.true_and] at hq
 have hl2:(es.length:Int)=es'.length:=by omega
 have hl3:es.length=es'.length:=by omega
 have r1:v.s=v.s:=rfl
 have r2:name=name:=rfl
 repeat' first|refine st ?_|refine⟨λ_=>?_,λ_=>?_⟩|fail
 refine x_loop1 mixed Lt.bt_ref11_Same_l0 Lk.bt_ref11_Same_l0 (λ(i:Nat)=>[.d (eI i)]) (λi=>[.cells [.d (eI op),.d (eI n),.d (eI v.k),.d (eI v.n),.d (.str v.s),.d (.str name),.d d],.cells [.d (eI op),.d (eI n),.d (eI v.k),.d (eI v.n),.d (.str v.s),.d (.str name),.d d']]) (λi=>i<=args.length/\((args.zip args').take i).all (λp=>smE p.1 p.2)=true) (λi=>args.length-i) 0 rfl rfl rfl rfl (λ_ _=>⟨rfl,rfl⟩) rfl ⟨by omega,rfl⟩ ?_
 repeat' first|refine st ?_|refine⟨λ_=>?_,λ_=>?_⟩|fail
 intro i ⟨h4,h5⟩
 cases hx:args[i]? with
 |some x=>
  have hlt:=(List.getElem?_eq_some_iff.1 hx).1
  obtain⟨y,hy⟩:∃y,args'[i]?=some y:=⟨_,List.getElem?_eq_getElem (by omega)⟩
  have hz:(args.zip args')[i]?=some (x,y):=List.getElem?_zip_eq_some.2 ⟨hx,hy⟩
  have hI:=ih' x (List.mem_of_getElem? hx) y (List.mem_of_getElem? hy)
  have hs:=all_take_succ3 (p:=λp:Ex×Ex=>smE p.1 p.2) hz
  have hn:=all_none3 (p:=λp:Ex×Ex=>smE p.1 p.2) hz
  rw[h5,Bool.true_and] at hs
  dsimp only at hs hn
  obtain⟨b,hb⟩:∃b,b=smE x y:=⟨_,rfl⟩
  rw[<- hb] at hI hs hn
  obtain⟨o1,n1,v1,m1,l1,a1⟩:=x
  obtain⟨o2,n2,v2,m2,l2,a2⟩:=y
  rw[Ex.av_mk,Ex.av_mk] at hI
  have hg:=hget i _ _ _ _ _ _ hx
  have hg':es'[((i:Nat):Int).toNat]?=_:=hget' i _ _ _ _ _ _ hy
  have hlt':(i:Int)<es'.length:=by omega
  cases b with
  |true=>
   repeat' first|refine st ?_|refine⟨λ_=>?_,λ_=>?_⟩|fail
   exact⟨i+1,rfl,rfl,rfl,by omega,by omega,hs⟩
  |false=>
   rw[hn rfl] at hq
   rw[hq]
   repeat' first|refine st ?_|refine⟨λ_=>?_,λ_=>?_⟩|fail
   all_goals rfl
 |none=>
  have hge:=List.getElem?_eq_none_iff.1 hx
  rw[List.take_of_length_le (by rw[List.length_zip];omega)] at h5
  rw[h5] at hq
  rw[hq]
  repeat' first|refine st ?_|refine⟨λ_=>?_,λ_=>?_⟩|fail
  all_goals rfl
end Go.Proofs
end
section
namespace Go.Proofs
open Go.Bi
theorem bulk_ng(nl:Bool)(l:List (List D)):bulkD (ng nl l)=bulkLL l+1:=by
 unfold ng
 split
 ·rename_i h
  simp only[Bool.and_eq_true,List.isEmpty_iff] at h
  rw[h.2];rfl
 ·rfl
theorem bulk_map(f:Ex->Ex)(l:List Ex)(h:∀a∈l,(f a).bk<=a.bk):bulkLL (xL (l.map f))<=bulkLL (xL l):=by
 induction l with
 |nil=>exact Nat.le_refl _
 |cons a l ih=>
  have h1:=h a (by simp)
  have h2:=ih λx hx=>h x (by simp[hx])
  unfold Ex.bk at h1
  simp only[List.map_cons,xL,bulkLL] at h2 ⊢
  omega
theorem shf_bk(k:Int):∀e:Ex,(shf k e).bk<=e.bk:=by
 refine Ex.ind λop n v nm nl args ih=>?_
 have h:=bulk_map (shf k) args ih
 rw[shf_mk,Ex.bk,Ex.bk,Ex.ds_mk,Ex.ds_mk]
 simp only[bulkL,bulkD,bulk_ng]
 omega
end Go.Proofs
end
section
namespace Go.Proofs
open Go.Bi
def allX(nl:Bool):List Ex->Ex
 |[]=>.mk 1 0 (vBool true) [] true []
 |[x]=>x
 |l=>.mk 5 0 vNull [] nl l
theorem allX_two{nl:Bool}{l:List Ex}(h:2<=l.length):allX nl l=.mk 5 0 vNull [] nl l:=by
 match l,h with
 |_::_::_,_=>rfl
theorem C.predicate_constant(v:Vl):Pure Tryz.prog N.predicate_constant [eV v] (eX 1 0 v [] .nil):=by
 refine F.predicate_constant.go mixed rfl ?_
 repeat' first|refine st ?_|refine⟨λ_=>?_,λ_=>?_⟩|fail
 all_goals rfl
theorem C.predicate_All(l:List Ex)(hb:∀x∈l,x.bk<=1048576)(hl:l.length<=1048576)(d:D)(hd:SlD d (xL l)):Pure Tryz.prog N.predicate_All [.d d] (allX false (l.map (shf 0))).av:=by
 have h1:=xL_len l
 have hm:=xL_mem l
 by_cases h0:l.length=0
 ·have hle:l=[]:=List.eq_nil_of_length_eq_zero h0
  subst hle
  rw[show(allX false (List.map (shf 0) [])).av=eX 1 0 (vBool true) [] .nil by rw[List.map_nil,allX,Ex.av_mk];rfl]
  have hB:=C.value_Bool true
  have hC:=C.predicate_constant (vBool true)
  refine F.predicate_All.go mixed rfl ?_
  obtain⟨es,hes⟩:∃es,es=xL ([]:List Ex):=⟨_,rfl⟩
  rw[<- hes] at h1 hm hd
  repeat' first|refine st ?_|refine⟨λ_=>?_,λ_=>?_⟩|fail
  all_goals rfl
 by_cases hone:l.length=1
 ·match l,hone with
  |[x],_=>
   have hS:=C.expr_Shift x (hb x (by simp)) 0
   rw[List.map_cons,List.map_nil,allX]
   have hg:=xL_get (l:=[x]) (i:=0) rfl
   obtain⟨z,hz⟩:∃z,z=shf 0 x:=⟨_,rfl⟩
   rw[<- hz] at hS ⊢
   obtain⟨es,hes⟩:∃es,es=xL [x]:=⟨_,rfl⟩
   rw[<- hes] at h1 hm hd hg
   have h1:es.length=1:=h1
   obtain⟨o1,n1,v1,m1,l1,a1⟩:=x
   obtain⟨o2,n2,v2,m2,l2,a2⟩:=z
   rw[Ex.av_mk,Ex.av_mk] at hS
   rw[Ex.av_mk]
   rw[Ex.ds_mk] at hg
   refine F.predicate_All.go mixed rfl ?_
   repeat' first|refine st ?_|refine⟨λ_=>?_,λ_=>?_⟩|fail
   all_goals rfl
 rw[allX_two (by rw[List.length_map];omega),Ex.av_mk]
 obtain⟨R,hR⟩:∃R,R=xL (l.map (shf 0)):=⟨_,rfl⟩
 rw[<- hR]
 rw[show ng false R=.sl R by unfold ng;simp]
 have hg0:=xL_get' (args:=l)
 obtain⟨es,hes⟩:∃es,es=xL l:=⟨_,rfl⟩
 rw[<- hes] at h1 hm hd hg0
 refine F.predicate_All.go mixed rfl ?_
 repeat' first|refine st ?_|refine⟨λ_=>?_,λ_=>?_⟩|fail
 refine x_nilc 1 6 7 rfl rfl rfl ?_
 refine x_loop2 mixed Lt.predicate_All_l0 Lk.predicate_All_l0 (λ(i:Nat) (w:List (List D)×Bool)=>[.d (eI i)]) (λi w=>[.cells [.d (eI 0),.d (eI 0),.d (eI 0),.d (eI 0),.d (.str []),.d (.str []),.d .nil],.cells [.d (eI 5),.d (eI 0),.d (eI 0),.d (eI 0),.d (.str []),.d (.str []),.arr 2 w.1.length],.arr w.1 7 0 w.2]) (λi w=>i<=l.length/\w.1=Mt (shf 0) l i/\w.2=w.1.isEmpty) (λi _=>l.length-i) 0 ([],true) rfl rfl rfl rfl (λ_ _ _=>⟨rfl,rfl⟩) rfl ⟨by omega,rfl,rfl⟩ ?_
 repeat' first|refine st ?_|refine⟨λ_=>?_,λ_=>?_⟩|fail
 intro i w ⟨h4,h5,h6⟩
 obtain⟨A,b⟩:=w
 dsimp only at h5 h6 ⊢
 have hAl:A.length=i:=by rw[h5];exact Mt_len _ l i (by omega)
 have hAm:∀e∈A,e.length=7:=by rw[h5];exact Mt_mem _ _ _
 cases hx:l[i]? with
 |some x=>
  have hlt:=(List.getElem?_eq_some_iff.1 hx).1
  have hs:=Mt_succ (φ:=shf 0) hx
  have hS:=C.expr_Shift x (hb x (List.mem_of_getElem? hx)) 0
  rw[<- h5] at hs
  obtain⟨z,hz⟩:∃z,z=shf 0 x:=⟨_,rfl⟩
  rw[<- hz] at hs hS
  obtain⟨o1,n1,v1,m1,l1,a1⟩:=x
  obtain⟨o2,n2,v2,m2,l2,a2⟩:=z
  have hg:=hg0 _ _ _ _ _ _ _ hx
  rw[Ex.ds_mk] at hs
  rw[Ex.av_mk,Ex.av_mk] at hS
  repeat' first|refine st ?_|refine⟨λ_=>?_,λ_=>?_⟩|fail
  exact⟨i+1,(A++[xds o2 n2 v2 m2 (ng l2 (xL a2))],false),rfl,rfl,rfl,by omega,by omega,hs,by simp⟩
 |none=>
  have hge:=List.getElem?_eq_none_iff.1 hx
  rw[Mt_end hge,<- hR] at h5
  have h7:b=false:=by rw[h6,List.isEmpty_eq_false_iff];intro h;rw[h] at hAl;simp at hAl;omega
  rw[<- h5]
  rw[h7]
  repeat' first|refine st ?_|refine⟨λ_=>?_,λ_=>?_⟩|fail
  all_goals rfl
theorem C.r12_All(nl:Bool)(l:List Ex)(hl:l.length<=1048576):Pure Tryz.prog N.bt_ref12_All [.d (ng nl (xL l))] (allX nl l).av:=by
 have h1:=xL_len l
 have hm:=xL_mem l
 have hd:SlD (ng nl (xL l)) (xL l):=sld_ng
 by_cases h0:l.length=0
 ·have hle:l=[]:=List.eq_nil_of_length_eq_zero h0
  subst hle
  rw[show(allX nl []).av=eX 1 0 (vBool true) [] .nil by rw[allX,Ex.av_mk];rfl]
  have hB:=C.r7_Bool true
  refine F.bt_ref12_All.go mixed rfl ?_
  obtain⟨d,hde⟩:∃d,d=ng nl (xL ([]:List Ex)):=⟨_,rfl⟩
  obtain⟨es,hes⟩:∃es,es=xL ([]:List Ex):=⟨_,rfl⟩
  rw[<- hde] at hd ⊢
  rw[<- hes] at h1 hm hd
  repeat' first|refine st ?_|refine⟨λ_=>?_,λ_=>?_⟩|fail
  all_goals rfl
 by_cases hone:l.length=1
 ·match l,hone with
  |[x],_=>
   have hg:=xL_get (l:=[x]) (i:=0) rfl
   obtain⟨d,hde⟩:∃d,d=ng nl (xL [x]):=⟨_,rfl⟩
   obtain⟨es,hes⟩:∃es,es=xL [x]:=⟨_,rfl⟩
   rw[<- hde] at hd ⊢
   rw[<- hes] at h1 hm hd hg
   have h1:es.length=1:=h1
   rw[allX]
   obtain⟨o1,n1,v1,m1,l1,a1⟩:=x
   rw[Ex.av_mk]
   rw[Ex.ds_mk] at hg
   refine F.bt_ref12_All.go mixed rfl ?_
   repeat' first|refine st ?_|refine⟨λ_=>?_,λ_=>?_⟩|fail
   all_goals rfl
 rw[allX_two (by omega),Ex.av_mk]
 obtain⟨d,hde⟩:∃d,d=ng nl (xL l):=⟨_,rfl⟩
 obtain⟨es,hes⟩:∃es,es=xL l:=⟨_,rfl⟩
 rw[<- hde] at hd ⊢
 rw[<- hes] at h1 hm hd
 refine F.bt_ref12_All.go mixed rfl ?_
 repeat' first|refine st ?_|refine⟨λ_=>?_,λ_=>?_⟩|fail
 all_goals first|rfl|(exfalso;omega)
end Go.Proofs
end
section
namespace Go.Proofs
open Go.Bi
def clsL(n:Int):List Int->Nat
 |[]=>0
 |z::l=>if (z::l).getD l.length 0<n then 0 else if n<=z then 1 else 2
def cls(n:Int)(x:Ex):Nat:=clsL n (cols x)
theorem cls_cases(n:Int)(x:Ex):(cls n x=0/\cols x=[])\/∃y z,(cols x)[(cols x).length-1]?=some y/\(cols x)[0]?=some z/\((cls n x=0/\y<n)\/(cls n x=1/\¬y<n/\n<=z)\/(cls n x=2/\¬y<n/\¬n<=z)):=by
 unfold cls
 cases hc:cols x with
 |nil=>exact .inl ⟨rfl,rfl⟩
 |cons z l=>
  right
  have hy:(z::l)[(z::l).length-1]?=some ((z::l).getD l.length 0):=by
   rw[List.getD_eq_getElem?_getD,List.length_cons,Nat.add_sub_cancel,List.getElem?_eq_getElem (by simp)];rfl
  refine⟨_,z,hy,rfl,?_⟩
  rw[clsL]
  by_cases h1:(z::l).getD l.length 0<n
  ·rw[if_pos h1];exact .inl ⟨rfl,h1⟩
  ·rw[if_neg h1]
   by_cases h2:n<=z
   ·rw[if_pos h2];exact .inr (.inl ⟨rfl,h1,h2⟩)
   ·rw[if_neg h2];exact .inr (.inr ⟨rfl,h1,h2⟩)
def sel(n:Int)(k:Nat)(L:List Ex):List Ex:=L.filter λx=>decide (cls n x=k)
def St7(nl:Bool)(w:List (List D)×Bool)(l:List Ex)(i:Nat):Prop:=(∀e∈w.1,e.length=7)/\w.1.length<=i/\w.1=xL l/\w.2=(nl&&w.1.isEmpty)
theorem st7_0{nl:Bool}{n:Int}{k:Nat}:St7 nl ([],nl) (sel n k ([]:List Ex)) 0:=by
 refine⟨by simp,by simp,rfl,by simp⟩
theorem st7_app(nl:Bool){n:Int}{L:List Ex}{i:Nat}{x:Ex}(hx:L[i]?=some x)(k:Nat){A:List (List D)}{c:Bool} :
  (cls n x=k->(∀e∈A,e.length=7)->A.length<=i->A=xL (sel n k (L.take i))->c=(nl&&A.isEmpty)->St7 nl (A++[x.ds],false) (sel n k (L.take (i+1))) (i+1))/\
  (cls n x≠k->(∀e∈A,e.length=7)->A.length<=i->A=xL (sel n k (L.take i))->c=(nl&&A.isEmpty)->St7 nl (A,c) (sel n k (L.take (i+1))) (i+1)):=by
 have e:L.take (i+1)=L.take i++[x]:=by rw[List.take_add_one,hx];rfl
 constructor
 ·intro h m l ea ec
  refine⟨λy hy=>?_,by simp;omega,?_,by simp⟩
  ·rcases List.mem_append.1 hy with hy|hy
   ·exact m y hy
   ·cases List.mem_singleton.1 hy
    exact xL_mem [x] _ (by simp[xL])
  ·rw[e,ea]
   unfold sel
   rw[List.filter_append]
   simp[xL,h]
 ·intro h m l ea ec
  refine⟨m,by dsimp only;omega,?_,ec⟩
  rw[e]
  unfold sel at ea ⊢
  rw[List.filter_append]
  dsimp only
  rw[ea]
  simp[h]
theorem nsl_ng(l:List (List D)):nsl l=ng true l:=by unfold nsl ng;rw[Bool.true_and]
theorem C.predicate_Split(n:Int)(e:Ex)(he:e.bk<=1048576):Pure Tryz.prog N.predicate_Split [e.av,.d (eI n)] (.tup [.d (nsl (xL (sel n 0 ((cj e).map (shf 0))))),.d (nsl (xL (sel n 1 ((cj e).map (shf 0))))),.d (nsl (xL (sel n 2 ((cj e).map (shf 0)))))]):=by
 have hj:=C.predicate_Conjuncts e he
 have hLb:∀x∈(cj e).map (shf 0),x.bk<=1048576:=λx hx=>by
  obtain⟨y,hy,rfl⟩:=List.mem_map.1 hx
  have h1:=cj_bk e y hy
  have h2:=shf_bk 0 y
  omega
 have hLl:((cj e).map (shf 0)).length<=1048576:=by rw[List.length_map];have:=cj_len e;omega
 obtain⟨L,hL⟩:∃L,L=(cj e).map (shf 0):=⟨_,rfl⟩
 rw[<- hL] at hj hLb hLl ⊢
 have hxl:=xL_len L
 have hxm:=xL_mem L
 have hsL:SlD (nsl (xL L)) (xL L):=sld_nsl
 obtain⟨dL,hdL⟩:∃d,d=nsl (xL L):=⟨_,rfl⟩
 rw[<- hdL] at hj hsL
 obtain⟨op,k,v,nm,nl,args⟩:=e
 rw[Ex.av_mk] at hj ⊢
 obtain⟨da,hda⟩:∃d,d=ng nl (xL args):=⟨_,rfl⟩
 rw[<- hda] at hj ⊢
 clear hda hdL hL he
 have r0:v.k=v.k:=rfl
 have r1:v.s=v.s:=rfl
 have r2:nm=nm:=rfl
 refine F.predicate_Split.go mixed rfl ?_
 repeat' first|refine st ?_|refine⟨λ_=>?_,λ_=>?_⟩|fail
 refine x_nil 7 7 rfl rfl ?_
 repeat' first|refine st ?_|refine⟨λ_=>?_,λ_=>?_⟩|fail
 refine x_nil 8 7 rfl rfl ?_
 repeat' first|refine st ?_|refine⟨λ_=>?_,λ_=>?_⟩|fail
 refine x_nil 9 7 rfl rfl ?_
 repeat' first|refine st ?_|refine⟨λ_=>?_,λ_=>?_⟩|fail
 refine x_loop4 mixed Lt.predicate_Split_l0 Lk.predicate_Split_l0 (λ(i:Nat) (w1 w2 w3:List (List D)×Bool)=>[.arr 1 w1.1.length,.arr 2 w2.1.length,.arr 3 w3.1.length,.d (eI i)]) (λi w1 w2 w3=>[.cells [.d (eI op),.d (eI k),.d (eI v.k),.d (eI v.n),.d (.str v.s),.d (.str nm),.d da],.arr w1.1 7 0 w1.2,.arr w2.1 7 0 w2.2,.arr w3.1 7 0 w3.2]) (λi w1 w2 w3=>i<=L.length/\St7 true w1 (sel n 0 (L.take i)) i/\St7 true w2 (sel n 1 (L.take i)) i/\St7 true w3 (sel n 2 (L.take i)) i) (λi _ _ _=>L.length-i) 0 ([],true) ([],true) ([],true) rfl rfl rfl rfl (λ_ _ _ _ _=>⟨rfl,rfl⟩) rfl ⟨Nat.zero_le _,st7_0,st7_0,st7_0⟩ ?_
 repeat' first|refine st ?_|refine⟨λ_=>?_,λ_=>?_⟩|fail
 intro i w1 w2 w3 ⟨h1,h2,h3,h4⟩
 obtain⟨A1,c1⟩:=w1
 obtain⟨A2,c2⟩:=w2
 obtain⟨A3,c3⟩:=w3
 obtain⟨m1,l1,e1,f1⟩:=h2
 obtain⟨m2,l2,e2,f2⟩:=h3
 obtain⟨m3,l3,e3,f3⟩:=h4
 dsimp only at m1 l1 e1 f1 m2 l2 e2 f2 m3 l3 e3 f3 ⊢
 cases hx:L[i]? with
 |none=>
  have hge:=List.getElem?_eq_none_iff.1 hx
  rw[List.take_of_length_le hge] at e1 e2 e3
  rw[<- e1,<- e2,<- e3]
  repeat' first|refine st ?_|refine⟨λ_=>?_,λ_=>?_⟩|fail
  all_goals
   rw[Bool.true_and] at f1 f2 f3
   rw[nsl_cnd f1,nsl_cnd f2,nsl_cnd f3]
 |some x=>
  have hlt:=(List.getElem?_eq_some_iff.1 hx).1
  have hgx:=xL_get hx
  have hxin:=List.mem_of_getElem? hx
  have hC:=C.expr_Columns x (hLb x hxin)
  have hks:SlD (colsD x) (eIs (cols x)):=colsD_sl x
  have hcl:=cols_len x
  have hxb:=hLb x hxin
  have s0:=st7_app true (n:=n) (A:=A1) (c:=c1) hx 0
  have s1:=st7_app true (n:=n) (A:=A2) (c:=c2) hx 1
  have s2:=st7_app true (n:=n) (A:=A3) (c:=c3) hx 2
  have hcs:=cls_cases n x
  obtain⟨ks,hk⟩:∃y,y=cols x:=⟨_,rfl⟩
  obtain⟨dk,hdk⟩:∃y,y=colsD x:=⟨_,rfl⟩
  rw[<- hk] at hks hcl hcs
  rw[<- hdk] at hC hks
  have hkl:=eIs_len ks
  obtain⟨o1,n1,v1,u1,b1,a1⟩:=x
  rw[Ex.ds_mk] at hgx
  rw[Ex.av_mk] at hC
  simp only[Ex.ds_mk] at s0 s1 s2
  rcases hcs with ⟨hc,hks0⟩|⟨y,z,hy,hz,hcc⟩
  ·have hks0':ks.length=0:=by rw[hks0];rfl
   rw[hc] at s0 s1 s2
   repeat' first|refine st ?_|refine⟨λ_=>?_,λ_=>?_⟩|fail
   all_goals exact⟨i+1,(A1++[_],_),(A2,c2),(A3,c3),rfl,rfl,rfl,by omega,by omega,s0.1 rfl m1 l1 e1 f1,s1.2 (by decide) m2 l2 e2 f2,s2.2 (by decide) m3 l3 e3 f3⟩
  ·have hpos:=(List.getElem?_eq_some_iff.1 hz).1
   have hg1:(eIs ks)[((ks.length:Int)-1).toNat]?=some [eI y]:=by
    rw[show((ks.length:Int)-1).toNat=ks.length-1 by omega];exact eIs_get hy
   have hg1':(eIs ks)[(((eIs ks).length:Int)-1).toNat]?=some [eI y]:=by rw[hkl];exact hg1
   have hg2:(eIs ks)[0]?=some [eI z]:=eIs_get hz
   have hg3:(eIs ks)[(0:Int).toNat]?=some [eI z]:=hg2
   have hk0:ks.length≠0:=by omega
   rcases hcc with ⟨hc,q1⟩|⟨hc,q1,q2⟩|⟨hc,q1,q2⟩
   ·rw[hc] at s0 s1 s2
    repeat' first|refine st ?_|refine⟨λ_=>?_,λ_=>?_⟩|fail
    all_goals exact⟨i+1,(A1++[_],_),(A2,c2),(A3,c3),rfl,rfl,rfl,by omega,by omega,s0.1 rfl m1 l1 e1 f1,s1.2 (by decide) m2 l2 e2 f2,s2.2 (by decide) m3 l3 e3 f3⟩
   ·rw[hc] at s0 s1 s2
    repeat' first|refine st ?_|refine⟨λ_=>?_,λ_=>?_⟩|fail
    all_goals exact⟨i+1,(A1,c1),(A2++[_],_),(A3,c3),rfl,rfl,rfl,by omega,by omega,s0.2 (by decide) m1 l1 e1 f1,s1.1 rfl m2 l2 e2 f2,s2.2 (by decide) m3 l3 e3 f3⟩
   ·rw[hc] at s0 s1 s2
    repeat' first|refine st ?_|refine⟨λ_=>?_,λ_=>?_⟩|fail
    all_goals exact⟨i+1,(A1,c1),(A2,c2),(A3++[_],_),rfl,rfl,rfl,by omega,by omega,s0.2 (by decide) m1 l1 e1 f1,s1.2 (by decide) m2 l2 e2 f2,s2.1 rfl m3 l3 e3 f3⟩
end Go.Proofs
end
