/- Texts of this claim, joined. No condition. -/
import Derived.Test.YthaildbjjlpdgaaGreatQ5
set_option linter.unusedSimpArgs false
set_option linter.unusedVariables false
set_option maxRecDepth 10000
set_option maxHeartbeats 4000000
section
namespace Go.Proofs
open Go.Bi
theorem DP_bnd{kvs:List (D×AV)}(hd:MD kvs)(pend:List (List D)):∀o∈DP kvs pend,o.bnd (DP kvs pend).length:=by
 intro o ho
 rcases List.mem_cons.1 ho with rfl|ho
 ·intro c hc
  simp only[List.mem_cons,List.not_mem_nil,or_false] at hc
  rcases hc with rfl|rfl
  ·exact(by decide:1<3)
  ·exact(by decide:2<3)
 ·rcases List.mem_cons.1 ho with rfl|ho
  ·exact bnd_md hd
  ·cases List.mem_singleton.1 ho;trivial
theorem LO_bnd(r b:Nat){kvs:List (D×AV)}(hd:MD kvs)(pend:List (List D)):∀o∈LO r b kvs pend,o.bnd (LO r b kvs pend).length:=by
 intro o ho
 rcases List.mem_cons.1 ho with rfl|ho
 ·intro c hc
  simp only[List.mem_cons,List.not_mem_nil,or_false] at hc
  rcases hc with rfl|rfl|rfl|rfl
  ·trivial
  ·trivial
  ·exact(by decide:1<4)
  ·trivial
 ·rcases List.mem_cons.1 ho with rfl|ho
  ·intro c hc
   simp only[List.mem_cons,List.not_mem_nil,or_false] at hc
   rcases hc with rfl|rfl
   ·exact(by decide:2<4)
   ·exact(by decide:3<4)
  ·rcases List.mem_cons.1 ho with rfl|ho
   ·exact bnd_md hd
   ·cases List.mem_singleton.1 ho;trivial
theorem C.Disk_Append_L(r b:Nat)(kvs:List (D×AV))(hd:MD kvs)(pend:List (List D))(hpl:pend.length<=1048576)(z:List (List D))(h1:∀e∈z,e.length=1)(hl:z.length<=1073741824) :
  CallSpec Tryz.prog N.pdisk_Disk_Append [.ptr 1 0,.d (.str fN),.d (.sl z)] (LO r b kvs pend) (λv os=>v=.d (eI 0)/\os=LO r b kvs (pend++[[eI 0,.str fN,.str [],.sl z]])):=by
 have h:=CallSpec.frame (K:=λv os=>v=.d (eI 0)/\os=LO r b kvs (pend++[[eI 0,.str fN,.str [],.sl z]])) (C.Disk_Append kvs hd pend hpl fN fN_ok z h1 hl) [1,2,3] (LO r b kvs pend) rfl (by decide) (λi o hx=>by
   match i with
   |0=>simp at hx;subst hx;rfl
   |1=>simp at hx;subst hx;rw[mO_md hd];rfl
   |2=>simp at hx;subst hx;rfl
   |i+3=>simp at hx) (λa ha=>by
   simp only[List.mem_cons,List.not_mem_nil,or_false] at ha
   rcases ha with rfl|rfl|rfl
   ·exact(by decide:0<3)
   ·trivial
   ·trivial) (DP_bnd hd pend) (λv bs' hq=>by
   obtain⟨rfl,rfl⟩:=hq
   refine⟨rfl,?_⟩
   show putA _ [1,2,3] (DP kvs (pend++[[eI 0,.str fN,.str [],.sl z]])) (LO r b kvs pend)=_
   unfold DP LO
   simp only[putA,mO_md hd,List.map_nil,List.append_nil]
   rfl)
 exact h
theorem C.Log_Append(r b:Nat)(kvs:List (D×AV))(hd:MD kvs)(pend:List (List D))(hpl:pend.length<=1048576)(hr:r<=1099511627776)(hb:b<=1099511627776)(s:List UInt8)(hs:s.length<=1048576) :
  CallSpec Tryz.prog N.pwal_Log_Append [.ptr 0 0,.d (.sl (byteL s))] (LO r b kvs pend) (λv os=>v=.d (eI 0)/\os=LO (r+1) (b+(s.length+8)) kvs (pend++[[eI 0,.str fN,.str [],.sl (byteL (fr s))]])):=by
 have hA:=C.frame_Append s hs
 have hD:=C.Disk_Append_L r b kvs hd pend hpl (byteL (fr s)) (byteL_1 _) (by rw[byteL_l,fr_len];omega)
 have hC:=C.count r b kvs hd (pend++[[eI 0,.str fN,.str [],.sl (byteL (fr s))]]) s.length hs hr hb
 have hbb:=bndB_md hd 4
 have hsl:=byteL_l s
 have hs1:SlD (.sl (byteL s)) (byteL s):=.inr rfl
 rw[<- hsl] at hC ⊢
 unfold LO at *
 rw[isE_snoc] at *
 generalize byteL s=z at *
 generalize byteL (fr s)=zf at *
 generalize pend.isEmpty=e at *
 generalize pend++[[eI 0,.str fN,.str [],.sl zf]]=P2 at *
 refine F.pwal_Log_Append.goX mixed rfl ?_
 repeat' first|refine st ?_|((with_reducible apply go_i);conv=>whnf)|((with_reducible first|apply k_nc|apply k_cs);(·first|exact hD|exact hC);(try rintro _ _ ⟨rfl,rfl⟩))|((with_reducible apply k_pr);(·first|exact hD|exact hC))|refine⟨λ_=>?_,λ_=>?_⟩|fail
 all_goals exact⟨by(show(List.all _ λo=>AO.bndB 4 o)=true);simp only[List.all_cons,List.all_nil,hbb];rfl,rfl,rfl⟩
theorem C.Log_Len(r b:Nat)(kvs:List (D×AV))(hd:MD kvs)(pend:List (List D)) :
  CallSpec Tryz.prog N.pwal_Log_Len [.ptr 0 0] (LO r b kvs pend) (λv os=>v=.d (eI r)/\os=LO r b kvs pend):=by
 have hbb:=bndB_md hd 4
 unfold LO at *
 generalize pend.isEmpty=e at *
 refine F.pwal_Log_Len.goX mixed rfl ?_
 repeat' first|refine st ?_|((with_reducible apply go_i);conv=>whnf)|refine⟨λ_=>?_,λ_=>?_⟩|fail
 all_goals exact⟨by(show(List.all _ λo=>AO.bndB 4 o)=true);simp only[List.all_cons,List.all_nil,hbb];rfl,rfl,rfl⟩
theorem C.Log_Sync(r b:Nat){kvs kvs':List (D×AV)}(hd:MD kvs)(hd':MD kvs'){pend:List (List D)}(h:Vw kvs pend kvs') :
  CallSpec Tryz.prog N.pwal_Log_Sync [.ptr 0 0] (LO r b kvs pend) (λv os=>v=.tup []/\os=[.cells [.d (eI r),.d (eI b),.ptr 1 0,.d (.str fN)],.cells [.mp 4,.arr 5 0],.map kvs,.arr pend 4 0 pend.isEmpty,.map kvs',.arr [] 4 0 true]):=by
 have hS:=CallSpec.frame (K:=λv os=>v=.tup []/\os=[.cells [.d (eI r),.d (eI b),.ptr 1 0,.d (.str fN)],.cells [.mp 4,.arr 5 0],.map kvs,.arr pend 4 0 pend.isEmpty,.map kvs',.arr [] 4 0 true]) (C.Disk_Sync h) [1,2,3] (LO r b kvs pend) rfl (by decide) (λi o hx=>by
   match i with
   |0=>simp at hx;subst hx;rfl
   |1=>simp at hx;subst hx;rw[mO_md hd];rfl
   |2=>simp at hx;subst hx;rfl
   |i+3=>simp at hx) (λa ha=>by
   cases List.mem_singleton.1 ha
   exact(by decide:0<3)) (DP_bnd hd pend) (λv bs' hq=>by
   obtain⟨rfl,rfl⟩:=hq
   refine⟨rfl,?_⟩
   show putA _ [1,2,3] [.cells [.mp 3,.arr 4 0],.map kvs,.arr pend 4 0 pend.isEmpty,.map kvs',.arr [] 4 0 true] (LO r b kvs pend)=_
   unfold LO
   simp only[putA,mO_md hd,List.map_cons,mO_md hd',List.map_nil]
   rfl)
 have hS:CallSpec Tryz.prog N.pdisk_Disk_Sync [.ptr 1 0] (LO r b kvs pend) (λv os=>v=.tup []/\os=[.cells [.d (eI r),.d (eI b),.ptr 1 0,.d (.str fN)],.cells [.mp 4,.arr 5 0],.map kvs,.arr pend 4 0 pend.isEmpty,.map kvs',.arr [] 4 0 true]):=hS
 unfold LO at *
 generalize pend.isEmpty=e at *
 refine F.pwal_Log_Sync.goO0 mixed rfl ?_
 repeat' first|refine st ?_|((with_reducible apply go_i);conv=>whnf)|((with_reducible first|apply k_nc|apply k_cs);(·exact hS);(try rintro _ _ ⟨rfl,rfl⟩))|((with_reducible apply k_pr);(·exact hS))|refine⟨λ_=>?_,λ_=>?_⟩|fail
 all_goals exact⟨rfl,rfl⟩
end Go.Proofs
end
section
namespace Go.Proofs
open Go.Bi
theorem C.SameInts(l:List Int)(hl:l.length<=1048576)(d d':D)(h:SlD d (eIs l))(h':SlD d' (eIs l)):Pure Tryz.prog N.bt_ref35_SameInts [.d d,.d d'] (.d (.bool true)):=by
 have e1:=eIs_len l
 have m1:=eIs_mem l
 have g1:=λi x=>@eIs_get l i x
 generalize eIs l=z at *
 refine F.bt_ref35_SameInts.go mixed rfl ?_
 repeat' first|refine st ?_|((with_reducible apply go_i);conv=>whnf)|refine⟨λ_=>?_,λ_=>?_⟩|fail
 refine x_loop1 mixed Lt.bt_ref35_SameInts_l0 Lk.bt_ref35_SameInts_l0 (λ(i:Nat)=>[.d (eI i)]) (λi=>[]) (λi=>i<=z.length) (λi=>z.length-i) 0 rfl rfl rfl rfl (λ_ _=>⟨rfl,rfl⟩) rfl (by omega) ?_
 repeat' first|refine st ?_|((with_reducible apply go_i);conv=>whnf)|refine⟨λ_=>?_,λ_=>?_⟩|fail
 intro i i1
 cases hc:l[i]? with
 |some x=>
  have hlt:=(List.getElem?_eq_some_iff.1 hc).1
  have hx:=g1 i x hc
  repeat' first|refine st ?_|((with_reducible apply go_i);conv=>whnf)|refine⟨λ_=>?_,λ_=>?_⟩|fail
  all_goals first|(exfalso;omega)|exact⟨i+1,rfl,rfl,rfl,by omega,by omega⟩
 |none=>
  have hge:=List.getElem?_eq_none_iff.1 hc
  repeat' first|refine st ?_|((with_reducible apply go_i);conv=>whnf)|refine⟨λ_=>?_,λ_=>?_⟩|fail
  all_goals first|rfl|(exfalso;omega)
theorem C.SameRow(l:List Vl)(hl:l.length<=1048576)(d d':D)(h:SlD d (eVs l))(h':SlD d' (eVs l)):Pure Tryz.prog N.bt_ref35_SameRow [.d d,.d d'] (.d (.bool true)):=by
 have e1:=eVs_len l
 have m1:=eVs_mem l
 have g1:=λi x=>@eVs_get l i x
 generalize eVs l=z at *
 refine F.bt_ref35_SameRow.go mixed rfl ?_
 repeat' first|refine st ?_|((with_reducible apply go_i);conv=>whnf)|refine⟨λ_=>?_,λ_=>?_⟩|fail
 refine x_loop1 mixed Lt.bt_ref35_SameRow_l0 Lk.bt_ref35_SameRow_l0 (λ(i:Nat)=>[.d (eI i)]) (λi=>[]) (λi=>i<=z.length) (λi=>z.length-i) 0 rfl rfl rfl rfl (λ_ _=>⟨rfl,rfl⟩) rfl (by omega) ?_
 repeat' first|refine st ?_|((with_reducible apply go_i);conv=>whnf)|refine⟨λ_=>?_,λ_=>?_⟩|fail
 intro i i1
 cases hc:l[i]? with
 |some x=>
  have hlt:=(List.getElem?_eq_some_iff.1 hc).1
  have hx:=g1 i x hc
  have r1:x.s=x.s:=rfl
  repeat' first|refine st ?_|((with_reducible apply go_i);conv=>whnf)|refine⟨λ_=>?_,λ_=>?_⟩|fail
  all_goals first|(exfalso;omega)|exact⟨i+1,rfl,rfl,rfl,by omega,by omega⟩
 |none=>
  have hge:=List.getElem?_eq_none_iff.1 hc
  repeat' first|refine st ?_|((with_reducible apply go_i);conv=>whnf)|refine⟨λ_=>?_,λ_=>?_⟩|fail
  all_goals first|rfl|(exfalso;omega)
theorem C.SameExpr:∀x:Ex,x.bk<=1048576->Pure Tryz.prog N.bt_ref35_SameExpr [(rdX x).av,x.av] (.d (.bool true)):=by
 refine Ex.ind λop n v nm nl args ih hbk=>?_
 have hb0:=Ex.bk_mk op n v nm nl args
 obtain⟨b1,_,_,b4⟩:=Ex.bk_bounds hbk
 have e1:=xL_len args
 have m1:=xL_mem args
 have g1:=λi x=>@xL_get args i x
 have e2:=xL_len (args.map rdX)
 have m2:=xL_mem (args.map rdX)
 have g2:=λi x=>@xL_get (args.map rdX) i x
 rw[List.length_map] at e2
 rw[rdX_mk,Ex.av_mk,Ex.av_mk]
 have d1:SlD (ng nl (xL args)) (xL args):=sld_ng
 have d2:SlD (ng true (xL (args.map rdX))) (xL (args.map rdX)):=sld_ng
 generalize ng nl (xL args)=y1 at *
 generalize ng true (xL (args.map rdX))=y2 at *
 have g2':∀(i:Nat) x,args[i]?=some x->(xL (args.map rdX))[i]?=some (rdX x).ds:=λi x hx=>g2 i (rdX x) (by rw[List.getElem?_map,hx];rfl)
 clear g2
 generalize xL (args.map rdX)=z2 at *
 generalize xL args=z1 at *
 have r1:nm=nm:=rfl
 have r2:v.s=v.s:=rfl
 refine F.bt_ref35_SameExpr.go mixed rfl ?_
 repeat' first|refine st ?_|((with_reducible apply go_i);conv=>whnf)|refine⟨λ_=>?_,λ_=>?_⟩|fail
 all_goals first|(exfalso;omega)|skip
 refine x_loop1 mixed Lt.bt_ref35_SameExpr_l0 Lk.bt_ref35_SameExpr_l0 (λ(i:Nat)=>[.d (eI i)]) (λi=>[.cells [.d (eI op),.d (eI n),.d (eI v.k),.d (eI v.n),.d (.str v.s),.d (.str nm),.d y2],.cells [.d (eI op),.d (eI n),.d (eI v.k),.d (eI v.n),.d (.str v.s),.d (.str nm),.d y1]]) (λi=>i<=z1.length) (λi=>z1.length-i) 0 rfl rfl rfl rfl (λ_ _=>⟨rfl,rfl⟩) rfl (by omega) ?_
 repeat' first|refine st ?_|((with_reducible apply go_i);conv=>whnf)|refine⟨λ_=>?_,λ_=>?_⟩|fail
 intro i i1
 cases hc:args[i]? with
 |some y=>
  have hlt:=(List.getElem?_eq_some_iff.1 hc).1
  have hx1:=g1 i y hc
  have hx2:=g2' i y hc
  have hy:=ih y (List.mem_of_getElem? hc) (b4 y (List.mem_of_getElem? hc))
  obtain⟨yop,yn,yv,ynm,ynl,yas⟩:=y
  rw[rdX_mk] at hx2 hy
  rw[Ex.av_mk,Ex.av_mk] at hy
  rw[Ex.ds_mk] at hx1 hx2
  generalize ng ynl (xL yas)=q1 at *
  generalize ng true (xL (yas.map rdX))=q2 at *
  repeat' first|refine st ?_|((with_reducible apply go_i);conv=>whnf)|refine⟨λ_=>?_,λ_=>?_⟩|fail
  all_goals first|(exfalso;omega)|exact⟨i+1,rfl,rfl,rfl,by omega,by omega⟩
 |none=>
  have hge:=List.getElem?_eq_none_iff.1 hc
  repeat' first|refine st ?_|((with_reducible apply go_i);conv=>whnf)|refine⟨λ_=>?_,λ_=>?_⟩|fail
  all_goals first|rfl|(exfalso;omega)
end Go.Proofs
end
section
namespace Go.Proofs
open Go.Bi
theorem C.SameTable(t:Ta)(hI:TaI t):Pure Tryz.prog N.bt_ref35_SameTable [av (rdTa t).ds,av t.ds] (.d (.bool true)):=by
 obtain⟨nm,n1,cs,n2,ks,n3,fs,n4,xs⟩:=t
 obtain⟨h0,⟨h1,h1'⟩,h2,⟨h3,h3'⟩,h4,h4'⟩:=hI
 simp only at h0 h1 h1' h2 h3 h3' h4 h4'
 have e1:=eCs_len cs
 have m1:=eCs_mem cs
 have g1:=λi x=>@eCs_get cs i x
 have c2:=C.SameInts ks h2 (ng true (eIs ks)) (ng n2 (eIs ks)) sld_ng sld_ng
 have e3:=eFk_len fs
 have m3:=eFk_mem fs
 have g3:=λi x=>@eFk_get fs i x
 have e4:=xL_len xs
 have m4:=xL_mem xs
 have g4:=λi x=>@xL_get xs i x
 have e3':=eFk_len (fs.map rdFk)
 have m3':=eFk_mem (fs.map rdFk)
 have g3':∀(i:Nat) x,fs[i]?=some x->(eFk (fs.map rdFk))[i]?=some (rdFk x).ds:=λi x hx=>eFk_get (by rw[List.getElem?_map,hx];rfl)
 have e4':=xL_len (xs.map rdX)
 have m4':=xL_mem (xs.map rdX)
 have g4':∀(i:Nat) x,xs[i]?=some x->(xL (xs.map rdX))[i]?=some (rdX x).ds:=λi x hx=>xL_get (by rw[List.getElem?_map,hx];rfl)
 rw[List.length_map] at e3' e4'
 have s1:SlD (ng n1 (eCs cs)) (eCs cs):=sld_ng
 have s1':SlD (ng true (eCs cs)) (eCs cs):=sld_ng
 have s3:SlD (ng n3 (eFk fs)) (eFk fs):=sld_ng
 have s3':SlD (ng true (eFk (fs.map rdFk))) (eFk (fs.map rdFk)):=sld_ng
 have s4:SlD (ng n4 (xL xs)) (xL xs):=sld_ng
 have s4':SlD (ng true (xL (xs.map rdX))) (xL (xs.map rdX)):=sld_ng
 unfold rdTa Ta.ds
 simp only
 generalize ng n1 (eCs cs)=y1 at *
 generalize ng true (eCs cs)=y1' at *
 generalize ng n2 (eIs ks)=y2 at *
 generalize ng true (eIs ks)=y2' at *
 generalize ng n3 (eFk fs)=y3 at *
 generalize ng true (eFk (fs.map rdFk))=y3' at *
 generalize ng n4 (xL xs)=y4 at *
 generalize ng true (xL (xs.map rdX))=y4' at *
 generalize eCs cs=z1 at *
 generalize eFk (fs.map rdFk)=z3' at *
 generalize eFk fs=z3 at *
 generalize xL (xs.map rdX)=z4' at *
 generalize xL xs=z4 at *
 have r1:nm=nm:=rfl
 refine F.bt_ref35_SameTable.go mixed rfl ?_
 repeat' first|refine st ?_|((with_reducible apply go_i);conv=>whnf)|refine⟨λ_=>?_,λ_=>?_⟩|fail
 all_goals first|(exfalso;omega)|skip
 refine x_loop1 mixed Lt.bt_ref35_SameTable_l0 Lk.bt_ref35_SameTable_l0 (λ(i:Nat)=>[.d (eI i)]) (λi=>[.cells [.d (.str nm),.d y1',.d y2',.d y3',.d y4'],.cells [.d (.str nm),.d y1,.d y2,.d y3,.d y4]]) (λi=>i<=z1.length) (λi=>z1.length-i) 0 rfl rfl rfl rfl (λ_ _=>⟨rfl,rfl⟩) rfl (by omega) ?_
 repeat' first|refine st ?_|((with_reducible apply go_i);conv=>whnf)|refine⟨λ_=>?_,λ_=>?_⟩|fail
 intro i i1
 cases hc:cs[i]? with
 |some x=>
  have hlt:=(List.getElem?_eq_some_iff.1 hc).1
  have hx:=g1 i x hc
  obtain⟨cn,ck,cl⟩:=x
  have hx:z1[i]?=some [.str cn,eI ck,.bool cl]:=hx
  have r2:cn=cn:=rfl
  cases cl with
  |true=>
   repeat' first|refine st ?_|((with_reducible apply go_i);conv=>whnf)|refine⟨λ_=>?_,λ_=>?_⟩|fail
   all_goals first|(exfalso;omega)|exact⟨i+1,rfl,rfl,rfl,by omega,by omega⟩
  |false=>
   repeat' first|refine st ?_|((with_reducible apply go_i);conv=>whnf)|refine⟨λ_=>?_,λ_=>?_⟩|fail
   all_goals first|(exfalso;omega)|exact⟨i+1,rfl,rfl,rfl,by omega,by omega⟩
 |none=>
  have hge:=List.getElem?_eq_none_iff.1 hc
  repeat' first|refine st ?_|((with_reducible apply go_i);conv=>whnf)|refine⟨λ_=>?_,λ_=>?_⟩|fail
  all_goals first|(exfalso;omega)|skip
  refine x_loop1 mixed Lt.bt_ref35_SameTable_l1 Lk.bt_ref35_SameTable_l1 (λ(i:Nat)=>[.d (eI i)]) (λi=>[.cells [.d (.str nm),.d y1',.d y2',.d y3',.d y4'],.cells [.d (.str nm),.d y1,.d y2,.d y3,.d y4]]) (λi=>i<=z3.length) (λi=>z3.length-i) 0 rfl rfl rfl rfl (λ_ _=>⟨rfl,rfl⟩) rfl (by omega) ?_
  repeat' first|refine st ?_|((with_reducible apply go_i);conv=>whnf)|refine⟨λ_=>?_,λ_=>?_⟩|fail
  intro i i1
  cases hc:fs[i]? with
  |some x=>
   have hlt:=(List.getElem?_eq_some_iff.1 hc).1
   have hx:=g3 i x hc
   have hx':=g3' i x hc
   have hI:=h3' x (List.mem_of_getElem? hc)
   have r2:x.tb=x.tb:=rfl
   have c3:=C.SameInts x.cs hI.1 (ng true (eIs x.cs)) (ng x.nl (eIs x.cs)) sld_ng sld_ng
   unfold rdFk Fk.ds at hx'
   unfold Fk.ds at hx
   simp only at hx'
   generalize ng true (eIs x.cs)=q1 at *
   generalize ng x.nl (eIs x.cs)=q2 at *
   repeat' first|refine st ?_|((with_reducible apply go_i);conv=>whnf)|refine⟨λ_=>?_,λ_=>?_⟩|fail
   all_goals first|(exfalso;omega)|exact⟨i+1,rfl,rfl,rfl,by omega,by omega⟩
  |none=>
   have hge:=List.getElem?_eq_none_iff.1 hc
   repeat' first|refine st ?_|((with_reducible apply go_i);conv=>whnf)|refine⟨λ_=>?_,λ_=>?_⟩|fail
   all_goals first|(exfalso;omega)|skip
   refine x_loop1 mixed Lt.bt_ref35_SameTable_l2 Lk.bt_ref35_SameTable_l2 (λ(i:Nat)=>[.d (eI i)]) (λi=>[.cells [.d (.str nm),.d y1',.d y2',.d y3',.d y4'],.cells [.d (.str nm),.d y1,.d y2,.d y3,.d y4]]) (λi=>i<=z4.length) (λi=>z4.length-i) 0 rfl rfl rfl rfl (λ_ _=>⟨rfl,rfl⟩) rfl (by omega) ?_
   repeat' first|refine st ?_|((with_reducible apply go_i);conv=>whnf)|refine⟨λ_=>?_,λ_=>?_⟩|fail
   intro i i1
   cases hc:xs[i]? with
   |some y=>
    have hlt:=(List.getElem?_eq_some_iff.1 hc).1
    have hx1:=g4 i y hc
    have hx2:=g4' i y hc
    have hy:=C.SameExpr y (h4' y (List.mem_of_getElem? hc))
    obtain⟨yop,yn,yv,ynm,ynl,yas⟩:=y
    rw[rdX_mk] at hx2 hy
    rw[Ex.av_mk,Ex.av_mk] at hy
    rw[Ex.ds_mk] at hx1 hx2
    generalize ng ynl (xL yas)=q1 at *
    generalize ng true (xL (yas.map rdX))=q2 at *
    repeat' first|refine st ?_|((with_reducible apply go_i);conv=>whnf)|refine⟨λ_=>?_,λ_=>?_⟩|fail
    all_goals first|(exfalso;omega)|exact⟨i+1,rfl,rfl,rfl,by omega,by omega⟩
   |none=>
    have hge:=List.getElem?_eq_none_iff.1 hc
    repeat' first|refine st ?_|((with_reducible apply go_i);conv=>whnf)|refine⟨λ_=>?_,λ_=>?_⟩|fail
    all_goals first|rfl|(exfalso;omega)
theorem C.SameDelta(x:De)(hI:DeI x):Pure Tryz.prog N.bt_ref35_SameDelta [av (rdDe x).ds,av x.ds] (.d (.bool true)):=by
 obtain⟨tb,n1,cl,n2,op⟩:=x
 obtain⟨h1,h2,h3,h4⟩:=hI
 simp only at h1 h2 h3 h4
 have c2:=C.SameInts cl h2 (ng true (eIs cl)) (ng n1 (eIs cl)) sld_ng sld_ng
 have e3:=eFa_len op
 have m3:=eFa_mem op
 have g3:=λi x=>@eFa_get op i x
 have e3':=eFa_len (op.map rdFa)
 have m3':=eFa_mem (op.map rdFa)
 have g3':∀(i:Nat) x,op[i]?=some x->(eFa (op.map rdFa))[i]?=some (rdFa x).ds:=λi x hx=>eFa_get (by rw[List.getElem?_map,hx];rfl)
 rw[List.length_map] at e3'
 have s3:SlD (ng n2 (eFa op)) (eFa op):=sld_ng
 have s3':SlD (ng true (eFa (op.map rdFa))) (eFa (op.map rdFa)):=sld_ng
 unfold rdDe De.ds
 simp only
 generalize ng n1 (eIs cl)=y1 at *
 generalize ng true (eIs cl)=y1' at *
 generalize ng n2 (eFa op)=y2 at *
 generalize ng true (eFa (op.map rdFa))=y2' at *
 generalize eFa (op.map rdFa)=z3' at *
 generalize eFa op=z3 at *
 have r1:tb=tb:=rfl
 refine F.bt_ref35_SameDelta.go mixed rfl ?_
 repeat' first|refine st ?_|((with_reducible apply go_i);conv=>whnf)|refine⟨λ_=>?_,λ_=>?_⟩|fail
 all_goals first|(exfalso;omega)|skip
 refine x_loop1 mixed Lt.bt_ref35_SameDelta_l0 Lk.bt_ref35_SameDelta_l0 (λ(i:Nat)=>[.d (eI i)]) (λi=>[.cells [.d (.str tb),.d y1',.d y2'],.cells [.d (.str tb),.d y1,.d y2]]) (λi=>i<=z3.length) (λi=>z3.length-i) 0 rfl rfl rfl rfl (λ_ _=>⟨rfl,rfl⟩) rfl (by omega) ?_
 repeat' first|refine st ?_|((with_reducible apply go_i);conv=>whnf)|refine⟨λ_=>?_,λ_=>?_⟩|fail
 intro i i1
 cases hc:op[i]? with
 |some x=>
  have hlt:=(List.getElem?_eq_some_iff.1 hc).1
  have hx:=g3 i x hc
  have hx':=g3' i x hc
  have hI:=h4 x (List.mem_of_getElem? hc)
  have c3:=C.SameRow x.r hI.1 (ng false (eVs x.r)) (ng x.nl (eVs x.r)) sld_ng sld_ng
  unfold rdFa Fa.ds at hx'
  unfold Fa.ds at hx
  simp only at hx'
  generalize ng false (eVs x.r)=q1 at *
  generalize ng x.nl (eVs x.r)=q2 at *
  repeat' first|refine st ?_|((with_reducible apply go_i);conv=>whnf)|refine⟨λ_=>?_,λ_=>?_⟩|fail
  all_goals first|(exfalso;omega)|exact⟨i+1,rfl,rfl,rfl,by omega,by omega⟩
 |none=>
  have hge:=List.getElem?_eq_none_iff.1 hc
  repeat' first|refine st ?_|((with_reducible apply go_i);conv=>whnf)|refine⟨λ_=>?_,λ_=>?_⟩|fail
  all_goals first|rfl|(exfalso;omega)
end Go.Proofs
end
section
namespace Go.Proofs
open Go.Bi
def rE(e:Ey):Ey:=⟨e.tm,e.tb,rdTa e.cr,e.ch⟩
theorem rE_eq{e:Ey}(h:eyB e=true):rdEy e=rE e:=by
 unfold eyB at h
 rw[Bool.and_eq_true,Bool.and_eq_true] at h
 obtain⟨h1,h2,h3⟩:=h
 unfold rdEy rE
 by_cases hk:e.ch.k=0
 ·rw[if_pos hk,Bool.and_eq_true] at h3
  rw[if_pos hk,cgZ_eq h3.1]
 ·rw[if_neg hk,Bool.and_eq_true] at h3
  rw[if_neg hk]
  obtain⟨g1,g2,g3,g4,g5⟩:=blB_eq h3.2
  unfold rdTa zTa
  rw[g1,g2,g3,g4,g5]
  rfl
theorem C.SameEntries(l:List Ey)(hl:l.length<=1048576)(hI:∀e∈l,EyI e)(d d':D)(h:SlD d (eEy (l.map rE)))(h':SlD d' (eEy l)):Pure Tryz.prog N.bt_ref35_SameEntries [.d d,.d d'] (.d (.bool true)):=by
 have e1:=eEy_len l
 have m1:=eEy_mem l
 have g1:=λi x=>@eEy_get l i x
 have e1':=eEy_len (l.map rE)
 have m1':=eEy_mem (l.map rE)
 have g1':∀(i:Nat) x,l[i]?=some x->(eEy (l.map rE))[i]?=some (rE x).ds:=λi x hx=>eEy_get (by rw[List.getElem?_map,hx];rfl)
 rw[List.length_map] at e1'
 generalize eEy (l.map rE)=z1' at *
 generalize eEy l=z1 at *
 refine F.bt_ref35_SameEntries.go mixed rfl ?_
 repeat' first|refine st ?_|((with_reducible apply go_i);conv=>whnf)|refine⟨λ_=>?_,λ_=>?_⟩|fail
 all_goals first|(exfalso;omega)|skip
 refine x_loop1 mixed Lt.bt_ref35_SameEntries_l0 Lk.bt_ref35_SameEntries_l0 (λ(i:Nat)=>[.d (eI i)]) (λi=>[]) (λi=>i<=z1.length) (λi=>z1.length-i) 0 rfl rfl rfl rfl (λ_ _=>⟨rfl,rfl⟩) rfl (by omega) ?_
 repeat' first|refine st ?_|((with_reducible apply go_i);conv=>whnf)|refine⟨λ_=>?_,λ_=>?_⟩|fail
 intro i i1
 cases hc:l[i]? with
 |some x=>
  have hlt:=(List.getElem?_eq_some_iff.1 hc).1
  have hx:=g1 i x hc
  have hx':=g1' i x hc
  have hT:=C.SameTable x.cr (hI x (List.mem_of_getElem? hc)).2.1
  obtain⟨tm,tb,⟨a1,n1,b1,n2,c1,n3,d1,n4,f1⟩,⟨k,nm,to,⟨cn,ck,cl⟩,⟨dk,dn,dS⟩⟩⟩:=x
  unfold rE rdTa Ey.ds at hx'
  unfold Ey.ds at hx
  unfold rdTa Ta.ds at hT
  simp only at hx hx' hT
  generalize ng n1 (eCs b1)=q1 at *
  generalize ng n2 (eIs c1)=q2 at *
  generalize ng n3 (eFk d1)=q3 at *
  generalize ng n4 (xL f1)=q4 at *
  generalize ng true (eCs b1)=q1' at *
  generalize ng true (eIs c1)=q2' at *
  generalize ng true (eFk (d1.map rdFk))=q3' at *
  generalize ng true (xL (f1.map rdX))=q4' at *
  have r1:tb=tb:=rfl
  have r2:nm=nm:=rfl
  have r3:to=to:=rfl
  have r4:cn=cn:=rfl
  have r5:dS=dS:=rfl
  cases cl with
  |true=>
   have rb:(true==true)=true:=rfl
   repeat' first|refine st ?_|((with_reducible apply go_i);conv=>whnf)|refine⟨λ_=>?_,λ_=>?_⟩|fail
   all_goals first|(exfalso;omega)|exact⟨i+1,rfl,rfl,rfl,by omega,by omega⟩
  |false=>
   have rb:(false==false)=true:=rfl
   repeat' first|refine st ?_|((with_reducible apply go_i);conv=>whnf)|refine⟨λ_=>?_,λ_=>?_⟩|fail
   all_goals first|(exfalso;omega)|exact⟨i+1,rfl,rfl,rfl,by omega,by omega⟩
 |none=>
  have hge:=List.getElem?_eq_none_iff.1 hc
  repeat' first|refine st ?_|((with_reducible apply go_i);conv=>whnf)|refine⟨λ_=>?_,λ_=>?_⟩|fail
  all_goals first|rfl|(exfalso;omega)
theorem C.sameRules(a:List Ho)(p y:List Pk)(ha:a.length<=1048576)(hp:p.length<=1048576)(hy:y.length<=1048576)(d1 d2 d3 d4 d5 d6:D)(s1:SlD d1 (eHo a))(s2:SlD d2 (eHo a))(s3:SlD d3 (ePk p))(s4:SlD d4 (ePk p))(s5:SlD d5 (ePk y))(s6:SlD d6 (ePk y)) :
  Pure Tryz.prog N.bt_ref35_sameRules [.d d1,.d d2,.d d3,.d d4,.d d5,.d d6] (.d (.bool true)):=by
 have e1:=eHo_len a
 have m1:=eHo_mem a
 have g1:=λi x=>@eHo_get a i x
 have e2:=ePk_len p
 have m2:=ePk_mem p
 have g2:=λi x=>@ePk_get p i x
 have e3:=ePk_len y
 have m3:=ePk_mem y
 have g3:=λi x=>@ePk_get y i x
 generalize eHo a=z1 at *
 generalize ePk p=z2 at *
 generalize ePk y=z3 at *
 refine F.bt_ref35_sameRules.go mixed rfl ?_
 repeat' first|refine st ?_|((with_reducible apply go_i);conv=>whnf)|refine⟨λ_=>?_,λ_=>?_⟩|fail
 all_goals first|(exfalso;omega)|skip
 refine x_loop1 mixed Lt.bt_ref35_sameRules_l0 Lk.bt_ref35_sameRules_l0 (λ(i:Nat)=>[.d (eI i)]) (λi=>[]) (λi=>i<=z1.length) (λi=>z1.length-i) 0 rfl rfl rfl rfl (λ_ _=>⟨rfl,rfl⟩) rfl (by omega) ?_
 repeat' first|refine st ?_|((with_reducible apply go_i);conv=>whnf)|refine⟨λ_=>?_,λ_=>?_⟩|fail
 intro i i1
 cases hc:a[i]? with
 |some x=>
  have hlt:=(List.getElem?_eq_some_iff.1 hc).1
  have hx:=g1 i x hc
  have r1:x.nm=x.nm:=rfl
  have r2:x.tb=x.tb:=rfl
  repeat' first|refine st ?_|((with_reducible apply go_i);conv=>whnf)|refine⟨λ_=>?_,λ_=>?_⟩|fail
  all_goals first|(exfalso;omega)|exact⟨i+1,rfl,rfl,rfl,by omega,by omega⟩
 |none=>
  have hge:=List.getElem?_eq_none_iff.1 hc
  repeat' first|refine st ?_|((with_reducible apply go_i);conv=>whnf)|refine⟨λ_=>?_,λ_=>?_⟩|fail
  all_goals first|(exfalso;omega)|skip
  refine x_loop1 mixed Lt.bt_ref35_sameRules_l1 Lk.bt_ref35_sameRules_l1 (λ(i:Nat)=>[.d (eI i)]) (λi=>[]) (λi=>i<=z2.length) (λi=>z2.length-i) 0 rfl rfl rfl rfl (λ_ _=>⟨rfl,rfl⟩) rfl (by omega) ?_
  repeat' first|refine st ?_|((with_reducible apply go_i);conv=>whnf)|refine⟨λ_=>?_,λ_=>?_⟩|fail
  intro i i1
  cases hc:p[i]? with
  |some x=>
   have hlt:=(List.getElem?_eq_some_iff.1 hc).1
   have hx:=g2 i x hc
   have r1:x.tb=x.tb:=rfl
   repeat' first|refine st ?_|((with_reducible apply go_i);conv=>whnf)|refine⟨λ_=>?_,λ_=>?_⟩|fail
   all_goals first|(exfalso;omega)|exact⟨i+1,rfl,rfl,rfl,by omega,by omega⟩
  |none=>
   have hge:=List.getElem?_eq_none_iff.1 hc
   repeat' first|refine st ?_|((with_reducible apply go_i);conv=>whnf)|refine⟨λ_=>?_,λ_=>?_⟩|fail
   all_goals first|(exfalso;omega)|skip
   refine x_loop1 mixed Lt.bt_ref35_sameRules_l2 Lk.bt_ref35_sameRules_l2 (λ(i:Nat)=>[.d (eI i)]) (λi=>[]) (λi=>i<=z3.length) (λi=>z3.length-i) 0 rfl rfl rfl rfl (λ_ _=>⟨rfl,rfl⟩) rfl (by omega) ?_
   repeat' first|refine st ?_|((with_reducible apply go_i);conv=>whnf)|refine⟨λ_=>?_,λ_=>?_⟩|fail
   intro i i1
   cases hc:y[i]? with
   |some x=>
    have hlt:=(List.getElem?_eq_some_iff.1 hc).1
    have hx:=g3 i x hc
    have r1:x.tb=x.tb:=rfl
    repeat' first|refine st ?_|((with_reducible apply go_i);conv=>whnf)|refine⟨λ_=>?_,λ_=>?_⟩|fail
    all_goals first|(exfalso;omega)|exact⟨i+1,rfl,rfl,rfl,by omega,by omega⟩
   |none=>
    have hge:=List.getElem?_eq_none_iff.1 hc
    repeat' first|refine st ?_|((with_reducible apply go_i);conv=>whnf)|refine⟨λ_=>?_,λ_=>?_⟩|fail
    all_goals first|rfl|(exfalso;omega)
theorem C.Same(x:Cm)(hI:CmI x)(h0:ckE x=0):Pure Tryz.prog N.bt_ref35_Same [av (rdCm x).dl,av x.dl] (.d (.bool true)):=by
 have hes:x.es.map rdEy=x.es.map rE:=List.map_congr_left λe he=>by
  have h8:=List.all_eq_true.1 (ck_parts h0).2.1 e he
  rw[etB,Bool.and_eq_true] at h8
  exact rE_eq h8.1
 obtain⟨tx,tm,wl,fs,n1,es,n2,ds,n3,pl,n4,rl,n5,ps,n6,hs⟩:=x
 obtain⟨⟨h1,h1'⟩,⟨h2,h2'⟩,⟨h3,h3'⟩,⟨h4,h4'⟩,⟨h5,h5'⟩,⟨h6,h6'⟩⟩:=hI
 simp only at h1 h1' h2 h2' h3 h3' h4 h4' h5 h5' h6 h6' hes
 unfold rdCm Cm.dl
 simp only
 rw[hes]
 have c1:=C.SameEntries es h1 h1' (ng true (eEy (es.map rE))) (ng n1 (eEy es)) sld_ng sld_ng
 have c2:=C.sameRules pl ps hs h3 h5 h6 (ng true (eHo pl)) (ng n3 (eHo pl)) (ng true (ePk ps)) (ng n5 (ePk ps)) (ng true (ePk hs)) (ng n6 (ePk hs)) sld_ng sld_ng sld_ng sld_ng sld_ng sld_ng
 have e1:=eDe_len ds
 have m1:=eDe_mem ds
 have g1:=λi x=>@eDe_get ds i x
 have e1':=eDe_len (ds.map rdDe)
 have m1':=eDe_mem (ds.map rdDe)
 have g1':∀(i:Nat) x,ds[i]?=some x->(eDe (ds.map rdDe))[i]?=some (rdDe x).ds:=λi x hx=>eDe_get (by rw[List.getElem?_map,hx];rfl)
 rw[List.length_map] at e1'
 have e2:=eSt_len rl
 have m2:=eSt_mem rl
 have g2:=λi x=>@eSt_get rl i x
 have s1:SlD (ng n2 (eDe ds)) (eDe ds):=sld_ng
 have s1':SlD (ng true (eDe (ds.map rdDe))) (eDe (ds.map rdDe)):=sld_ng
 have s2:SlD (ng n4 (eSt rl)) (eSt rl):=sld_ng
 have s2':SlD (ng true (eSt rl)) (eSt rl):=sld_ng
 generalize ng true (eEy (es.map rE))=y1' at *
 generalize ng n1 (eEy es)=y1 at *
 generalize ng true (eDe (ds.map rdDe))=y2' at *
 generalize ng n2 (eDe ds)=y2 at *
 generalize ng true (eHo pl)=y3' at *
 generalize ng n3 (eHo pl)=y3 at *
 generalize ng true (eSt rl)=y4' at *
 generalize ng n4 (eSt rl)=y4 at *
 generalize ng true (ePk ps)=y5' at *
 generalize ng n5 (ePk ps)=y5 at *
 generalize ng true (ePk hs)=y6' at *
 generalize ng n6 (ePk hs)=y6 at *
 generalize eDe (ds.map rdDe)=z1' at *
 generalize eDe ds=z1 at *
 generalize eSt rl=z2 at *
 refine F.bt_ref35_Same.go mixed rfl ?_
 repeat' first|refine st ?_|((with_reducible apply go_i);conv=>whnf)|refine⟨λ_=>?_,λ_=>?_⟩|fail
 all_goals first|(exfalso;omega)|skip
 refine x_loop1 mixed Lt.bt_ref35_Same_l0 Lk.bt_ref35_Same_l0 (λ(i:Nat)=>[.d (eI i)]) (λi=>[.cells [.d (eI tx),.d (eI tm),.d (eI wl),.d (eI fs),.d y1',.d y2',.d y3',.d y4',.d y5',.d y6'],.cells [.d (eI tx),.d (eI tm),.d (eI wl),.d (eI fs),.d y1,.d y2,.d y3,.d y4,.d y5,.d y6]]) (λi=>i<=z1.length) (λi=>z1.length-i) 0 rfl rfl rfl rfl (λ_ _=>⟨rfl,rfl⟩) rfl (by omega) ?_
 repeat' first|refine st ?_|((with_reducible apply go_i);conv=>whnf)|refine⟨λ_=>?_,λ_=>?_⟩|fail
 intro i i1
 cases hc:ds[i]? with
 |some x=>
  have hlt:=(List.getElem?_eq_some_iff.1 hc).1
  have hx:=g1 i x hc
  have hx':=g1' i x hc
  have hT:=C.SameDelta x (h2' x (List.mem_of_getElem? hc))
  unfold rdDe De.ds at hx' hT
  unfold De.ds at hx
  simp only at hx' hT
  generalize ng true (eIs x.cl)=q1 at *
  generalize ng x.n1 (eIs x.cl)=q2 at *
  generalize ng true (eFa (x.op.map rdFa))=q3 at *
  generalize ng x.n2 (eFa x.op)=q4 at *
  repeat' first|refine st ?_|((with_reducible apply go_i);conv=>whnf)|refine⟨λ_=>?_,λ_=>?_⟩|fail
  all_goals first|(exfalso;omega)|exact⟨i+1,rfl,rfl,rfl,by omega,by omega⟩
 |none=>
  have hge:=List.getElem?_eq_none_iff.1 hc
  repeat' first|refine st ?_|((with_reducible apply go_i);conv=>whnf)|refine⟨λ_=>?_,λ_=>?_⟩|fail
  all_goals first|(exfalso;omega)|skip
  refine x_loop1 mixed Lt.bt_ref35_Same_l1 Lk.bt_ref35_Same_l1 (λ(i:Nat)=>[.d (eI i)]) (λi=>[.cells [.d (eI tx),.d (eI tm),.d (eI wl),.d (eI fs),.d y1',.d y2',.d y3',.d y4',.d y5',.d y6'],.cells [.d (eI tx),.d (eI tm),.d (eI wl),.d (eI fs),.d y1,.d y2,.d y3,.d y4,.d y5,.d y6]]) (λi=>i<=z2.length) (λi=>z2.length-i) 0 rfl rfl rfl rfl (λ_ _=>⟨rfl,rfl⟩) rfl (by omega) ?_
  repeat' first|refine st ?_|((with_reducible apply go_i);conv=>whnf)|refine⟨λ_=>?_,λ_=>?_⟩|fail
  intro i i1
  cases hc:rl[i]? with
  |some x=>
   have hlt:=(List.getElem?_eq_some_iff.1 hc).1
   have hx:=g2 i x hc
   have r1:x=x:=rfl
   repeat' first|refine st ?_|((with_reducible apply go_i);conv=>whnf)|refine⟨λ_=>?_,λ_=>?_⟩|fail
   all_goals first|(exfalso;omega)|exact⟨i+1,rfl,rfl,rfl,by omega,by omega⟩
  |none=>
   have hge:=List.getElem?_eq_none_iff.1 hc
   repeat' first|refine st ?_|((with_reducible apply go_i);conv=>whnf)|refine⟨λ_=>?_,λ_=>?_⟩|fail
   all_goals first|rfl|(exfalso;omega)
end Go.Proofs
end
section
namespace Go.Proofs
open Go.Bi
theorem flat_map_fr(l:List (List UInt8)):(l.map fr).flatten=l.flatMap fr:=by
 rw[List.flatMap_def]
theorem fr_ne(b:List UInt8):fr b≠[]:=by
 intro h
 have:=fr_len b
 rw[h] at this
 simp at this
 omega
theorem flat_fr_le{n:Nat}:∀{l:List (List UInt8)},(∀b∈l,b.length<=n)->(l.flatMap fr).length<=l.length*(n+8)
 |[],_=>by simp
 |b::l,h=>by
  have h1:=h b (by simp)
  have h2:=flat_fr_le (l:=l) λx hx=>h x (by simp[hx])
  rw[List.flatMap_cons,List.length_append,fr_len,List.length_cons,Nat.succ_mul]
  omega
theorem C.Crash_all(bs:List (List UInt8))(hb:∀b∈bs,b.length<=4000)(hn:bs.length<=12)(s:Nat)(hs:s<=bs.length)(keep torn:Int) :
  ∃(j:Nat) (t b0:List UInt8),s<=j/\j<=bs.length/\t=(fr b0).take t.length/\t.length<(fr b0).length/\b0.length<=1048576/\
   CallSpec Tryz.prog N.pdisk_Disk_Crash [.ptr 0 0,.d (eI keep),.d (eI torn)] (DP (K fN ((bs.take s).flatMap fr)) (opsL fN ((bs.drop s).map fr))) (CrQ (K fN ((bs.take j).flatMap fr++t))):=by
 have hus:∀u∈(bs.drop s).map fr,u≠[]:=by
  intro u hu
  obtain⟨x,_,rfl⟩:=List.mem_map.1 hu
  exact fr_ne x
 have hlen:((bs.drop s).map fr).length=bs.length-s:=by simp
 have l1:((bs.take s).flatMap fr).length<=48096:=by
  have:=flat_fr_le (n:=4000) (l:=bs.take s) λb hx=>hb b (List.mem_of_mem_take hx)
  rw[List.length_take] at this
  have h2:min s bs.length*4008<=12*4008:=Nat.mul_le_mul_right _ (by omega)
  omega
 have l2:((bs.drop s).map fr).flatten.length<=48096:=by
  have:=flat_fr_le (n:=4000) (l:=bs.drop s) λb hx=>hb b (List.mem_of_mem_drop hx)
  rw[List.length_drop] at this
  have h2:(bs.length-s)*4008<=12*4008:=Nat.mul_le_mul_right _ (by omega)
  rw[flat_map_fr]
  omega
 have hz:([]:List UInt8).length<(fr []).length:=by rw[fr_len];simp
 have htk:∀k,(bs.take s).flatMap fr++(((bs.drop s).map fr).take k).flatten=(bs.take (s+k)).flatMap fr:=by
  intro k
  rw[<- List.map_take,flat_map_fr,<- List.flatMap_append]
  congr 1
  rw[<- List.take_add]
 by_cases hne:(bs.drop s).map fr=[]
 ·refine⟨s,[],[],Nat.le_refl _,hs,by simp,hz,by simp,?_⟩
  rw[hne,List.append_nil]
  exact C.Crash_0 fN _ (by omega) keep torn
 ·obtain⟨k,hk⟩:∃k:Nat,min (max keep 0) (((bs.drop s).map fr).length:Int)=k:=⟨(min (max keep 0) (((bs.drop s).map fr).length:Int)).toNat,by omega⟩
  by_cases hc:torn<=0\/k=((bs.drop s).map fr).length
  ·refine⟨s+k,[],[],by omega,by omega,by simp,hz,by simp,?_⟩
   rw[<- htk k,List.append_nil]
   exact C.Crash_n fN _ _ hus (by omega) (by omega) keep k (by omega) hk torn hc hne
  ·have hk2:k<((bs.drop s).map fr).length:=by omega
   have hkb:s+k<bs.length:=by omega
   have hw:((bs.drop s).map fr)[k]?=some (fr bs[s+k]):=by
    rw[List.getElem?_map,List.getElem?_drop,List.getElem?_eq_getElem hkb]
    rfl
   have hC:=C.Crash_t fN ((bs.take s).flatMap fr) ((bs.drop s).map fr) hus (by omega) (by omega) keep k hk2 hk torn (by omega) _ hw
   rw[List.flatten_append,<- List.append_assoc,htk k,show[(fr bs[s+k]).take torn.toNat].flatten=(fr bs[s+k]).take torn.toNat by simp] at hC
   by_cases ht:(fr bs[s+k]).length<=torn.toNat
   ·refine⟨s+k+1,[],[],by omega,by omega,by simp,hz,by simp,?_⟩
    rw[List.take_of_length_le ht] at hC
    rw[List.append_nil,List.take_add_one,List.getElem?_eq_getElem hkb,List.flatMap_append]
    simpa using hC
   ·refine⟨s+k,(fr bs[s+k]).take torn.toNat,bs[s+k],by omega,by omega,?_,by rw[List.length_take];omega,?_,hC⟩
    ·rw[List.length_take,Nat.min_eq_left (by omega)]
    ·have:=hb _ (List.getElem_mem hkb)
     omega
end Go.Proofs
end
section
namespace Go.Bi
open Go
theorem x_selm{P:Program}{n nb:Nat}{cd:IC}{N:Sl->List AO->Prop}{E0:Nat->Sl->List AO->Prop}{R:Sl->List AO->Prop}{L:Sl}{os:List AO}(ts:List Nat)(vs:List AV)(σ:List Nat)(os2:List AO)(h1:valsOf L ts=vs.map (mA (sg σ)))(hlv:vs.length=ts.length)(hn:σ.Nodup)
  (hσ:σ.take nb=List.range nb) (ho:σ.map (λs=>os[s]?)=os2.map (λo=>some (mO (sg σ) o))) (hid:(os2.take nb).map (mO (sg σ))=os2.take nb)
  (hb:vs.all (λv=>v.bndB os2.length)=true) (hb3:os2.all (λo=>o.bndB os2.length)=true) (k:LoopX P n nb cd N E0 R (zipS ts vs) os2):LoopX P n nb cd N E0 R L os:=by
 have hw:=weak_selm (n:=n) (nb:=nb) (ks:=[]) (ws:=[]) σ h1 rfl hlv hn hσ ho hid hb rfl hb3
 rw[show zipS ts vs++zipS [] []=zipS ts vs by show zipS ts vs++[]=_;rw[List.append_nil]] at hw
 refine⟨λcode hc c M G w a hR=>?_⟩
 obtain⟨M',G',hR'⟩:=hw c M G w a hR
 exact k.h code hc c M' G' w a hR'
end Go.Bi
end
section
namespace Go.Proofs
open Go.Bi
abbrev op1:List D:=[eI 0,.str fN,.str [],.sl (byteL (fr [1]))]
theorem C.Open_p1(bx:AO):CallSpec Tryz.prog N.wal_Open [.ptr 2 0,.d (.str fN)] [bx,.map [],.cells [.mp 1,.arr 3 0],.arr [] 4 0 true]
  (λr os=>r=.tup [.ptr 4 0,.d .nil,.d (eI 0)]/\os=[bx,.map [],.cells [.mp 1,.arr 3 0],.arr [] 4 0 true,.cells [.d (eI 0),.d (eI 0),.ptr 2 0,.d (.str fN)]]):=
 CallSpec.frame (K:=λr os=>r=.tup [.ptr 4 0,.d .nil,.d (eI 0)]/\os=[bx,.map [],.cells [.mp 1,.arr 3 0],.arr [] 4 0 true,.cells [.d (eI 0),.d (eI 0),.ptr 2 0,.d (.str fN)]]) C.Open_0 [2,1,3] [bx,.map [],.cells [.mp 1,.arr 3 0],.arr [] 4 0 true] rfl (by decide) (λi o hx=>by
   match i with
   |0=>simp at hx;subst hx;rfl
   |1=>simp at hx;subst hx;rfl
   |2=>simp at hx;subst hx;rfl
   |i+3=>simp at hx) (λa ha=>by
   simp only[List.mem_cons,List.not_mem_nil,or_false] at ha
   rcases ha with rfl|rfl
   ·exact(by decide:0<3)
   ·trivial) (DP_bnd (λp hp=>by cases hp) []) (λv bs' hq=>by
   obtain⟨rfl,rfl⟩:=hq
   exact⟨rfl,rfl⟩)
theorem C.Append_p1(bx:AO):CallSpec Tryz.prog N.pwal_Log_Append [.ptr 4 0,.d (.sl [[.int .u8 1]])] [bx,.map [],.cells [.mp 1,.arr 3 0],.arr [] 4 0 true,.cells [.d (eI 0),.d (eI 0),.ptr 2 0,.d (.str fN)]]
  (λr os=>r=.d (eI 0)/\os=[bx,.map [],.cells [.mp 1,.arr 3 1],.arr [op1] 4 0 false,.cells [.d (eI 1),.d (eI 9),.ptr 2 0,.d (.str fN)]]):=
 CallSpec.frame (K:=λr os=>r=.d (eI 0)/\os=[bx,.map [],.cells [.mp 1,.arr 3 1],.arr [op1] 4 0 false,.cells [.d (eI 1),.d (eI 9),.ptr 2 0,.d (.str fN)]])
  (C.Log_Append 0 0 [] (λp hp=>by cases hp) [] (by simp) (by omega) (by omega) [1] (by simp)) [4,2,1,3] [bx,.map [],.cells [.mp 1,.arr 3 0],.arr [] 4 0 true,.cells [.d (eI 0),.d (eI 0),.ptr 2 0,.d (.str fN)]] rfl (by decide) (λi o hx=>by
   match i with
   |0=>simp at hx;subst hx;rfl
   |1=>simp at hx;subst hx;rfl
   |2=>simp at hx;subst hx;rfl
   |3=>simp at hx;subst hx;rfl
   |i+4=>simp at hx) (λa ha=>by
   simp only[List.mem_cons,List.not_mem_nil,or_false] at ha
   rcases ha with rfl|rfl
   ·exact(by decide:0<4)
   ·trivial) (LO_bnd 0 0 (λp hp=>by cases hp) []) (λv bs' hq=>by
   obtain⟨rfl,rfl⟩:=hq
   exact⟨rfl,rfl⟩)
theorem C.Len_p1(bx:AO):CallSpec Tryz.prog N.pwal_Log_Len [.ptr 4 0] [bx,.map [],.cells [.mp 1,.arr 3 1],.arr [op1] 4 0 false,.cells [.d (eI 1),.d (eI 9),.ptr 2 0,.d (.str fN)]]
  (λr os=>r=.d (eI 1)/\os=[bx,.map [],.cells [.mp 1,.arr 3 1],.arr [op1] 4 0 false,.cells [.d (eI 1),.d (eI 9),.ptr 2 0,.d (.str fN)]]):=
 CallSpec.frame (K:=λr os=>r=.d (eI 1)/\os=[bx,.map [],.cells [.mp 1,.arr 3 1],.arr [op1] 4 0 false,.cells [.d (eI 1),.d (eI 9),.ptr 2 0,.d (.str fN)]])
  (C.Log_Len 1 9 [] (λp hp=>by cases hp) [op1]) [4,2,1,3] [bx,.map [],.cells [.mp 1,.arr 3 1],.arr [op1] 4 0 false,.cells [.d (eI 1),.d (eI 9),.ptr 2 0,.d (.str fN)]] rfl (by decide) (λi o hx=>by
   match i with
   |0=>simp at hx;subst hx;rfl
   |1=>simp at hx;subst hx;rfl
   |2=>simp at hx;subst hx;rfl
   |3=>simp at hx;subst hx;rfl
   |i+4=>simp at hx) (λa ha=>by
   cases List.mem_singleton.1 ha
   exact(by decide:0<4)) (LO_bnd 1 9 (λp hp=>by cases hp) [op1]) (λv bs' hq=>by
   obtain⟨rfl,rfl⟩:=hq
   exact⟨rfl,rfl⟩)
abbrev OS2(bx:AO):List AO:=[bx,.map [],.cells [.mp 1,.arr 3 1],.arr [op1] 4 0 false,.cells [.d (eI 1),.d (eI 9),.ptr 2 0,.d (.str fN)],.map [],.cells [.mp 5,.arr 7 0],.arr [] 4 0 true]
theorem C.Open_p2(bx:AO):CallSpec Tryz.prog N.wal_Open [.ptr 6 0,.d (.str fN)] (OS2 bx)
  (λr os=>r=.tup [.ptr 8 0,.d .nil,.d (eI 0)]/\os=OS2 bx++[.cells [.d (eI 0),.d (eI 0),.ptr 6 0,.d (.str fN)]]):=by
 have h:=CallSpec.frame (K:=λr os=>r=.tup [.ptr 8 0,.d .nil,.d (eI 0)]/\os=OS2 bx++[.cells [.d (eI 0),.d (eI 0),.ptr 6 0,.d (.str fN)]]) C.Open_0 [6,5,7] (OS2 bx) rfl (by decide) (λi o hx=>by
   match i with
   |0=>simp at hx;subst hx;rfl
   |1=>simp at hx;subst hx;rfl
   |2=>simp at hx;subst hx;rfl
   |i+3=>simp at hx) (λa ha=>by
   simp only[List.mem_cons,List.not_mem_nil,or_false] at ha
   rcases ha with rfl|rfl
   ·exact(by decide:0<3)
   ·trivial) (DP_bnd (λp hp=>by cases hp) []) (λv bs' hq=>by
   obtain⟨rfl,rfl⟩:=hq
   exact⟨rfl,rfl⟩)
 exact h
theorem LO_hb(r b:Nat){kvs:List (D×AV)}(hd:MD kvs)(pend:List (List D))(o1 o2:AO)(i:Nat)(o:AO)(hx:(LO r b kvs pend)[i]?=some o):(LO r b kvs pend++[o1,o2])[[0,1,2,3].getD i 0]?=some (mO (rn [0,1,2,3] (LO r b kvs pend++[o1,o2]).length) o):=by
 match i with
 |0=>simp at hx;subst hx;rfl
 |1=>simp at hx;subst hx;rfl
 |2=>simp at hx;subst hx;rw[mO_md hd];rfl
 |3=>simp at hx;subst hx;rfl
 |i+4=>simp at hx
theorem C.Append_p2(r b:Nat)(kvs:List (D×AV))(hd:MD kvs)(pend:List (List D))(hpl:pend.length<=1048576)(hr:r<=1099511627776)(hb:b<=1099511627776)(s:List UInt8)(hs:s.length<=1048576)(o1 o2:AO) :
  CallSpec Tryz.prog N.pwal_Log_Append [.ptr 0 0,.d (.sl (byteL s))] (LO r b kvs pend++[o1,o2]) (λv os=>v=.d (eI 0)/\os=LO (r+1) (b+(s.length+8)) kvs (pend++[[eI 0,.str fN,.str [],.sl (byteL (fr s))]])++[o1,o2]):=
 CallSpec.frame (K:=λv os=>v=.d (eI 0)/\os=LO (r+1) (b+(s.length+8)) kvs (pend++[[eI 0,.str fN,.str [],.sl (byteL (fr s))]])++[o1,o2]) (C.Log_Append r b kvs hd pend hpl hr hb s hs) [0,1,2,3] (LO r b kvs pend++[o1,o2]) rfl (by decide) (LO_hb r b hd pend o1 o2) (λa ha=>by
   simp only[List.mem_cons,List.not_mem_nil,or_false] at ha
   rcases ha with rfl|rfl
   ·exact(by decide:0<4)
   ·trivial) (LO_bnd r b hd pend) (λv bs' hq=>by
   obtain⟨rfl,rfl⟩:=hq
   refine⟨rfl,?_⟩
   show putA _ [0,1,2,3] (LO (r+1) (b+(s.length+8)) kvs (pend++[[eI 0,.str fN,.str [],.sl (byteL (fr s))]])) (LO r b kvs pend++[o1,o2])=_
   unfold LO
   simp only[putA,mO_md hd,List.map_nil,List.append_nil]
   rfl)
theorem C.Sync_p2(r b:Nat){kvs kvs':List (D×AV)}(hd:MD kvs)(hd':MD kvs'){pend:List (List D)}(h:Vw kvs pend kvs')(o1 o2:AO) :
  CallSpec Tryz.prog N.pwal_Log_Sync [.ptr 0 0] (LO r b kvs pend++[o1,o2]) (λv os=>v=.tup []/\os=[.cells [.d (eI r),.d (eI b),.ptr 1 0,.d (.str fN)],.cells [.mp 6,.arr 7 0],.map kvs,.arr pend 4 0 pend.isEmpty,o1,o2,.map kvs',.arr [] 4 0 true]):=
 CallSpec.frame (K:=λv os=>v=.tup []/\os=[.cells [.d (eI r),.d (eI b),.ptr 1 0,.d (.str fN)],.cells [.mp 6,.arr 7 0],.map kvs,.arr pend 4 0 pend.isEmpty,o1,o2,.map kvs',.arr [] 4 0 true]) (C.Log_Sync r b hd hd' h) [0,1,2,3] (LO r b kvs pend++[o1,o2]) rfl (by decide) (LO_hb r b hd pend o1 o2) (λa ha=>by
   cases List.mem_singleton.1 ha
   exact(by decide:0<4)) (LO_bnd r b hd pend) (λv bs' hq=>by
   obtain⟨rfl,rfl⟩:=hq
   refine⟨rfl,?_⟩
   show putA _ [0,1,2,3] [.cells [.d (eI r),.d (eI b),.ptr 1 0,.d (.str fN)],.cells [.mp 4,.arr 5 0],.map kvs,.arr pend 4 0 pend.isEmpty,.map kvs',.arr [] 4 0 true] (LO r b kvs pend++[o1,o2])=_
   unfold LO
   simp only[putA,mO_md hd,mO_md hd',List.map_nil,List.map_cons]
   rfl)
def Cr1(kvs:List (D×AV))(r:AV)(os:List AO):Prop:=r=.tup []/\∃f p:Nat,os[1]?=some (.cells [.mp f,.arr p 0])/\os[f]?=some (.map kvs)/\os[p]?=some (.arr [] 4 0 true)/\[1,f,p].Nodup
theorem C.Crash_p2(r b:Nat){kvs kvs':List (D×AV)}(hd:MD kvs)(hd':MD kvs'){pend:List (List D)}(keep torn:Int)(h:CallSpec Tryz.prog N.pdisk_Disk_Crash [.ptr 0 0,.d (eI keep),.d (eI torn)] (DP kvs pend) (CrQ kvs'))(o1 o2:AO) :
  CallSpec Tryz.prog N.pdisk_Disk_Crash [.ptr 1 0,.d (eI keep),.d (eI torn)] (LO r b kvs pend++[o1,o2]) (Cr1 kvs'):=
 CallSpec.frame (K:=Cr1 kvs') h [1,2,3] (LO r b kvs pend++[o1,o2]) rfl (by decide) (λi o hx=>by
   match i with
   |0=>simp at hx;subst hx;rfl
   |1=>simp at hx;subst hx;rw[mO_md hd];rfl
   |2=>simp at hx;subst hx;rfl
   |i+3=>simp at hx) (λa ha=>by
   simp only[List.mem_cons,List.not_mem_nil,or_false] at ha
   rcases ha with rfl|rfl|rfl
   ·exact(by decide:0<3)
   ·trivial
   ·trivial) (DP_bnd hd pend) (λv bs' hq=>by
   obtain⟨rfl,hl,f,p,h1,h2,h3,h4⟩:=hq
   obtain⟨rn',hrn⟩:∃g,g=rn [1,2,3] (LO r b kvs pend++[o1,o2]).length:=⟨_,rfl⟩
   obtain⟨p1,p2,p3,p4⟩:=putA_get (rn [1,2,3] (LO r b kvs pend++[o1,o2]).length) [1,2,3] bs' (LO r b kvs pend++[o1,o2]) (by decide) (by(show ∀s∈[1,2,3],s<6);decide) hl
   have hput:∀i o,bs'[i]?=some o->(putA (rn [1,2,3] (LO r b kvs pend++[o1,o2]).length) [1,2,3] bs' (LO r b kvs pend++[o1,o2]))[rn [1,2,3] (LO r b kvs pend++[o1,o2]).length i]?=some (mO (rn [1,2,3] (LO r b kvs pend++[o1,o2]).length) o):=by
    intro i o ho
    by_cases hi:i<3
    ·rw[rn_lt hi]
     refine p1 i _ o ?_ ho
     rw[List.getD_eq_getElem?_getD,List.getElem?_eq_getElem (by exact hi)];rfl
    ·rw[rn_ge (by(show 3<=i);omega)]
     refine p3 _ o ?_
     rw[show([1,2,3]:List Nat).length+(i-([1,2,3]:List Nat).length)=i by(show 3+(i-3)=i);omega];exact ho
   have hinj:∀i j:Nat,rn [1,2,3] (LO r b kvs pend++[o1,o2]).length i=rn [1,2,3] (LO r b kvs pend++[o1,o2]).length j->i=j:=by
    have hv:∀i,rn [1,2,3] (LO r b kvs pend++[o1,o2]).length i=if i<3 then i+1 else 6+(i-3):=by
     intro i
     match i with
     |0=>rfl
     |1=>rfl
     |2=>rfl
     |i+3=>
      rw[rn_ge (by(show 3<=i+3);omega),if_neg (by omega)]
      rfl
    intro i j h
    rw[hv,hv] at h
    split at h<;>split at h<;>omega
   simp only[List.nodup_cons,List.mem_cons,List.not_mem_nil,or_false,not_or,List.nodup_nil,and_true,not_false_eq_true] at h4
   refine⟨rfl,rn [1,2,3] (LO r b kvs pend++[o1,o2]).length f,rn [1,2,3] (LO r b kvs pend++[o1,o2]).length p,?_,?_,?_,?_⟩
   ·have:=hput 0 _ h1
    exact this
   ·rw[hput f _ h2,mO_md hd']
   ·exact hput p _ h3
   ·simp only[List.nodup_cons,List.mem_cons,List.not_mem_nil,or_false,not_or,List.nodup_nil,and_true,not_false_eq_true]
    refine⟨⟨λh=>h4.1.1 (hinj 0 f h),λh=>h4.1.2 (hinj 0 p h)⟩,λh=>h4.2 (hinj f p h)⟩)
theorem C.Open_p3(l:List (List UInt8))(t b:List UInt8)(hl:∀x∈l,x.length<=1048576)(hb:b.length<=1048576)(ht:t=(fr b).take t.length)(hs:t.length<(fr b).length)(hB:(l.flatMap fr++t).length<=1073741824)(hn:l.length<=65536)(r:AV)(os:List AO)(hq:Cr1 (K fN (l.flatMap fr++t)) r os) :
  CallSpec Tryz.prog N.wal_Open [.ptr 1 0,.d (.str fN)] os (λr os=>∃j,r=.tup [.ptr j 0,.d (ng true (eBs l)),.d (eI 0)]):=by
 obtain⟨rfl,f,p,h1,h2,h3,h4⟩:=hq
 have hd:=K_md fN (l.flatMap fr++t)
 have h:=CallSpec.frame (K:=λr os=>∃j,r=.tup [.ptr j 0,.d (ng true (eBs l)),.d (eI 0)]) (C.Open_F l t b hl hb ht hs hB hn) [1,f,p] os rfl h4 (λi o hx=>by
   match i with
   |0=>simp at hx;subst hx;exact h1
   |1=>simp at hx;subst hx;rw[mO_md hd];exact h2
   |2=>simp at hx;subst hx;exact h3
   |i+3=>simp at hx) (λa ha=>by
   simp only[List.mem_cons,List.not_mem_nil,or_false] at ha
   rcases ha with rfl|rfl
   ·exact(by decide:0<3)
   ·trivial) (DP_bnd hd []) (λv bs' hq=>by
   obtain⟨j,rfl⟩:=hq
   exact⟨_,rfl⟩)
 exact h
end Go.Proofs
end
section
namespace Go.Proofs
open Go.Bi
def eCm(l:List Cm):List (List D):=l.map Cm.dl
theorem eCm_len(l:List Cm):(eCm l).length=l.length:=by simp[eCm]
theorem eCm_get{l:List Cm}{i:Nat}{x:Cm}(h:l[i]?=some x):(eCm l)[i]?=some x.dl:=by simp[eCm,h]
theorem eCm_mem(l:List Cm):∀e∈eCm l,e.length=10:=by
 intro e he
 obtain⟨x,_,rfl⟩:=List.mem_map.1 he
 rfl
theorem eCm_snoc(l:List Cm)(x:Cm):eCm (l++[x])=eCm l++[x.dl]:=by simp[eCm]
def Bf(W:List Cm)(s:Nat):List UInt8:=((W.map encCm).take s).flatMap fr
def Us(W:List Cm)(s:Nat):List (List UInt8):=((W.map encCm).drop s).map fr
theorem Bf_snoc{W:List Cm}{s:Nat}(h:s<=W.length)(x:Cm):Bf (W++[x]) s=Bf W s:=by
 unfold Bf
 rw[List.map_append,List.take_append_of_le_length (by simpa using h)]
theorem Us_snoc{W:List Cm}{s:Nat}(h:s<=W.length)(x:Cm):Us (W++[x]) s=Us W s++[fr (encCm x)]:=by
 unfold Us
 rw[List.map_append,List.drop_append_of_le_length (by simpa using h)]
 simp
theorem Bf_all(W:List Cm)(s:Nat):Bf W W.length=Bf W s++(Us W s).flatten:=by
 unfold Bf Us
 rw[flat_map_fr,<- List.flatMap_append,List.take_append_drop,List.take_of_length_le (by simp)]
theorem Us_all(W:List Cm):Us W W.length=[]:=by
 unfold Us
 rw[List.drop_eq_nil_of_le (by simp)]
 rfl
theorem opsL_snoc(nm:List UInt8)(us:List (List UInt8))(u:List UInt8):opsL nm (us++[u])=opsL nm us++[[eI 0,.str nm,.str [],.sl (byteL u)]]:=by simp[opsL]
def CmW(w:Cm):Prop:=CmI w/\ckE w=0/\(encCm w).length<=4000
theorem W_bounds{W:List Cm}(hW:∀w∈W,CmW w)(hn:W.length<=13)(s:Nat):(Bf W s).length<=60000/\(Us W s).flatten.length<=60000/\(Us W s).length<=13/\∀u∈Us W s,u≠[]:=by
 have hb:∀b∈W.map encCm,b.length<=4000:=by
  intro b hb
  obtain⟨w,hw,rfl⟩:=List.mem_map.1 hb
  exact(hW w hw).2.2
 refine⟨?_,?_,by unfold Us;simp;omega,?_⟩
 ·have:=flat_fr_le (n:=4000) (l:=(W.map encCm).take s) λb hx=>hb b (List.mem_of_mem_take hx)
  rw[List.length_take,List.length_map] at this
  have h2:min s W.length*4008<=13*4008:=Nat.mul_le_mul_right _ (by omega)
  unfold Bf
  omega
 ·have:=flat_fr_le (n:=4000) (l:=(W.map encCm).drop s) λb hx=>hb b (List.mem_of_mem_drop hx)
  rw[List.length_drop,List.length_map] at this
  have h2:(W.length-s)*4008<=13*4008:=Nat.mul_le_mul_right _ (by omega)
  unfold Us
  rw[flat_map_fr]
  omega
 ·intro u hu
  obtain⟨x,_,rfl⟩:=List.mem_map.1 hu
  exact fr_ne x
structure TS where
 i:Nat
 W:List Cm
 s:Nat
 bt:Nat
abbrev SoT(a b:Int)(W:List Cm)(s bt:Nat):List AO:=LO W.length bt (K fN (Bf W s)) (opsL fN (Us W s))++[.cells [.d (eI a),.d (eI b)],.arr (eCm W) 10 0 (eCm W).isEmpty]
def TSok(n:Nat)(sy:Int)(x:TS):Prop:=x.i<=n/\x.W.length<=x.i/\x.s<=x.W.length/\x.bt<=x.W.length*4096/\(∀w∈x.W,CmW w)/\(0<sy->sy<=x.W.length->sy<=x.s)
theorem SoT_bnd(a b:Int)(W:List Cm)(s bt:Nat):(SoT a b W s bt).all (λo=>o.bndB 6)=true:=by
 have:=bndB_md (K_md fN (Bf W s)) 6
 unfold SoT LO
 simp only[List.all_append,List.all_cons,List.all_nil,this]
 rfl
theorem SoT_id(a b:Int)(W:List Cm)(s bt:Nat):(SoT a b W s bt).map (λo=>some (mO (sg [0,1,2,3,4,5]) o))=(SoT a b W s bt).map some:=by
 unfold SoT LO
 simp only[List.map_append,List.map_cons,List.map_nil,mO_md (K_md fN (Bf W s))]
 rfl
theorem SoT_sync(a b:Int)(W:List Cm)(bt:Nat):(SoT a b W W.length bt).map (λo=>some (mO (sg [0,1,6,7,4,5]) o))=[some (.cells [.d (eI W.length),.d (eI bt),.ptr 1 0,.d (.str fN)]),some (.cells [.mp 6,.arr 7 0]),some (.map (K fN (Bf W W.length))),some (.arr [] 4 0 true),some (.cells [.d (eI a),.d (eI b)]),some (.arr (eCm W) 10 0 (eCm W).isEmpty)]:=by
 unfold SoT LO
 rw[Us_all]
 simp only[List.map_append,List.map_cons,List.map_nil,mO_md (K_md fN (Bf W W.length))]
 rfl
end Go.Proofs
end
section
namespace Go.Proofs
open Go.Bi
theorem SoT_step(a b:Int){W:List Cm}{s:Nat}(h:s<=W.length)(c:Cm)(bt:Nat):SoT a b (W++[c]) s bt=LO (W.length+1) bt (K fN (Bf W s)) (opsL fN (Us W s)++[[eI 0,.str fN,.str [],.sl (byteL (fr (encCm c)))]])++[.cells [.d (eI a),.d (eI b)],.arr (eCm W++[c.dl]) 10 0 false]:=by
 unfold SoT
 rw[Bf_snoc h,Us_snoc h,opsL_snoc,eCm_snoc,List.length_append,isE_snoc]
 rfl
theorem C.TopLog(l:List Cm)(hl:l.length<=1048576)(hI:∀x∈l,CmI x/\bulkL x.dl<=1048576)(d:D)(hd:SlD d (eCm l))(sy a b:Int):Pure Tryz.prog N.bt_top_TopLog [.d d,.d (eI sy),.agg [.d (eI a),.d (eI b)]] (.d (.bool true)):=by
 have e1:=eCm_len l
 have m1:=eCm_mem l
 have g1:=λi x=>@eCm_get l i x
 generalize eCm l=z at *
 have hN:=C.disk_New
 have hO1:=C.Open_p1 (.cells [.d (eI a),.d (eI b)])
 have hA1:=C.Append_p1 (.cells [.d (eI a),.d (eI b)])
 have hL1:=C.Len_p1 (.cells [.d (eI a),.d (eI b)])
 have hO2:=C.Open_p2 (.cells [.d (eI a),.d (eI b)])
 unfold OS2 at hO2
 obtain⟨op,hop⟩:∃o,o=op1:=⟨_,rfl⟩
 rw[<- hop] at hA1 hL1 hO2
 unfold fN at hO1 hA1 hL1 hO2
 have hz:([]:List (List D)).length=0:=rfl
 refine F.bt_top_TopLog.go mixed rfl ?_
 repeat' first|((with_reducible apply k_lk2))|refine st ?_|((with_reducible apply go_i);conv=>whnf)|((with_reducible first|apply k_nc|apply k_cs);(·first|exact hN|exact hO1|exact hA1|exact hL1|exact hO2);(try rintro _ _ ⟨rfl,rfl⟩))|((with_reducible apply k_pr);(·first|exact hN|exact hO1|exact hA1|exact hL1|exact hO2))|refine⟨λ_=>?_,λ_=>?_⟩|fail
 refine x_nil 11 10 rfl rfl ?_
 refine x_selm [0,1,5,7,8,11,12] [.d d,.d (eI sy),.ptr 4 0,.ptr 1 0,.ptr 0 0,.arr 5 0,.d (eI 0)] [8,6,5,7,0,9] (SoT a b [] 0 0) rfl rfl (by decide) rfl rfl rfl rfl rfl ?_
 refine x_exitW ?_
 refine x_loopR1 mixed Lt.bt_top_TopLog_l0 Lk.bt_top_TopLog_l0 (λ(x:TS)=>[.arr 5 (eCm x.W).length,.d (eI x.i)]) (λx=>SoT a b x.W x.s x.bt) 6 (λx=>TSok l.length sy x) (λx=>l.length-x.i) ⟨0,[],0,0⟩ rfl rfl rfl (λx=>⟨rfl,rfl⟩) (λx _=>⟨rfl,SoT_bnd a b x.W x.s x.bt⟩) rfl ⟨Nat.zero_le _,Nat.zero_le _,Nat.zero_le _,Nat.zero_le _,(λw hw=>by cases hw),(λh1 h2=>by exact h2)⟩ ?_
 repeat' first|refine st ?_|((with_reducible apply go_i);conv=>whnf)|refine⟨λ_=>?_,λ_=>?_⟩|fail
 intro x ⟨q1,q2,q3,q4,q5,q6⟩
 have hWl:x.W.length<=12:=by omega
 obtain⟨wb1,wb2,wb3,wb4⟩:=W_bounds q5 (by omega) x.s
 cases hc:l[x.i]? with
 |some c=>
  have hlt:=(List.getElem?_eq_some_iff.1 hc).1
  have hg:=g1 x.i c hc
  obtain⟨hci,hcb⟩:=hI c (List.mem_of_getElem? hc)
  have hE:=C.record_Encode c hci hcb
  by_cases hok:ckE c=0/\(encCm c).length<=4000
  ·obtain⟨h0,h4⟩:=hok
   have hcw:CmW c:=⟨hci,h0,h4⟩
   have hr:encRes c=.tup [.d (.sl (byteL (encCm c))),.d (eI 0)]:=by
    unfold encRes
    rw[if_pos h0,if_pos (by omega)]
   rw[hr] at hE
   have hmd:=K_md fN (Bf x.W x.s)
   have hA:=C.Append_p2 x.W.length x.bt (K fN (Bf x.W x.s)) hmd (opsL fN (Us x.W x.s)) (by rw[opsL_len];omega) (by omega) (by omega) (encCm c) (by omega) (.cells [.d (eI a),.d (eI b)]) (.arr (eCm x.W) 10 0 (eCm x.W).isEmpty)
   have hWs:∀w∈x.W++[c],CmW w:=λw hw=>by
    rcases List.mem_append.1 hw with h|h
    ·exact q5 w h
    ·cases List.mem_singleton.1 h;exact hcw
   obtain⟨vb1,vb2,vb3,vb4⟩:=W_bounds hWs (by simp;omega) x.s
   rw[Bf_snoc q3] at vb1
   have hV:=K_view fN (Bf x.W x.s) (Us (x.W++[c]) x.s) vb4 (by omega) (by omega)
   have hall:Bf (x.W++[c]) (x.W++[c]).length=Bf x.W x.s++(Us (x.W++[c]) x.s).flatten:=by rw[Bf_all _ x.s,Bf_snoc q3]
   rw[<- hall,Us_snoc q3,opsL_snoc] at hV
   have hS:=C.Sync_p2 (x.W.length+1) (x.bt+((encCm c).length+8)) hmd (K_md fN (Bf (x.W++[c]) (x.W++[c]).length)) hV
   have hst:=SoT_step a b q3 c (x.bt+((encCm c).length+8))
   have hid:=((SoT_id a b (x.W++[c]) x.s (x.bt+((encCm c).length+8))).trans (congrArg (List.map some) hst)).symm
   have hlc:(x.W++[c]).length=x.W.length+1:=by simp
   have hsy:=(SoT_sync a b (x.W++[c]) (x.bt+((encCm c).length+8))).symm
   rw[hlc,eCm_snoc,isE_snoc] at hsy
   rw[hlc] at hS
   have hel:=eCm_len x.W
   have hbl:=byteL_l (encCm c)
   have hsd:SlD (.sl (byteL (encCm c))) (byteL (encCm c)):=.inr rfl
   have hln:(eCm x.W++[c.dl]).length=x.W.length+1:=by rw[List.length_append,hel];rfl
   have hl5:[AV.arr 5 (eCm x.W++[c.dl]).length,AV.d (eI (x.i+1:Nat))]=[AV.arr 5 (eCm (x.W++[c])).length,AV.d (eI (x.i+1:Nat))]:=by rw[eCm_snoc]
   have hok1:¬((x.W.length:Int)+1=sy)->TSok l.length sy ⟨x.i+1,x.W++[c],x.s,x.bt+((encCm c).length+8)⟩:=λhne=>⟨by simp only;omega,by simp only[hlc];omega,by simp only[hlc];omega,by simp only[hlc];omega,hWs,λh1 h2=>by
    simp only[hlc] at h2
    exact q6 h1 (by omega)⟩
   have hok2:TSok l.length sy ⟨x.i+1,x.W++[c],x.W.length+1,x.bt+((encCm c).length+8)⟩:=⟨by simp only;omega,by simp only[hlc];omega,by simp only[hlc];omega,by simp only[hlc];omega,hWs,λh1 h2=>by
    simp only[hlc] at h2
    exact h2⟩
   unfold Cm.dl at hg hE hid hsy hln hl5
   by_cases hsyn:((x.W.length:Int)+1=sy)
   ·repeat' first|((with_reducible apply k_lk2))|refine st ?_|((with_reducible apply go_i);conv=>whnf)|((with_reducible first|apply k_nc|apply k_cs);(·first|exact hA|exact hS _ _);(try rintro _ _ ⟨rfl,rfl⟩))|((with_reducible apply k_pr);(·first|exact hA|exact hS _ _))|refine⟨λ_=>?_,λ_=>?_⟩|fail
    all_goals first|(exfalso;omega)|exact⟨[0,1,6,7,4,5],⟨x.i+1,x.W++[c],x.W.length+1,x.bt+((encCm c).length+8)⟩,hl5,rfl,hsy,by decide,rfl,rfl,by simp only;omega,hok2⟩
   ·repeat' first|((with_reducible apply k_lk2))|refine st ?_|((with_reducible apply go_i);conv=>whnf)|((with_reducible first|apply k_nc|apply k_cs);(·first|exact hA|exact hS _ _);(try rintro _ _ ⟨rfl,rfl⟩))|((with_reducible apply k_pr);(·first|exact hA|exact hS _ _))|refine⟨λ_=>?_,λ_=>?_⟩|fail
    all_goals first|(exfalso;omega)|exact⟨[0,1,2,3,4,5],⟨x.i+1,x.W++[c],x.s,x.bt+((encCm c).length+8)⟩,hl5,rfl,hid,by decide,rfl,rfl,by simp only;omega,hok1 hsyn⟩
  ·have hbad:∃r0 e0,encRes c=.tup [.d r0,.d (eI e0)]/\(e0≠0\/(e0=0/\∃zz:List (List D),r0=.sl zz/\4000<zz.length)):=by
    unfold encRes
    by_cases h0:ckE c=0
    ·rw[if_pos h0]
     by_cases h1:(encCm c).length<=1048576
     ·rw[if_pos h1]
      refine⟨_,_,rfl,.inr ⟨rfl,_,rfl,?_⟩⟩
      rw[byteL_l]
      have:=λh=>hok ⟨h0,h⟩
      omega
     ·rw[if_neg h1]
      exact⟨_,_,rfl,.inl (by decide)⟩
    ·rw[if_neg h0]
     exact⟨_,_,rfl,.inl h0⟩
   obtain⟨r0,e0,he,hcase⟩:=hbad
   rw[he] at hE
   have hid:=SoT_id a b x.W x.s x.bt
   have hok':TSok l.length sy ⟨x.i+1,x.W,x.s,x.bt⟩:=⟨by simp only;omega,by simp only;omega,q3,q4,q5,q6⟩
   unfold Cm.dl at hg hE
   generalize ng c.n1 (eEy c.es)=y1 at *
   generalize ng c.n2 (eDe c.ds)=y2 at *
   generalize ng c.n3 (eHo c.pl)=y3 at *
   generalize ng c.n4 (eSt c.rl)=y4 at *
   generalize ng c.n5 (ePk c.ps)=y5 at *
   generalize ng c.n6 (ePk c.hs)=y6 at *
   rcases hcase with h|⟨rfl,zz,rfl,h⟩
   ·repeat' first|refine st ?_|((with_reducible apply go_i);conv=>whnf)|refine⟨λ_=>?_,λ_=>?_⟩|fail
    all_goals first|(exfalso;omega)|exact⟨[0,1,2,3,4,5],⟨x.i+1,x.W,x.s,x.bt⟩,rfl,rfl,hid.symm,by decide,rfl,rfl,by simp only;omega,hok'⟩
   ·repeat' first|refine st ?_|((with_reducible apply go_i);conv=>whnf)|refine⟨λ_=>?_,λ_=>?_⟩|fail
    all_goals first|(exfalso;omega)|exact⟨[0,1,2,3,4,5],⟨x.i+1,x.W,x.s,x.bt⟩,rfl,rfl,hid.symm,by decide,rfl,rfl,by simp only;omega,hok'⟩
 |none=>
  have hge:=List.getElem?_eq_none_iff.1 hc
  have hb4:∀y∈x.W.map encCm,y.length<=4000:=by
   intro y hy
   obtain⟨w,hw,rfl⟩:=List.mem_map.1 hy
   exact(q5 w hw).2.2
  obtain⟨j,t,b0,j1,j2,j3,j4,j5,hC⟩:=C.Crash_all (x.W.map encCm) hb4 (by simp;omega) x.s (by simpa using q3) a b
  rw[List.length_map] at j2
  have hmd:=K_md fN (Bf x.W x.s)
  have hC:=C.Crash_p2 x.W.length x.bt hmd (K_md fN (((x.W.map encCm).take j).flatMap fr++t)) a b hC
  have hbs:∀y∈(x.W.map encCm).take j,y.length<=1048576:=λy hy=>by
   have:=hb4 y (List.mem_of_mem_take hy)
   omega
  have hfl:(((x.W.map encCm).take j).flatMap fr++t).length<=1073741824:=by
   have h1:=flat_fr_le (n:=4000) (l:=(x.W.map encCm).take j) λy hy=>hb4 y (List.mem_of_mem_take hy)
   have h2:((x.W.map encCm).take j).length*4008<=12*4008:=Nat.mul_le_mul_right _ (by rw[List.length_take,List.length_map];omega)
   have h3:=fr_len b0
   rw[List.length_append]
   omega
  have hO:=C.Open_p3 ((x.W.map encCm).take j) t b0 hbs j5 j3 j4 hfl (by rw[List.length_take,List.length_map];omega)
  have hjl:(eBs ((x.W.map encCm).take j)).length=j:=by rw[eBs_len,List.length_take,List.length_map];omega
  have hjm:=eBs_mem ((x.W.map encCm).take j)
  have hjg:∀(i:Nat) w,i<j->x.W[i]?=some w->(eBs ((x.W.map encCm).take j))[i]?=some [.sl (byteL (encCm w))]:=by
   intro i w hi hw
   refine eBs_get ?_
   rw[List.getElem?_take,if_pos hi,List.getElem?_map,hw]
   rfl
  have hjs:SlD (ng true (eBs ((x.W.map encCm).take j))) (eBs ((x.W.map encCm).take j)):=sld_ng
  have hws:SlD (ng true (eCm x.W)) (eCm x.W):=sld_ng
  have hwl:=eCm_len x.W
  have hwm:=eCm_mem x.W
  have hwg:=λi y=>@eCm_get x.W i y
  repeat' first|refine st ?_|((with_reducible apply go_i);conv=>whnf)|refine⟨λ_=>?_,λ_=>?_⟩|fail
  all_goals first|(exfalso;omega)|skip
  refine⟨_,_,WeakL.frz 11 rfl rfl rfl WeakL.refl,?_⟩
  rw[ng_e]
  refine go_o ?_
  repeat' first|refine st ?_|((with_reducible apply go_i);conv=>whnf)|refine⟨λ_=>?_,λ_=>?_⟩|fail
  refine k_cs (hC (.cells [.d (eI a),.d (eI b)]) (.arr (eCm x.W) 10 (eCm x.W).length (eCm x.W).isEmpty)) λr os' hq=>?_
  have hO:=hO r os' hq
  obtain rfl:=hq.1
  clear hq hC
  unfold fN at hO
  repeat' first|refine st ?_|((with_reducible apply go_i);conv=>whnf)|refine⟨λ_=>?_,λ_=>?_⟩|fail
  refine k_cs hO λr os'' hq=>?_
  obtain⟨jj,rfl⟩:=hq
  clear hO
  obtain⟨zb,hzb⟩:∃y,y=eBs ((x.W.map encCm).take j):=⟨_,rfl⟩
  obtain⟨zw,hzw⟩:∃y,y=eCm x.W:=⟨_,rfl⟩
  rw[<- hzb] at hjl hjm hjg hjs ⊢
  rw[<- hzw] at hws hwl hwm hwg ⊢
  generalize ng true zb=db at *
  generalize ng true zw=dw at *
  clear hzb hzw
  repeat' first|refine st ?_|((with_reducible apply go_i);conv=>whnf)|refine⟨λ_=>?_,λ_=>?_⟩|fail
  all_goals first|(exfalso;omega)|skip
  all_goals
   refine x_loopR1 mixed Lt.bt_top_TopLog_l1 Lk.bt_top_TopLog_l1 (λ(i:Nat)=>[.d (eI i)]) (λi=>[]) 0 (λi=>i<=j) (λi=>j-i) 0 rfl rfl rfl (λ_=>⟨rfl,rfl⟩) (λ_ _=>⟨rfl,rfl⟩) rfl (Nat.zero_le _) ?_
   repeat' first|refine st ?_|((with_reducible apply go_i);conv=>whnf)|refine⟨λ_=>?_,λ_=>?_⟩|fail
   intro i i1
   by_cases hi:i<j
   ·have hw:x.W[i]?=some x.W[i]:=List.getElem?_eq_getElem (by omega)
    obtain⟨w,hwe⟩:∃w,w=x.W[i]:=⟨_,rfl⟩
    rw[<- hwe] at hw
    obtain⟨w1,w2,w3⟩:=q5 w (List.mem_of_getElem? hw)
    have hD:=C.record_Decode w w1 w2 (by omega)
    have hSm:=C.Same w w1 w2
    have hbg:=hjg i w hi hw
    have hgw:=hwg i w hw
    unfold Cm.dl at hD hSm hgw
    generalize byteL (encCm w)=zy at *
    repeat' first|refine st ?_|((with_reducible apply go_i);conv=>whnf)|refine⟨λ_=>?_,λ_=>?_⟩|fail
    all_goals first|(exfalso;omega)|exact⟨[],i+1,rfl,rfl,rfl,by decide,rfl,rfl,by omega,by omega⟩
   ·repeat' first|refine st ?_|((with_reducible apply go_i);conv=>whnf)|refine⟨λ_=>?_,λ_=>?_⟩|fail
    all_goals first|(exfalso;omega)|rfl
end Go.Proofs
end
section
namespace Go.Proofs
open Go.Bi
theorem sld_nl{d:D}{es:List (List D)}(h:SlD d es):∃nl,d=ng nl es:=by
 rcases h with ⟨rfl,rfl⟩|rfl
 ·exact⟨true,rfl⟩
 ·exact⟨false,rfl⟩
theorem cells_zints:Tryz.prog.cellsOf T.ints=1:=by kernel_rfl
theorem cells_zvals:Tryz.prog.cellsOf T.vals=1:=by kernel_rfl
theorem wt_zints{ds:List D}(h:WT Tryz.prog T.ints ds):∃nl ks,ds=[ng nl (eIs ks)]:=by
 obtain⟨d,ks,h1,h2⟩:=wt_ints h
 obtain⟨nl,h3⟩:=sld_nl h2
 exact⟨nl,ks,by rw[h1,h3]⟩
theorem wt_zvals{ds:List D}(h:WT Tryz.prog T.vals ds):∃nl ks,ds=[ng nl (eVs ks)]:=by
 obtain⟨d,ks,h1,h2⟩:=wt_vals h
 obtain⟨nl,h3⟩:=sld_nl h2
 exact⟨nl,ks,by rw[h1,h3]⟩
theorem wt_zexs{ds:List D}(h:WT Tryz.prog T.exs ds):∃nl args,ds=[ng nl (xL args)]:=(wt_ex' h).2 rfl
abbrev T.zColumn:TypeId:=81
theorem cells_zColumn:Tryz.prog.cellsOf T.zColumn=3:=by kernel_rfl
theorem wt_zColumn{ds:List D}(h:WT Tryz.prog T.zColumn ds):∃x:Co,ds=x.ds:=by
 obtain⟨hl,hf⟩:=h.st' Tryz.underlying81
 rw[cells_zColumn] at hl
 match ds,hl with
 |[d0,d1,d2],_=>
  have h0:=hf _ (List.mem_cons_self ..)
  have h1:=hf _ (List.mem_cons_of_mem _ (List.mem_cons_self ..))
  have h2:=hf _ (List.mem_cons_of_mem _ (List.mem_cons_of_mem _ (List.mem_cons_self ..)))
  dsimp only at h0 h1 h2
  rw[cells_str] at h0
  obtain⟨f0,h_f0⟩:=wt_str h0
  have e_f0:([d0]:List D)=[.str f0]:=h_f0
  simp only[List.cons.injEq,and_true] at e_f0
  clear h_f0 h0
  rw[cells_int] at h1
  obtain⟨f1,h_f1⟩:=wt_int h1
  have e_f1:([d1]:List D)=[eI f1]:=h_f1
  simp only[List.cons.injEq,and_true] at e_f1
  clear h_f1 h1
  rw[cells_bool] at h2
  obtain⟨f2,h_f2⟩:=wt_bool h2
  have e_f2:([d2]:List D)=[.bool f2]:=h_f2
  simp only[List.cons.injEq,and_true] at e_f2
  clear h_f2 h2
  obtain rfl:=e_f0
  obtain rfl:=e_f1
  obtain rfl:=e_f2
  exact⟨⟨f0,f1,f2⟩,rfl⟩
abbrev T.zsColumn:TypeId:=75
theorem cells_zsColumn:Tryz.prog.cellsOf T.zsColumn=1:=by kernel_rfl
theorem wt_zsColumn{ds:List D}(h:WT Tryz.prog T.zsColumn ds):∃nl l,ds=[ng nl (eCs l)]:=by
 obtain⟨d,es,h1,h2,h4,h3⟩:=h.sl' Tryz.underlying75
 have:∃l,es=eCs l:=by
  clear h1 h2 h4
  induction es with
  |nil=>exact⟨[],rfl⟩
  |cons x es ih=>
   obtain⟨n,hn⟩:=wt_zColumn (h3 x (by simp))
   obtain⟨ks,hk⟩:=ih λy hy=>h3 y (by simp[hy])
   exact⟨n::ks,by rw[hn,hk];rfl⟩
 obtain⟨ks,rfl⟩:=this
 obtain⟨nl,h5⟩:=sld_nl h2
 exact⟨nl,ks,by rw[h1,h5]⟩
abbrev T.zForeign:TypeId:=218
theorem cells_zForeign:Tryz.prog.cellsOf T.zForeign=2:=by kernel_rfl
theorem wt_zForeign{ds:List D}(h:WT Tryz.prog T.zForeign ds):∃x:Fk,ds=x.ds:=by
 obtain⟨hl,hf⟩:=h.st' Tryz.underlying218
 rw[cells_zForeign] at hl
 match ds,hl with
 |[d0,d1],_=>
  have h0:=hf _ (List.mem_cons_self ..)
  have h1:=hf _ (List.mem_cons_of_mem _ (List.mem_cons_self ..))
  dsimp only at h0 h1
  rw[cells_zints] at h0
  obtain⟨f0n,f0,h_f0⟩:=wt_zints h0
  have e_f0:([d0]:List D)=[ng f0n (eIs f0)]:=h_f0
  simp only[List.cons.injEq,and_true] at e_f0
  clear h_f0 h0
  rw[cells_str] at h1
  obtain⟨f1,h_f1⟩:=wt_str h1
  have e_f1:([d1]:List D)=[.str f1]:=h_f1
  simp only[List.cons.injEq,and_true] at e_f1
  clear h_f1 h1
  obtain rfl:=e_f0
  obtain rfl:=e_f1
  exact⟨⟨f0n,f0,f1⟩,rfl⟩
abbrev T.zsForeign:TypeId:=76
theorem cells_zsForeign:Tryz.prog.cellsOf T.zsForeign=1:=by kernel_rfl
theorem wt_zsForeign{ds:List D}(h:WT Tryz.prog T.zsForeign ds):∃nl l,ds=[ng nl (eFk l)]:=by
 obtain⟨d,es,h1,h2,h4,h3⟩:=h.sl' Tryz.underlying76
 have:∃l,es=eFk l:=by
  clear h1 h2 h4
  induction es with
  |nil=>exact⟨[],rfl⟩
  |cons x es ih=>
   obtain⟨n,hn⟩:=wt_zForeign (h3 x (by simp))
   obtain⟨ks,hk⟩:=ih λy hy=>h3 y (by simp[hy])
   exact⟨n::ks,by rw[hn,hk];rfl⟩
 obtain⟨ks,rfl⟩:=this
 obtain⟨nl,h5⟩:=sld_nl h2
 exact⟨nl,ks,by rw[h1,h5]⟩
abbrev T.zTable:TypeId:=79
theorem cells_zTable:Tryz.prog.cellsOf T.zTable=5:=by kernel_rfl
theorem wt_zTable{ds:List D}(h:WT Tryz.prog T.zTable ds):∃x:Ta,ds=x.ds:=by
 obtain⟨hl,hf⟩:=h.st' Tryz.underlying79
 rw[cells_zTable] at hl
 match ds,hl with
 |[d0,d1,d2,d3,d4],_=>
  have h0:=hf _ (List.mem_cons_self ..)
  have h1:=hf _ (List.mem_cons_of_mem _ (List.mem_cons_self ..))
  have h2:=hf _ (List.mem_cons_of_mem _ (List.mem_cons_of_mem _ (List.mem_cons_self ..)))
  have h3:=hf _ (List.mem_cons_of_mem _ (List.mem_cons_of_mem _ (List.mem_cons_of_mem _ (List.mem_cons_self ..))))
  have h4:=hf _ (List.mem_cons_of_mem _ (List.mem_cons_of_mem _ (List.mem_cons_of_mem _ (List.mem_cons_of_mem _ (List.mem_cons_self ..)))))
  dsimp only at h0 h1 h2 h3 h4
  rw[cells_str] at h0
  obtain⟨f0,h_f0⟩:=wt_str h0
  have e_f0:([d0]:List D)=[.str f0]:=h_f0
  simp only[List.cons.injEq,and_true] at e_f0
  clear h_f0 h0
  rw[cells_zsColumn] at h1
  obtain⟨f1n,f1,h_f1⟩:=wt_zsColumn h1
  have e_f1:([d1]:List D)=[ng f1n (eCs f1)]:=h_f1
  simp only[List.cons.injEq,and_true] at e_f1
  clear h_f1 h1
  rw[cells_zints] at h2
  obtain⟨f2n,f2,h_f2⟩:=wt_zints h2
  have e_f2:([d2]:List D)=[ng f2n (eIs f2)]:=h_f2
  simp only[List.cons.injEq,and_true] at e_f2
  clear h_f2 h2
  rw[cells_zsForeign] at h3
  obtain⟨f3n,f3,h_f3⟩:=wt_zsForeign h3
  have e_f3:([d3]:List D)=[ng f3n (eFk f3)]:=h_f3
  simp only[List.cons.injEq,and_true] at e_f3
  clear h_f3 h3
  rw[cells_exs] at h4
  obtain⟨f4n,f4,h_f4⟩:=wt_zexs h4
  have e_f4:([d4]:List D)=[ng f4n (xL f4)]:=h_f4
  simp only[List.cons.injEq,and_true] at e_f4
  clear h_f4 h4
  obtain rfl:=e_f0
  obtain rfl:=e_f1
  obtain rfl:=e_f2
  obtain rfl:=e_f3
  obtain rfl:=e_f4
  exact⟨⟨f0,f1n,f1,f2n,f2,f3n,f3,f4n,f4⟩,rfl⟩
abbrev T.zChange:TypeId:=85
theorem cells_zChange:Tryz.prog.cellsOf T.zChange=9:=by kernel_rfl
theorem wt_zChange{ds:List D}(h:WT Tryz.prog T.zChange ds):∃x:Cg,ds=x.ds:=by
 obtain⟨hl,hf⟩:=h.st' Tryz.underlying85
 rw[cells_zChange] at hl
 match ds,hl with
 |[d0,d1,d2,d3,d4,d5,d6,d7,d8],_=>
  have h0:=hf _ (List.mem_cons_self ..)
  have h1:=hf _ (List.mem_cons_of_mem _ (List.mem_cons_self ..))
  have h2:=hf _ (List.mem_cons_of_mem _ (List.mem_cons_of_mem _ (List.mem_cons_self ..)))
  have h3:=hf _ (List.mem_cons_of_mem _ (List.mem_cons_of_mem _ (List.mem_cons_of_mem _ (List.mem_cons_self ..))))
  have h4:=hf _ (List.mem_cons_of_mem _ (List.mem_cons_of_mem _ (List.mem_cons_of_mem _ (List.mem_cons_of_mem _ (List.mem_cons_self ..)))))
  dsimp only at h0 h1 h2 h3 h4
  rw[cells_int] at h0
  obtain⟨f0,h_f0⟩:=wt_int h0
  have e_f0:([d0]:List D)=[eI f0]:=h_f0
  simp only[List.cons.injEq,and_true] at e_f0
  clear h_f0 h0
  rw[cells_str] at h1
  obtain⟨f1,h_f1⟩:=wt_str h1
  have e_f1:([d1]:List D)=[.str f1]:=h_f1
  simp only[List.cons.injEq,and_true] at e_f1
  clear h_f1 h1
  rw[cells_str] at h2
  obtain⟨f2,h_f2⟩:=wt_str h2
  have e_f2:([d2]:List D)=[.str f2]:=h_f2
  simp only[List.cons.injEq,and_true] at e_f2
  clear h_f2 h2
  rw[cells_zColumn] at h3
  obtain⟨f3,h_f3⟩:=wt_zColumn h3
  have e_f3:([d3,d4,d5]:List D)=[.str f3.nm,eI f3.k,.bool f3.nl]:=h_f3
  simp only[List.cons.injEq,and_true] at e_f3
  clear h_f3 h3
  rw[cells_val] at h4
  obtain⟨f4,h_f4⟩:=wt_val h4
  have e_f4:([d6,d7,d8]:List D)=[eI f4.k,eI f4.n,.str f4.s]:=h_f4
  simp only[List.cons.injEq,and_true] at e_f4
  clear h_f4 h4
  obtain rfl:=e_f0
  obtain rfl:=e_f1
  obtain rfl:=e_f2
  obtain⟨rfl,rfl,rfl⟩:=e_f3
  obtain⟨rfl,rfl,rfl⟩:=e_f4
  exact⟨⟨f0,f1,f2,f3,f4⟩,rfl⟩
abbrev T.zEntry:TypeId:=87
theorem cells_zEntry:Tryz.prog.cellsOf T.zEntry=16:=by kernel_rfl
theorem wt_zEntry{ds:List D}(h:WT Tryz.prog T.zEntry ds):∃x:Ey,ds=x.ds:=by
 obtain⟨hl,hf⟩:=h.st' Tryz.underlying87
 rw[cells_zEntry] at hl
 match ds,hl with
 |[d0,d1,d2,d3,d4,d5,d6,d7,d8,d9,d10,d11,d12,d13,d14,d15],_=>
  have h0:=hf _ (List.mem_cons_self ..)
  have h1:=hf _ (List.mem_cons_of_mem _ (List.mem_cons_self ..))
  have h2:=hf _ (List.mem_cons_of_mem _ (List.mem_cons_of_mem _ (List.mem_cons_self ..)))
  have h3:=hf _ (List.mem_cons_of_mem _ (List.mem_cons_of_mem _ (List.mem_cons_of_mem _ (List.mem_cons_self ..))))
  dsimp only at h0 h1 h2 h3
  rw[cells_int] at h0
  obtain⟨f0,h_f0⟩:=wt_int h0
  have e_f0:([d0]:List D)=[eI f0]:=h_f0
  simp only[List.cons.injEq,and_true] at e_f0
  clear h_f0 h0
  rw[cells_str] at h1
  obtain⟨f1,h_f1⟩:=wt_str h1
  have e_f1:([d1]:List D)=[.str f1]:=h_f1
  simp only[List.cons.injEq,and_true] at e_f1
  clear h_f1 h1
  rw[cells_zTable] at h2
  obtain⟨f2,h_f2⟩:=wt_zTable h2
  have e_f2:([d2,d3,d4,d5,d6]:List D)=[.str f2.nm,ng f2.n1 (eCs f2.cs),ng f2.n2 (eIs f2.ks),ng f2.n3 (eFk f2.fs),ng f2.n4 (xL f2.xs)]:=h_f2
  simp only[List.cons.injEq,and_true] at e_f2
  clear h_f2 h2
  rw[cells_zChange] at h3
  obtain⟨f3,h_f3⟩:=wt_zChange h3
  have e_f3:([d7,d8,d9,d10,d11,d12,d13,d14,d15]:List D)=[eI f3.k,.str f3.nm,.str f3.to,.str f3.co.nm,eI f3.co.k,.bool f3.co.nl,eI f3.df.k,eI f3.df.n,.str f3.df.s]:=h_f3
  simp only[List.cons.injEq,and_true] at e_f3
  clear h_f3 h3
  obtain rfl:=e_f0
  obtain rfl:=e_f1
  obtain⟨rfl,rfl,rfl,rfl,rfl⟩:=e_f2
  obtain⟨rfl,rfl,rfl,rfl,rfl,rfl,rfl,rfl,rfl⟩:=e_f3
  exact⟨⟨f0,f1,f2,f3⟩,rfl⟩
abbrev T.zsEntry:TypeId:=37
theorem cells_zsEntry:Tryz.prog.cellsOf T.zsEntry=1:=by kernel_rfl
theorem wt_zsEntry{ds:List D}(h:WT Tryz.prog T.zsEntry ds):∃nl l,ds=[ng nl (eEy l)]:=by
 obtain⟨d,es,h1,h2,h4,h3⟩:=h.sl' Tryz.underlying37
 have:∃l,es=eEy l:=by
  clear h1 h2 h4
  induction es with
  |nil=>exact⟨[],rfl⟩
  |cons x es ih=>
   obtain⟨n,hn⟩:=wt_zEntry (h3 x (by simp))
   obtain⟨ks,hk⟩:=ih λy hy=>h3 y (by simp[hy])
   exact⟨n::ks,by rw[hn,hk];rfl⟩
 obtain⟨ks,rfl⟩:=this
 obtain⟨nl,h5⟩:=sld_nl h2
 exact⟨nl,ks,by rw[h1,h5]⟩
abbrev T.zPeriod:TypeId:=98
theorem cells_zPeriod:Tryz.prog.cellsOf T.zPeriod=2:=by kernel_rfl
theorem wt_zPeriod{ds:List D}(h:WT Tryz.prog T.zPeriod ds):∃x:Int×Int,ds=[eI x.1,eI x.2]:=by
 obtain⟨hl,hf⟩:=h.st' Tryz.underlying98
 rw[cells_zPeriod] at hl
 match ds,hl with
 |[d0,d1],_=>
  have h0:=hf _ (List.mem_cons_self ..)
  have h1:=hf _ (List.mem_cons_of_mem _ (List.mem_cons_self ..))
  dsimp only at h0 h1
  rw[cells_int] at h0
  obtain⟨f0,h_f0⟩:=wt_int h0
  have e_f0:([d0]:List D)=[eI f0]:=h_f0
  simp only[List.cons.injEq,and_true] at e_f0
  clear h_f0 h0
  rw[cells_int] at h1
  obtain⟨f1,h_f1⟩:=wt_int h1
  have e_f1:([d1]:List D)=[eI f1]:=h_f1
  simp only[List.cons.injEq,and_true] at e_f1
  clear h_f1 h1
  obtain rfl:=e_f0
  obtain rfl:=e_f1
  exact⟨(f0,f1),rfl⟩
abbrev T.zFact:TypeId:=175
theorem cells_zFact:Tryz.prog.cellsOf T.zFact=3:=by kernel_rfl
theorem wt_zFact{ds:List D}(h:WT Tryz.prog T.zFact ds):∃x:Fa,ds=x.ds:=by
 obtain⟨hl,hf⟩:=h.st' Tryz.underlying175
 rw[cells_zFact] at hl
 match ds,hl with
 |[d0,d1,d2],_=>
  have h0:=hf _ (List.mem_cons_self ..)
  have h1:=hf _ (List.mem_cons_of_mem _ (List.mem_cons_self ..))
  dsimp only at h0 h1
  rw[cells_zvals] at h0
  obtain⟨f0n,f0,h_f0⟩:=wt_zvals h0
  have e_f0:([d0]:List D)=[ng f0n (eVs f0)]:=h_f0
  simp only[List.cons.injEq,and_true] at e_f0
  clear h_f0 h0
  rw[cells_zPeriod] at h1
  obtain⟨f1,h_f1⟩:=wt_zPeriod h1
  have e_f1:([d1,d2]:List D)=[eI f1.1,eI f1.2]:=h_f1
  simp only[List.cons.injEq,and_true] at e_f1
  clear h_f1 h1
  obtain rfl:=e_f0
  obtain⟨rfl,rfl⟩:=e_f1
  exact⟨⟨f0n,f0,f1.1,f1.2⟩,rfl⟩
abbrev T.zsFact:TypeId:=91
theorem cells_zsFact:Tryz.prog.cellsOf T.zsFact=1:=by kernel_rfl
theorem wt_zsFact{ds:List D}(h:WT Tryz.prog T.zsFact ds):∃nl l,ds=[ng nl (eFa l)]:=by
 obtain⟨d,es,h1,h2,h4,h3⟩:=h.sl' Tryz.underlying91
 have:∃l,es=eFa l:=by
  clear h1 h2 h4
  induction es with
  |nil=>exact⟨[],rfl⟩
  |cons x es ih=>
   obtain⟨n,hn⟩:=wt_zFact (h3 x (by simp))
   obtain⟨ks,hk⟩:=ih λy hy=>h3 y (by simp[hy])
   exact⟨n::ks,by rw[hn,hk];rfl⟩
 obtain⟨ks,rfl⟩:=this
 obtain⟨nl,h5⟩:=sld_nl h2
 exact⟨nl,ks,by rw[h1,h5]⟩
abbrev T.zDelta:TypeId:=93
theorem cells_zDelta:Tryz.prog.cellsOf T.zDelta=3:=by kernel_rfl
theorem wt_zDelta{ds:List D}(h:WT Tryz.prog T.zDelta ds):∃x:De,ds=x.ds:=by
 obtain⟨hl,hf⟩:=h.st' Tryz.underlying93
 rw[cells_zDelta] at hl
 match ds,hl with
 |[d0,d1,d2],_=>
  have h0:=hf _ (List.mem_cons_self ..)
  have h1:=hf _ (List.mem_cons_of_mem _ (List.mem_cons_self ..))
  have h2:=hf _ (List.mem_cons_of_mem _ (List.mem_cons_of_mem _ (List.mem_cons_self ..)))
  dsimp only at h0 h1 h2
  rw[cells_str] at h0
  obtain⟨f0,h_f0⟩:=wt_str h0
  have e_f0:([d0]:List D)=[.str f0]:=h_f0
  simp only[List.cons.injEq,and_true] at e_f0
  clear h_f0 h0
  rw[cells_zints] at h1
  obtain⟨f1n,f1,h_f1⟩:=wt_zints h1
  have e_f1:([d1]:List D)=[ng f1n (eIs f1)]:=h_f1
  simp only[List.cons.injEq,and_true] at e_f1
  clear h_f1 h1
  rw[cells_zsFact] at h2
  obtain⟨f2n,f2,h_f2⟩:=wt_zsFact h2
  have e_f2:([d2]:List D)=[ng f2n (eFa f2)]:=h_f2
  simp only[List.cons.injEq,and_true] at e_f2
  clear h_f2 h2
  obtain rfl:=e_f0
  obtain rfl:=e_f1
  obtain rfl:=e_f2
  exact⟨⟨f0,f1n,f1,f2n,f2⟩,rfl⟩
abbrev T.zsDelta:TypeId:=38
theorem cells_zsDelta:Tryz.prog.cellsOf T.zsDelta=1:=by kernel_rfl
theorem wt_zsDelta{ds:List D}(h:WT Tryz.prog T.zsDelta ds):∃nl l,ds=[ng nl (eDe l)]:=by
 obtain⟨d,es,h1,h2,h4,h3⟩:=h.sl' Tryz.underlying38
 have:∃l,es=eDe l:=by
  clear h1 h2 h4
  induction es with
  |nil=>exact⟨[],rfl⟩
  |cons x es ih=>
   obtain⟨n,hn⟩:=wt_zDelta (h3 x (by simp))
   obtain⟨ks,hk⟩:=ih λy hy=>h3 y (by simp[hy])
   exact⟨n::ks,by rw[hn,hk];rfl⟩
 obtain⟨ks,rfl⟩:=this
 obtain⟨nl,h5⟩:=sld_nl h2
 exact⟨nl,ks,by rw[h1,h5]⟩
abbrev T.zRect:TypeId:=100
theorem cells_zRect:Tryz.prog.cellsOf T.zRect=4:=by kernel_rfl
theorem wt_zRect{ds:List D}(h:WT Tryz.prog T.zRect ds):∃x:(Int×Int)×(Int×Int),ds=[eI x.1.1,eI x.1.2,eI x.2.1,eI x.2.2]:=by
 obtain⟨hl,hf⟩:=h.st' Tryz.underlying100
 rw[cells_zRect] at hl
 match ds,hl with
 |[d0,d1,d2,d3],_=>
  have h0:=hf _ (List.mem_cons_self ..)
  have h1:=hf _ (List.mem_cons_of_mem _ (List.mem_cons_self ..))
  dsimp only at h0 h1
  rw[cells_zPeriod] at h0
  obtain⟨f0,h_f0⟩:=wt_zPeriod h0
  have e_f0:([d0,d1]:List D)=[eI f0.1,eI f0.2]:=h_f0
  simp only[List.cons.injEq,and_true] at e_f0
  clear h_f0 h0
  rw[cells_zPeriod] at h1
  obtain⟨f1,h_f1⟩:=wt_zPeriod h1
  have e_f1:([d2,d3]:List D)=[eI f1.1,eI f1.2]:=h_f1
  simp only[List.cons.injEq,and_true] at e_f1
  clear h_f1 h1
  obtain⟨rfl,rfl⟩:=e_f0
  obtain⟨rfl,rfl⟩:=e_f1
  exact⟨(f0,f1),rfl⟩
abbrev T.zHold:TypeId:=102
theorem cells_zHold:Tryz.prog.cellsOf T.zHold=6:=by kernel_rfl
theorem wt_zHold{ds:List D}(h:WT Tryz.prog T.zHold ds):∃x:Ho,ds=x.ds:=by
 obtain⟨hl,hf⟩:=h.st' Tryz.underlying102
 rw[cells_zHold] at hl
 match ds,hl with
 |[d0,d1,d2,d3,d4,d5],_=>
  have h0:=hf _ (List.mem_cons_self ..)
  have h1:=hf _ (List.mem_cons_of_mem _ (List.mem_cons_self ..))
  have h2:=hf _ (List.mem_cons_of_mem _ (List.mem_cons_of_mem _ (List.mem_cons_self ..)))
  dsimp only at h0 h1 h2
  rw[cells_str] at h0
  obtain⟨f0,h_f0⟩:=wt_str h0
  have e_f0:([d0]:List D)=[.str f0]:=h_f0
  simp only[List.cons.injEq,and_true] at e_f0
  clear h_f0 h0
  rw[cells_str] at h1
  obtain⟨f1,h_f1⟩:=wt_str h1
  have e_f1:([d1]:List D)=[.str f1]:=h_f1
  simp only[List.cons.injEq,and_true] at e_f1
  clear h_f1 h1
  rw[cells_zRect] at h2
  obtain⟨f2,h_f2⟩:=wt_zRect h2
  have e_f2:([d2,d3,d4,d5]:List D)=[eI f2.1.1,eI f2.1.2,eI f2.2.1,eI f2.2.2]:=h_f2
  simp only[List.cons.injEq,and_true] at e_f2
  clear h_f2 h2
  obtain rfl:=e_f0
  obtain rfl:=e_f1
  obtain⟨rfl,rfl,rfl,rfl⟩:=e_f2
  exact⟨⟨f0,f1,f2.1.1,f2.1.2,f2.2.1,f2.2.2⟩,rfl⟩
abbrev T.zsHold:TypeId:=39
theorem cells_zsHold:Tryz.prog.cellsOf T.zsHold=1:=by kernel_rfl
theorem wt_zsHold{ds:List D}(h:WT Tryz.prog T.zsHold ds):∃nl l,ds=[ng nl (eHo l)]:=by
 obtain⟨d,es,h1,h2,h4,h3⟩:=h.sl' Tryz.underlying39
 have:∃l,es=eHo l:=by
  clear h1 h2 h4
  induction es with
  |nil=>exact⟨[],rfl⟩
  |cons x es ih=>
   obtain⟨n,hn⟩:=wt_zHold (h3 x (by simp))
   obtain⟨ks,hk⟩:=ih λy hy=>h3 y (by simp[hy])
   exact⟨n::ks,by rw[hn,hk];rfl⟩
 obtain⟨ks,rfl⟩:=this
 obtain⟨nl,h5⟩:=sld_nl h2
 exact⟨nl,ks,by rw[h1,h5]⟩
abbrev T.zPolicy:TypeId:=110
theorem cells_zPolicy:Tryz.prog.cellsOf T.zPolicy=2:=by kernel_rfl
theorem wt_zPolicy{ds:List D}(h:WT Tryz.prog T.zPolicy ds):∃x:Pk,ds=x.ds:=by
 obtain⟨hl,hf⟩:=h.st' Tryz.underlying110
 rw[cells_zPolicy] at hl
 match ds,hl with
 |[d0,d1],_=>
  have h0:=hf _ (List.mem_cons_self ..)
  have h1:=hf _ (List.mem_cons_of_mem _ (List.mem_cons_self ..))
  dsimp only at h0 h1
  rw[cells_str] at h0
  obtain⟨f0,h_f0⟩:=wt_str h0
  have e_f0:([d0]:List D)=[.str f0]:=h_f0
  simp only[List.cons.injEq,and_true] at e_f0
  clear h_f0 h0
  rw[cells_int] at h1
  obtain⟨f1,h_f1⟩:=wt_int h1
  have e_f1:([d1]:List D)=[eI f1]:=h_f1
  simp only[List.cons.injEq,and_true] at e_f1
  clear h_f1 h1
  obtain rfl:=e_f0
  obtain rfl:=e_f1
  exact⟨⟨f0,f1⟩,rfl⟩
abbrev T.zsPolicy:TypeId:=41
theorem cells_zsPolicy:Tryz.prog.cellsOf T.zsPolicy=1:=by kernel_rfl
theorem wt_zsPolicy{ds:List D}(h:WT Tryz.prog T.zsPolicy ds):∃nl l,ds=[ng nl (ePk l)]:=by
 obtain⟨d,es,h1,h2,h4,h3⟩:=h.sl' Tryz.underlying41
 have:∃l,es=ePk l:=by
  clear h1 h2 h4
  induction es with
  |nil=>exact⟨[],rfl⟩
  |cons x es ih=>
   obtain⟨n,hn⟩:=wt_zPolicy (h3 x (by simp))
   obtain⟨ks,hk⟩:=ih λy hy=>h3 y (by simp[hy])
   exact⟨n::ks,by rw[hn,hk];rfl⟩
 obtain⟨ks,rfl⟩:=this
 obtain⟨nl,h5⟩:=sld_nl h2
 exact⟨nl,ks,by rw[h1,h5]⟩
abbrev T.zHorizon:TypeId:=115
theorem cells_zHorizon:Tryz.prog.cellsOf T.zHorizon=2:=by kernel_rfl
theorem wt_zHorizon{ds:List D}(h:WT Tryz.prog T.zHorizon ds):∃x:Pk,ds=x.ds:=by
 obtain⟨hl,hf⟩:=h.st' Tryz.underlying115
 rw[cells_zHorizon] at hl
 match ds,hl with
 |[d0,d1],_=>
  have h0:=hf _ (List.mem_cons_self ..)
  have h1:=hf _ (List.mem_cons_of_mem _ (List.mem_cons_self ..))
  dsimp only at h0 h1
  rw[cells_str] at h0
  obtain⟨f0,h_f0⟩:=wt_str h0
  have e_f0:([d0]:List D)=[.str f0]:=h_f0
  simp only[List.cons.injEq,and_true] at e_f0
  clear h_f0 h0
  rw[cells_int] at h1
  obtain⟨f1,h_f1⟩:=wt_int h1
  have e_f1:([d1]:List D)=[eI f1]:=h_f1
  simp only[List.cons.injEq,and_true] at e_f1
  clear h_f1 h1
  obtain rfl:=e_f0
  obtain rfl:=e_f1
  exact⟨⟨f0,f1⟩,rfl⟩
abbrev T.zsHorizon:TypeId:=42
theorem cells_zsHorizon:Tryz.prog.cellsOf T.zsHorizon=1:=by kernel_rfl
theorem wt_zsHorizon{ds:List D}(h:WT Tryz.prog T.zsHorizon ds):∃nl l,ds=[ng nl (ePk l)]:=by
 obtain⟨d,es,h1,h2,h4,h3⟩:=h.sl' Tryz.underlying42
 have:∃l,es=ePk l:=by
  clear h1 h2 h4
  induction es with
  |nil=>exact⟨[],rfl⟩
  |cons x es ih=>
   obtain⟨n,hn⟩:=wt_zHorizon (h3 x (by simp))
   obtain⟨ks,hk⟩:=ih λy hy=>h3 y (by simp[hy])
   exact⟨n::ks,by rw[hn,hk];rfl⟩
 obtain⟨ks,rfl⟩:=this
 obtain⟨nl,h5⟩:=sld_nl h2
 exact⟨nl,ks,by rw[h1,h5]⟩
abbrev T.zsstring:TypeId:=40
theorem cells_zsstring:Tryz.prog.cellsOf T.zsstring=1:=by kernel_rfl
theorem wt_zsstring{ds:List D}(h:WT Tryz.prog T.zsstring ds):∃nl l,ds=[ng nl (eSt l)]:=by
 obtain⟨d,es,h1,h2,h4,h3⟩:=h.sl' Tryz.underlying40
 have:∃l,es=eSt l:=by
  clear h1 h2 h4
  induction es with
  |nil=>exact⟨[],rfl⟩
  |cons x es ih=>
   obtain⟨n,hn⟩:=wt_str (h3 x (by simp))
   obtain⟨ks,hk⟩:=ih λy hy=>h3 y (by simp[hy])
   exact⟨n::ks,by rw[hn,hk];rfl⟩
 obtain⟨ks,rfl⟩:=this
 obtain⟨nl,h5⟩:=sld_nl h2
 exact⟨nl,ks,by rw[h1,h5]⟩
abbrev T.zCommit:TypeId:=44
theorem cells_zCommit:Tryz.prog.cellsOf T.zCommit=10:=by kernel_rfl
theorem wt_zCommit{ds:List D}(h:WT Tryz.prog T.zCommit ds):∃x:Cm,ds=x.dl:=by
 obtain⟨hl,hf⟩:=h.st' Tryz.underlying44
 rw[cells_zCommit] at hl
 match ds,hl with
 |[d0,d1,d2,d3,d4,d5,d6,d7,d8,d9],_=>
  have h0:=hf _ (List.mem_cons_self ..)
  have h1:=hf _ (List.mem_cons_of_mem _ (List.mem_cons_self ..))
  have h2:=hf _ (List.mem_cons_of_mem _ (List.mem_cons_of_mem _ (List.mem_cons_self ..)))
  have h3:=hf _ (List.mem_cons_of_mem _ (List.mem_cons_of_mem _ (List.mem_cons_of_mem _ (List.mem_cons_self ..))))
  have h4:=hf _ (List.mem_cons_of_mem _ (List.mem_cons_of_mem _ (List.mem_cons_of_mem _ (List.mem_cons_of_mem _ (List.mem_cons_self ..)))))
  have h5:=hf _ (List.mem_cons_of_mem _ (List.mem_cons_of_mem _ (List.mem_cons_of_mem _ (List.mem_cons_of_mem _ (List.mem_cons_of_mem _ (List.mem_cons_self ..))))))
  have h6:=hf _ (List.mem_cons_of_mem _ (List.mem_cons_of_mem _ (List.mem_cons_of_mem _ (List.mem_cons_of_mem _ (List.mem_cons_of_mem _ (List.mem_cons_of_mem _ (List.mem_cons_self ..)))))))
  have h7:=hf _ (List.mem_cons_of_mem _ (List.mem_cons_of_mem _ (List.mem_cons_of_mem _ (List.mem_cons_of_mem _ (List.mem_cons_of_mem _ (List.mem_cons_of_mem _ (List.mem_cons_of_mem _ (List.mem_cons_self ..))))))))
  have h8:=hf _ (List.mem_cons_of_mem _ (List.mem_cons_of_mem _ (List.mem_cons_of_mem _ (List.mem_cons_of_mem _ (List.mem_cons_of_mem _ (List.mem_cons_of_mem _ (List.mem_cons_of_mem _ (List.mem_cons_of_mem _ (List.mem_cons_self ..)))))))))
  have h9:=hf _ (List.mem_cons_of_mem _ (List.mem_cons_of_mem _ (List.mem_cons_of_mem _ (List.mem_cons_of_mem _ (List.mem_cons_of_mem _ (List.mem_cons_of_mem _ (List.mem_cons_of_mem _ (List.mem_cons_of_mem _ (List.mem_cons_of_mem _ (List.mem_cons_self ..))))))))))
  dsimp only at h0 h1 h2 h3 h4 h5 h6 h7 h8 h9
  rw[cells_int] at h0
  obtain⟨f0,h_f0⟩:=wt_int h0
  have e_f0:([d0]:List D)=[eI f0]:=h_f0
  simp only[List.cons.injEq,and_true] at e_f0
  clear h_f0 h0
  rw[cells_int] at h1
  obtain⟨f1,h_f1⟩:=wt_int h1
  have e_f1:([d1]:List D)=[eI f1]:=h_f1
  simp only[List.cons.injEq,and_true] at e_f1
  clear h_f1 h1
  rw[cells_int] at h2
  obtain⟨f2,h_f2⟩:=wt_int h2
  have e_f2:([d2]:List D)=[eI f2]:=h_f2
  simp only[List.cons.injEq,and_true] at e_f2
  clear h_f2 h2
  rw[cells_int] at h3
  obtain⟨f3,h_f3⟩:=wt_int h3
  have e_f3:([d3]:List D)=[eI f3]:=h_f3
  simp only[List.cons.injEq,and_true] at e_f3
  clear h_f3 h3
  rw[cells_zsEntry] at h4
  obtain⟨f4n,f4,h_f4⟩:=wt_zsEntry h4
  have e_f4:([d4]:List D)=[ng f4n (eEy f4)]:=h_f4
  simp only[List.cons.injEq,and_true] at e_f4
  clear h_f4 h4
  rw[cells_zsDelta] at h5
  obtain⟨f5n,f5,h_f5⟩:=wt_zsDelta h5
  have e_f5:([d5]:List D)=[ng f5n (eDe f5)]:=h_f5
  simp only[List.cons.injEq,and_true] at e_f5
  clear h_f5 h5
  rw[cells_zsHold] at h6
  obtain⟨f6n,f6,h_f6⟩:=wt_zsHold h6
  have e_f6:([d6]:List D)=[ng f6n (eHo f6)]:=h_f6
  simp only[List.cons.injEq,and_true] at e_f6
  clear h_f6 h6
  rw[cells_zsstring] at h7
  obtain⟨f7n,f7,h_f7⟩:=wt_zsstring h7
  have e_f7:([d7]:List D)=[ng f7n (eSt f7)]:=h_f7
  simp only[List.cons.injEq,and_true] at e_f7
  clear h_f7 h7
  rw[cells_zsPolicy] at h8
  obtain⟨f8n,f8,h_f8⟩:=wt_zsPolicy h8
  have e_f8:([d8]:List D)=[ng f8n (ePk f8)]:=h_f8
  simp only[List.cons.injEq,and_true] at e_f8
  clear h_f8 h8
  rw[cells_zsHorizon] at h9
  obtain⟨f9n,f9,h_f9⟩:=wt_zsHorizon h9
  have e_f9:([d9]:List D)=[ng f9n (ePk f9)]:=h_f9
  simp only[List.cons.injEq,and_true] at e_f9
  clear h_f9 h9
  obtain rfl:=e_f0
  obtain rfl:=e_f1
  obtain rfl:=e_f2
  obtain rfl:=e_f3
  obtain rfl:=e_f4
  obtain rfl:=e_f5
  obtain rfl:=e_f6
  obtain rfl:=e_f7
  obtain rfl:=e_f8
  obtain rfl:=e_f9
  exact⟨⟨f0,f1,f2,f3,f4n,f4,f5n,f5,f6n,f6,f7n,f7,f8n,f8,f9n,f9⟩,rfl⟩
abbrev T.zsCommit:TypeId:=22
theorem wt_zsCommit{ds:List D}(h:WT Tryz.prog T.zsCommit ds):∃nl l,ds=[ng nl (eCm l)]:=by
 obtain⟨d,es,h1,h2,h4,h3⟩:=h.sl' Tryz.underlying22
 have:∃l,es=eCm l:=by
  clear h1 h2 h4
  induction es with
  |nil=>exact⟨[],rfl⟩
  |cons x es ih=>
   obtain⟨n,hn⟩:=wt_zCommit (h3 x (by simp))
   obtain⟨ks,hk⟩:=ih λy hy=>h3 y (by simp[hy])
   exact⟨n::ks,by rw[hn,hk];rfl⟩
 obtain⟨ks,rfl⟩:=this
 obtain⟨nl,h5⟩:=sld_nl h2
 exact⟨nl,ks,by rw[h1,h5]⟩
abbrev T.zPair:TypeId:=24
theorem cells_zPair:Tryz.prog.cellsOf T.zPair=2:=by kernel_rfl
theorem wt_zPair{ds:List D}(h:WT Tryz.prog T.zPair ds):∃x:Int×Int,ds=[eI x.1,eI x.2]:=by
 obtain⟨hl,hf⟩:=h.st' Tryz.underlying24
 rw[cells_zPair] at hl
 match ds,hl with
 |[d0,d1],_=>
  have h0:=hf _ (List.mem_cons_self ..)
  have h1:=hf _ (List.mem_cons_of_mem _ (List.mem_cons_self ..))
  dsimp only at h0 h1
  rw[cells_int] at h0
  obtain⟨f0,h_f0⟩:=wt_int h0
  have e_f0:([d0]:List D)=[eI f0]:=h_f0
  simp only[List.cons.injEq,and_true] at e_f0
  clear h_f0 h0
  rw[cells_int] at h1
  obtain⟨f1,h_f1⟩:=wt_int h1
  have e_f1:([d1]:List D)=[eI f1]:=h_f1
  simp only[List.cons.injEq,and_true] at e_f1
  clear h_f1 h1
  obtain rfl:=e_f0
  obtain rfl:=e_f1
  exact⟨(f0,f1),rfl⟩
theorem ll_mem{α:Type}{f:α->List D}{l:List α}{a:α}(h:a∈l):bulkL (f a)<=bulkLL (l.map f):=bulkLL_mem (List.mem_map.2 ⟨a,h,rfl⟩)
theorem ll_len{α:Type}{f:α->List D}{l:List α}(h:∀a,1<=bulkL (f a)):l.length<=bulkLL (l.map f):=by
 have:=bulkLL_len (l:=l.map f) λx hx=>by
  obtain⟨a,_,rfl⟩:=List.mem_map.1 hx
  exact h a
 rwa [List.length_map] at this
theorem bulkD_pos(d:D):1<=bulkD d:=by cases d<;>simp[bulkD]
theorem bulk1(d:D)(l:List D):1<=bulkL (d::l):=by
 have:=bulkD_pos d
 simp only[bulkL]
 omega
theorem str_bulk{s:List UInt8}(h:bulkD (.str s)<=1048576):SZ s:=by
 simp only[bulkD] at h
 unfold SZ
 omega
theorem fk_I{f:Fk}(h:bulkL f.ds<=1048576):FkI f:=by
 unfold Fk.ds at h
 simp only[bulkL,bulk_ngE] at h
 have h1:=ll_len (f:=λn:Int=>[eI n]) (l:=f.cs) (λ_=>bulk1 _ _)
 exact⟨by unfold eIs at h;omega,str_bulk (by omega)⟩
theorem ta_I{t:Ta}(h:bulkL t.ds<=1048576):TaI t:=by
 unfold Ta.ds at h
 simp only[bulkL,bulk_ngE] at h
 unfold eCs eIs eFk xL at h
 have h1:=ll_len (f:=Co.ds) (l:=t.cs) (λ_=>bulk1 _ _)
 have h2:=ll_len (f:=λn:Int=>[eI n]) (l:=t.ks) (λ_=>bulk1 _ _)
 have h3:=ll_len (f:=Fk.ds) (l:=t.fs) (λ_=>bulk1 _ _)
 have h4:=ll_len (f:=Ex.ds) (l:=t.xs) (λe=>by have:=e.bk_pos;unfold Ex.bk at this;omega)
 refine⟨str_bulk (by omega),⟨by omega,λc hc=>?_⟩,by omega,⟨by omega,λf hf=>?_⟩,by omega,λe he=>?_⟩
 ·have:=ll_mem (f:=Co.ds) hc
  have h6:bulkL c.ds=bulkD (.str c.nm)+(bulkD (eI c.k)+(bulkD (.bool c.nl)+0)):=by simp only[Co.ds,bulkL]
  exact str_bulk (by omega)
 ·have:=ll_mem (f:=Fk.ds) hf
  exact fk_I (by omega)
 ·have:=ll_mem (f:=Ex.ds) he
  unfold Ex.bk
  omega
theorem ey_I{e:Ey}(h:bulkL e.ds<=1048576):EyI e:=by
 unfold Ey.ds at h
 simp only[bulkL] at h
 refine⟨str_bulk (by omega),ta_I ?_,str_bulk (by omega),str_bulk (by omega),str_bulk (by omega),str_bulk (by omega)⟩
 unfold Ta.ds
 simp only[bulkL]
 omega
theorem fa_I{f:Fa}(h:bulkL f.ds<=1048576):FaI f:=by
 unfold Fa.ds at h
 simp only[bulkL,bulk_ngE] at h
 unfold eVs at h
 have h1:=ll_len (f:=Vl.ds) (l:=f.r) (λ_=>bulk1 _ _)
 refine⟨by omega,λv hv=>?_⟩
 have:=ll_mem (f:=Vl.ds) hv
 have h6:bulkL v.ds=bulkD (eI v.k)+(bulkD (eI v.n)+(bulkD (.str v.s)+0)):=by simp only[Vl.ds,bulkL]
 exact str_bulk (by omega)
theorem de_I{d:De}(h:bulkL d.ds<=1048576):DeI d:=by
 unfold De.ds at h
 simp only[bulkL,bulk_ngE] at h
 unfold eIs eFa at h
 have h1:=ll_len (f:=λn:Int=>[eI n]) (l:=d.cl) (λ_=>bulk1 _ _)
 have h2:=ll_len (f:=Fa.ds) (l:=d.op) (λ_=>bulk1 _ _)
 refine⟨str_bulk (by omega),by omega,by omega,λf hf=>fa_I ?_⟩
 have:=ll_mem (f:=Fa.ds) hf
 omega
theorem cm_I{x:Cm}(h:bulkL x.dl<=1048576):CmI x:=by
 unfold Cm.dl at h
 simp only[bulkL,bulk_ngE] at h
 unfold eEy eDe eHo eSt ePk at h
 have h1:=ll_len (f:=Ey.ds) (l:=x.es) (λ_=>bulk1 _ _)
 have h2:=ll_len (f:=De.ds) (l:=x.ds) (λ_=>bulk1 _ _)
 have h3:=ll_len (f:=Ho.ds) (l:=x.pl) (λ_=>bulk1 _ _)
 have h4:=ll_len (f:=λs:List UInt8=>[D.str s]) (l:=x.rl) (λ_=>bulk1 _ _)
 have h5:=ll_len (f:=Pk.ds) (l:=x.ps) (λ_=>bulk1 _ _)
 have h6:=ll_len (f:=Pk.ds) (l:=x.hs) (λ_=>bulk1 _ _)
 refine⟨⟨by omega,λe he=>ey_I ?_⟩,⟨by omega,λd hd=>de_I ?_⟩,⟨by omega,λg hg=>?_⟩,⟨by omega,λs hs=>?_⟩,⟨by omega,λp hp=>?_⟩,⟨by omega,λp hp=>?_⟩⟩
 ·have:=ll_mem (f:=Ey.ds) he;omega
 ·have:=ll_mem (f:=De.ds) hd;omega
 ·have:=ll_mem (f:=Ho.ds) hg
  have h6:bulkL g.ds=bulkD (.str g.nm)+(bulkD (.str g.tb)+(bulkD (eI g.va)+(bulkD (eI g.vb)+(bulkD (eI g.sa)+(bulkD (eI g.sb)+0))))):=by simp only[Ho.ds,bulkL]
  exact⟨str_bulk (by omega),str_bulk (by omega)⟩
 ·have:=ll_mem (f:=λs:List UInt8=>[D.str s]) hs
  have h6:bulkL [D.str s]=bulkD (.str s)+0:=by simp only[bulkL]
  exact str_bulk (by omega)
 ·have:=ll_mem (f:=Pk.ds) hp
  have h6:bulkL p.ds=bulkD (.str p.tb)+(bulkD (eI p.n)+0):=by simp only[Pk.ds,bulkL]
  exact str_bulk (by omega)
 ·have:=ll_mem (f:=Pk.ds) hp
  have h6:bulkL p.ds=bulkD (.str p.tb)+(bulkD (eI p.n)+0):=by simp only[Pk.ds,bulkL]
  exact str_bulk (by omega)
theorem cms_bulk{d:D}{l:List Cm}(h:SlD d (eCm l))(hb:bulkL [d]<=1048576):l.length<=1048576/\∀x∈l,CmI x/\bulkL x.dl<=1048576:=by
 have h1:=sld_bulk h
 have h2:=ll_len (f:=Cm.dl) (l:=l) (λ_=>bulk1 _ _)
 unfold eCm at h1
 refine⟨by omega,λx hx=>?_⟩
 have h3:=ll_mem (f:=Cm.dl) hx
 exact⟨cm_I (by omega),by omega⟩
theorem av_cms(d:D):avOf Tryz.prog T.zsCommit [d]=.d d:=by unfold avOf;rw[Tryz.underlying22]
theorem av_pair(a b:D):avOf Tryz.prog T.zPair [a,b]=.agg [.d a,.d b]:=by unfold avOf;rw[Tryz.underlying24];rfl
end Go.Proofs
end
