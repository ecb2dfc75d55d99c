/- Texts of this claim, joined. No condition. -/
import Derived.Test.YtlkkaepbnnakpaaGreatDoorQ4
import Derived.WalkKit
import Derived.Deep.RegionLaw
import Derived.Lib.SliceRun
import Derived.Lib.ReflectliteSwap
import Derived.Test.YtlkkaepbnnakpaaGreatDoorRows
set_option linter.unusedSimpArgs false
set_option linter.unusedVariables false
set_option maxRecDepth 10000
set_option maxHeartbeats 4000000
section
namespace Go.Proofs
open Go.Bi
theorem C.r14_Check(t:Tb)(dc dk df dx:D)(h:Tok t dc dk df dx)(c:Ch)(hc:Cok c):Pure Tryz.prog N.bt_ref14_Check [eT t.nm dc dk df dx,c.av] (.d (eI (evoE t c))):=by
 have hT:=C.r13_Check t dc dk df dx h
 have hS:=C.r14_plain c
 have hA:=C.r14_add t dc dk df dx h c hc.cn hc.vs
 have hF:=C.r13_Find t.nm t.cs h.hl dc dk df dx h.dc c.nm
 have hG:=C.r13_Find t.nm t.cs h.hl dc dk df dx h.dc c.to
 have hN:=C.r13_Name c.to hc.to
 have hU:=C.r14_used t dc dk df dx h (findC c.nm t.cs)
 have hl:=eCs_len t.cs
 have hme:=eCs_mem t.cs
 have hdc:=h.dc
 obtain⟨q,hq⟩:∃q,q=evoE t c:=⟨_,rfl⟩
 rw[<- hq]
 unfold evoE chgE at hq
 have hfs:=λhh=>findC_some (nm:=c.nm) (l:=t.cs) hh
 obtain⟨n0,hn0⟩:∃n:Nat,n=(usedL t).count (findC c.nm t.cs):=⟨_,rfl⟩
 rw[<- hn0] at hq
 rw[show decide (findC c.nm t.cs∈usedL t)=decide (0<n0) from decide_eq_decide.2 (by rw[hn0];exact List.count_pos_iff.symm)] at hU
 obtain⟨f,hf⟩:∃f,f=findC c.nm t.cs:=⟨_,rfl⟩
 rw[<- hf] at hF hq hfs hU
 obtain⟨g,hg⟩:∃f,f=findC c.to t.cs:=⟨_,rfl⟩
 rw[<- hg] at hG hq
 obtain⟨nb,hnb⟩:∃f,f=nameB c.to:=⟨_,rfl⟩
 rw[<- hnb] at hN hq
 obtain⟨ae,hae⟩:∃f,f=addE t c:=⟨_,rfl⟩
 rw[<- hae] at hA hq
 obtain⟨te,hte⟩:∃f,f=tabE t:=⟨_,rfl⟩
 rw[<- hte] at hT hq
 have hix:0<=f->∃s k b,(eCs t.cs)[f.toNat]?=some [.str s,eI k,.bool b]/\ckAt t f=k/\f<t.cs.length:=by
  intro hh
  obtain⟨d,h1,h2⟩:=hfs hh
  have h3:=(List.getElem?_eq_some_iff.1 h1).1
  exact⟨d.nm,d.k,d.nl,eCs_get h1,by unfold ckAt;rw[h1],by omega⟩
 obtain⟨k,nm,to,⟨cn,ck,cl⟩,⟨vk,vn,vs⟩⟩:=c
 obtain⟨es,hes⟩:∃es,es=eCs t.cs:=⟨_,rfl⟩
 rw[<- hes] at hl hdc hix hme
 obtain⟨ka,hka⟩:∃x,x=ckAt t f:=⟨_,rfl⟩
 rw[<- hka] at hq hix
 obtain⟨m0,hm0⟩:∃m,m=t.cs.length:=⟨_,rfl⟩
 rw[<- hm0] at hl hix
 simp only[spareB] at hq
 dsimp only at hq hF hG hN hS hA hT hU
 clear hfs hf hg hnb hae hte hes hka hm0 hc h hn0
 have r1:nm=nm:=rfl
 have r2:to=to:=rfl
 have r3:cn=cn:=rfl
 have r4:vs=vs:=rfl
 by_cases h1:k=1
 ·rw[if_pos h1] at hS
  refine F.bt_ref14_Check.go mixed rfl ?_
  repeat' first|refine st ?_|((with_reducible first|apply k_pn|apply k_pc);(·first|exact hF|exact hN|exact hG|exact hS|exact hA|exact hT|exact hU))|(with_reducible first|apply k_d|apply k_b)<;>intro _
  all_goals (rw[hq];clear hq hF hN hG hS hA hT hU hix)
  all_goals (try dsimp only at *)
  all_goals first|(simp_all;done)|(simp_all;(try intros);(repeat' split)<;>omega)
 rw[if_neg h1] at hS
 by_cases h3:k=3
 ·rw[if_pos h3] at hS
  refine F.bt_ref14_Check.go mixed rfl ?_
  repeat' first|refine st ?_|((with_reducible first|apply k_pn|apply k_pc);(·first|exact hF|exact hN|exact hG|exact hS|exact hA|exact hT|exact hU))|(with_reducible first|apply k_d|apply k_b)<;>intro _
  all_goals (rw[hq];clear hq hF hN hG hS hA hT hU hix)
  all_goals (try dsimp only at *)
  all_goals first|(simp_all;done)|(simp_all;(try intros);(repeat' split)<;>omega)
 rw[if_neg h3] at hS
 by_cases hf0:f<0
 ·clear hix
  refine F.bt_ref14_Check.go mixed rfl ?_
  repeat' first|refine st ?_|((with_reducible first|apply k_pn|apply k_pc);(·first|exact hF|exact hN|exact hG|exact hS|exact hA|exact hT|exact hU))|(with_reducible first|apply k_d|apply k_b)<;>intro _
  all_goals (rw[hq];clear hq hF hN hG hS hA hT hU)
  all_goals (try dsimp only at *)
  all_goals first|(simp_all;done)|(simp_all;(try intros);(repeat' split)<;>omega)
 ·obtain⟨s,kk,b,hgt,rfl,hlt⟩:=hix (by omega)
  have hf1:0<=f:=by omega
  refine F.bt_ref14_Check.go mixed rfl ?_
  repeat' first|refine st ?_|((with_reducible first|apply k_pn|apply k_pc);(·first|exact hF|exact hN|exact hG|exact hS|exact hA|exact hT|exact hU))|(with_reducible first|apply k_d|apply k_b)<;>intro _
  all_goals (rw[hq];clear hq hF hN hG hS hA hT hU hix)
  all_goals (try dsimp only at *)
  all_goals first|(simp_all;done)|(simp_all;(try intros);(repeat' split)<;>omega)
end Go.Proofs
end
section
namespace Go.Proofs
open Go.RowKit Go.Lib
theorem tz_co:Bi.tz Tryz.prog 29=some [.str [],.int .i64 0,.bool false]:=by kernel_rfl
theorem under_cos:Tryz.prog.underlying 22=some (.slice 29):=by kernel_rfl
theorem info_co:(Tryz.prog.info? 29).map (λi=>i.size)=some 3:=by kernel_rfl
theorem zeroCells_one(z:Array Value)(h:0<z.size):(Builtin.zeroCells z 1).toList=z.toList:=by
 apply List.ext_getElem?
 intro i
 simp only[Builtin.zeroCells,Nat.one_mul,Array.getElem?_toList,Array.getElem?_map,Array.getElem?_range]
 by_cases hi:i<z.size
 ·simp[hi,Nat.mod_eq_of_lt hi]
 ·simp[hi]
theorem run_clear_co(w:World)(ty:TypeId)(z:Value)(hv:∀w,(zeroValue 29).run Tryz.prog w=.ok z w)(hz:z.cells.size=3)(h1:∀u∈z.cells.toList,u.oneCell'=true)(b o c:Nat)(hc:∀j,j<3->(w.cell? ⟨b,o+j,none⟩).isSome=true)(hf:∀j,j<3->w.frozen? ⟨b,o+j,none⟩=false) :
  (Builtin.clear_ #[22] ty #[.slice (some ⟨b,o,none⟩) 1 c]).run Tryz.prog w=.ok (.tuple #[]) (w.setCells b o z.cells.toList):=by
 have hzc:=zeroCells_one z.cells (by omega)
 have hst:=run_storeCells_cells (P:=Tryz.prog) b o z.cells.toList 0 w (by simpa[hz] using hc) (by simpa[hz] using hf) h1
 simp only[Nat.add_zero] at hst
 simp[Builtin.clear_,run_underlying under_cos,hv,hzc,hst]
set_option maxHeartbeats 4000000 in
set_option maxRecDepth 1000000 in
theorem del_co(z:Value)(hv:∀w,(zeroValue 29).run Tryz.prog w=.ok z w)(hz:z.cells.size=3)(hz1:∀u∈z.cells.toList,u.oneCell'=true)(blk n cap i:Nat)(ca:Array Value)(w:World)(hi:i<n)(hl:n<=cap)(hm:cap<=9223372036854775807)(hsz:ca.size=cap*3)
  (hc:∀k,w.cell? ⟨blk,k,none⟩=ca[k]?) (hf:∀k,k<ca.size->w.frozen? ⟨blk,k,none⟩=false) (hone:∀k u,k<n*3->ca[k]?=some u->u.oneCell'=true) :
  Calls Tryz.prog 125 #[.slice (some ⟨blk,0,none⟩) n cap,.int .i64 i,.int .i64 ((i:Int)+1)] w λe w'=>e=.returned (.slice (some ⟨blk,0,none⟩) (n-1) cap)/\
   w'=(w.drew.setCells blk (0+i*3) ((ca.toList.drop ((i+1)*3)).take ((n-(i+1))*3))).setCells blk ((i+(n-(i+1)))*3) z.cells.toList:=by
 obtain⟨i0,hi0,hz1'⟩:=Option.map_eq_some_iff.1 info_co
 obtain⟨news,hnews⟩:∃news,news=(ca.toList.drop ((i+1)*3)).take ((n-(i+1))*3):=⟨_,rfl⟩
 have hlen:news.length=(n-(i+1))*3:=by rw[hnews];simp;omega
 have hget:∀t,t<(n-(i+1))*3->news[t]?=ca[(i+1)*3+t]?:=by
  intro t ht
  rw[hnews,List.getElem?_take,if_pos ht,List.getElem?_drop,Array.getElem?_toList]
 obtain⟨A,hA,hsrc⟩:∃A:Addr,(if cap=i+1 then some (⟨blk,0,none⟩:Addr) else some ⟨blk,(i+1)*3,none⟩)=some A/\Hid (∀t u,news[t]?=some u->w.drew.cell? (A.add t)=some u):=by
  by_cases h:cap=i+1
  ·refine⟨⟨blk,0,none⟩,by simp[h],λt u hu=>?_⟩
   have h0:news.length=0:=by rw[hlen];omega
   rw[List.length_eq_zero_iff.1 h0] at hu
   simp at hu
  ·refine⟨⟨blk,(i+1)*3,none⟩,by simp[h],λt u hu=>?_⟩
   have ht:t<(n-(i+1))*3:=by
    have:=(List.getElem?_eq_some_iff.1 hu).1
    rwa [hlen] at this
   rw[hget t ht] at hu
   rw[Addr.add_lit]
   exact(hc _).trans hu
 have s1:Hid (news.length=(n-(i+1))*3):=hlen
 have s2:Hid (∀u∈news,u.oneCell'=true):=by
  intro u hu
  obtain⟨t,ht⟩:=List.mem_iff_getElem?.1 hu
  have htl:t<(n-(i+1))*3:=by
   have:=(List.getElem?_eq_some_iff.1 ht).1
   rwa [hlen] at this
  rw[hget t htl] at ht
  exact hone _ u (by omega) ht
 have s3:Hid (∀t,t<news.length->(w.drew.cell? ⟨blk,0+i*3+t,none⟩).isSome=true/\w.drew.frozen? ⟨blk,0+i*3+t,none⟩=false):=by
  intro t ht
  rw[hlen] at ht
  have hk:0+i*3+t<ca.size:=by omega
  refine⟨?_,hf _ hk⟩
  show(w.cell? _).isSome=true
  rw[hc,Array.getElem?_eq_getElem hk];rfl
 obtain⟨W1,hW1⟩:∃W1,W1=w.drew.setCells blk (0+i*3) news:=⟨_,rfl⟩
 have hcl:∀ty,(Builtin.clear_ #[22] ty #[.slice (some ⟨blk,(i+(n-(i+1)))*3,none⟩) (n-(i+(n-(i+1)))) (cap-(i+(n-(i+1))))]).run Tryz.prog W1=.ok (.tuple #[]) (W1.setCells blk ((i+(n-(i+1)))*3) z.cells.toList):=λty=>by
  rw[show n-(i+(n-(i+1)))=1 by omega]
  refine run_clear_co W1 ty z hv hz hz1 blk _ _ (λj hj=>?_) (λj hj=>?_)
  ·rw[hW1]
   have hk:(i+(n-(i+1)))*3+j<ca.size:=by omega
   refine isSome_setCells blk _ _ _ _ ?_
   show(w.cell? _).isSome=true
   rw[hc,Array.getElem?_eq_getElem hk];rfl
  ·rw[hW1,World.frozen?_setCells]
   exact hf _ (by omega)
 rw[<- hnews]
 obtain⟨zs,hzs⟩:∃zs,zs=z.cells.toList:=⟨_,rfl⟩
 rw[<- hzs] at hcl ⊢
 clear hzs hz1 hz hv
 have hW:Hid (W1=w.drew.setCells blk (0+i*3) news):=hW1
 have hic:i<=cap:=by omega
 have hjc:i+1<=cap:=by omega
 have hp0:(0:Int)<=(i:Int)+1:=by omega
 have hp1:(i:Int)+1<=(n:Int):=by omega
 have hp2:((i:Int)+1).toNat=i+1:=by omega
 have hne:¬((i:Int)=(i:Int)+1):=by omega
 clear hW1 hc hf hget hnews hlen hone
 go_enter Tryz.func125,Tryz.ntmps125
 go_wp2_with fail
 go_region_law (refine step_append_room rfl (.tmp 22) (.tmp 25) 22 rfl 29 i0 3 under_cos hi0 hz1' blk 0 i cap (by simp[Act.eval,Act.put]) A (n-(i+1)) (cap-(i+1)) news (by simp[Act.eval,Act.put]) s1.out hsrc.out s2.out (by omega) s3.out ?_;rw[<- hW.out])
 go_wp2
 go_ret
 exact⟨by rw[show n-1=i+(n-(i+1)) by omega];rfl,by rw[hW.out]⟩
end Go.Proofs
end
section
namespace Go.Bi
open Go
theorem heap_setCells(b:Nat):∀(vs:List Value)(o:Nat)(w:World)(ca:Array Value)(t:TypeId),w.heap[b]?=some (.cells ca t (0,0))->
  ∃ca',(w.setCells b o vs).heap[b]?=some (.cells ca' t (0,0))/\ca'.size=ca.size/\(∀k,ca'[k]?=if o<=k/\k<o+vs.length/\k<ca.size then vs[k-o]? else ca[k]?)/\
   (∀b',b'≠b->(w.setCells b o vs).heap[b']?=w.heap[b']?)/\(w.setCells b o vs).os=w.os/\(w.setCells b o vs).tape=w.tape/\(w.setCells b o vs).output=w.output/\(w.setCells b o vs).heap.size=w.heap.size
 |[],o,w,ca,t,h=>⟨ca,h,rfl,λk=>by rw[if_neg (by simp;omega)],λ_ _=>rfl,rfl,rfl,rfl,rfl⟩
 |v::vs,o,w,ca,t,h=>by
  have h1:(w.setCell ⟨b,o,none⟩ v).heap[b]?=some (.cells (ca.setIfInBounds o v) t (0,0)):=by
   simp[World.setCell,Array.getElem?_modify,h]
  obtain⟨ca',a1,a2,a3,a4,a5,a6,a7,a8⟩:=heap_setCells b vs (o+1) (w.setCell ⟨b,o,none⟩ v) _ t h1
  refine⟨ca',a1,by rw[a2];simp,λk=>?_,λb' hb=>?_,a5,a6,a7,by rw[World.setCells,a8];simp[World.setCell]⟩
  ·rw[a3 k]
   simp only[Array.size_setIfInBounds,List.length_cons]
   by_cases hk:k=o
   ·subst hk
    rw[if_neg (by omega)]
    by_cases hs:k<ca.size
    ·rw[if_pos (by omega),Nat.sub_self,Array.getElem?_setIfInBounds_self_of_lt hs];rfl
    ·rw[if_neg (by omega),Array.getElem?_eq_none (by simp;omega),Array.getElem?_eq_none (by omega)]
   ·rw[Array.getElem?_setIfInBounds_ne (λe=>hk e.symm)]
    by_cases hc:o+1<=k/\k<o+1+vs.length/\k<ca.size
    ·rw[if_pos hc,if_pos (by omega),show k-o=(k-(o+1))+1 by omega,List.getElem?_cons_succ]
    ·rw[if_neg hc,if_neg (by omega)]
  ·rw[World.setCells,a4 b' hb]
   simp[World.setCell,Array.getElem?_modify,Ne.symm hb]
section
variable {P:Program}{M:Mem}{G:Gh}{os:List AO}{w w':World}
theorem rows_env(he:Env M G os w){id sz:Nat}{es es':List (List D)}(ho:os[id]?=some (.arr es sz 0 false))(hlen:es'.length=es.length)(hsz:∀e∈es',e.length=sz)(hos:w'.os=w.os)(htp:w'.tape=w.tape)(hout:w'.output=w.output)(hs:w'.heap.size=w.heap.size)
  (hoth:∀b,b≠G.blk id->w'.heap[b]?=w.heap[b]?) (hca:∀ca t,w.heap[G.blk id]?=some (.cells ca t (0,0))->∃ca',w'.heap[G.blk id]?=some (.cells ca' t (0,0))/\ca'.size=ca.size/\∀(i j:Nat) e x,es'[i]?=some e->e[j]?=some x->∃u,ca'[i*sz+j]?=some u/\Rd M x u) :
  Env M G (os.set id (.arr es' sz 0 false)) w'/\Since M G os w M G (os.set id (.arr es' sz 0 false)) w':=by
 obtain⟨h1,h2,h3,h4,h5⟩:=he.obj id _ ho
 obtain⟨ca,t,h6,h7,h8,h9,h10,h11⟩:=h5 rfl
 obtain⟨ca',k1,k2,k3⟩:=hca ca t h6
 have hlt:=(List.getElem?_eq_some_iff.1 ho).1
 have hno:∀a v,M a=some v->a.block=G.blk id->False:=λa v ha hb=>by
  obtain⟨es',sz',frz',nl',h12,h13⟩:=he.sep id a v (Live.arr ho) ha hb
  rw[ho] at h12
  cases h12
  omega
 have hk:Keeps G G id (os.set id (.arr es' sz 0 false)) (.arr es sz 0 false):=⟨es',0,false,by simp[hlt],by omega,λ_=>⟨rfl,rfl,rfl⟩⟩
 have hsu:=since_upd he (w':=w') (M':=M) ho rfl hos htp hout hs hoth (λ_ _ h=>h) (λ_ _ h=>.inl h) hk
 refine⟨env_upd he ho rfl hos htp hout hs hoth (λ_ _ h=>h) (λ_ _ h=>.inl h) hk (λ_ _=>rfl) (λa v ha hb=>(hno a v ha hb).elim) (λa v ha hb=>(hno a v ha hb).elim) ?_,hsu⟩
 exact⟨h1,hsz,Nat.zero_le _,λh=>(by cases h),λ_=>⟨ca',t,k1,by rw[k2];exact h7,by omega,h9,k3,λo ho=>by omega⟩⟩
end
end Go.Bi
end
section
namespace Go.Proofs
open Go.Bi
def zRow:List D:=[.str [],.int .i64 0,.bool false]
theorem erase_get{α:Type}(l:List α)(i:Nat)(hi:i<l.length)(r:Nat):(l.eraseIdx i)[r]?=if r<i then l[r]? else l[r+1]?:=by
 rw[List.getElem?_eraseIdx]
theorem C.slices_Delete(es:List (List D))(hm:∀e∈es,e.length=3)(i:Nat)(hi:i<es.length){os:List AO}{id:Nat}(ho:os[id]?=some (.arr es 3 0 false)) :
  CallSpec Tryz.prog N.slices_Delete__api_Column_api_Column [.arr id es.length,.d (eI i),.d (eI ((i:Int)+1))] os (λr os'=>r=.d (.sl (es.eraseIdx i))/\os'=os.set id (.arr (es.eraseIdx i++[zRow]) 3 (es.length-1) false)):=by
 refine⟨⟨_,Tryz.func125,rfl,by decide⟩,λM G w vs hE hl hv=>?_⟩
 obtain⟨v0,v1,v2,rfl⟩:∃v0 v1 v2,vs=#[v0,v1,v2]:=by
  obtain⟨l⟩:=vs
  match l,hl with
  |[x,y,z],_=>exact⟨x,y,z,rfl⟩
 have hv0:=hv 0 _ v0 rfl rfl
 have hv1:Rd M (eI i) v1:=hv 1 _ v1 rfl rfl
 have hv2:Rd M (eI ((i:Int)+1)) v2:=hv 2 _ v2 rfl rfl
 cases hv1
 cases hv2
 obtain⟨h0,es0,sz0,frz0,nl0,h1,h2,h3⟩:=hv0
 rw[ho] at h1
 cases h1
 have hv:=h3 rfl
 subst hv
 unfold Gh.slv
 rw[if_neg (by decide)]
 obtain⟨z,hz1,hz2,hz3⟩:=tz_zero (M:=M) tz_co
 have hzs:z.cells.size=3:=hz2
 have hzone:∀u∈z.cells.toList,u.oneCell'=true:=by
  intro u hu
  obtain⟨j,hj⟩:=List.mem_iff_getElem?.1 hu
  have hjl:j<3:=by have:=(List.getElem?_eq_some_iff.1 hj).1;simpa[hzs] using this
  have hr:=hz3 j ([D.str [],.int .i64 0,.bool false][j]) u (List.getElem?_eq_getElem (by simpa using hjl)) (by simpa using hj)
  exact Rd.oneCell hr
 obtain⟨k1,k2,k3,k4,k5⟩:=hE.obj id _ ho
 obtain⟨ca,t,h6,h7,h8,h9,h10,h11⟩:=k5 rfl
 have hcell:∀k,w.cell? ⟨G.blk id,k,none⟩=ca[k]?:=λk=>by simp[World.cell?,h6]
 have hfr:∀k,k<ca.size->w.frozen? ⟨G.blk id,k,none⟩=false:=λk _=>by simp[World.frozen?,h6]
 have hone:∀k u,k<es.length*3->ca[k]?=some u->u.oneCell'=true:=by
  intro k u hk hu
  have hr:k / 3<es.length:=by omega
  have he:es[k / 3]?=some es[k / 3]:=List.getElem?_eq_getElem hr
  have hlen:=hm _ (List.mem_of_getElem? he)
  have hx:es[k / 3][k % 3]?=some es[k / 3][k % 3]:=List.getElem?_eq_getElem (by omega)
  obtain⟨u',hu',hrd⟩:=h10 _ _ _ _ he hx
  rw[show k / 3*3+k % 3=k by omega,hu] at hu'
  cases hu'
  exact Rd.oneCell hrd
 refine(del_co z hz1 hzs hzone (G.blk id) es.length (G.cap id) i ca w hi h8 (by unfold maxLen at h9;omega) h7 hcell hfr hone).mono ?_
 rintro e w' ⟨rfl,rfl⟩
 obtain⟨news,hnews⟩:∃news,news=(ca.toList.drop ((i+1)*3)).take ((es.length-(i+1))*3):=⟨_,rfl⟩
 have hnl:news.length=(es.length-(i+1))*3:=by rw[hnews];simp;omega
 have hget:∀t,t<(es.length-(i+1))*3->news[t]?=ca[(i+1)*3+t]?:=by
  intro t ht
  rw[hnews,List.getElem?_take,if_pos ht,List.getElem?_drop,Array.getElem?_toList]
 rw[<- hnews]
 have hd:w.drew.heap[G.blk id]?=some (.cells ca t (0,0)):=h6
 obtain⟨ca1,a1,a2,a3,a4,a5,a6,a7,a8⟩:=heap_setCells (G.blk id) news (0+i*3) w.drew ca t hd
 obtain⟨ca2,b1,b2,b3,b4,b5,b6,b7,b8⟩:=heap_setCells (G.blk id) z.cells.toList ((i+(es.length-(i+1)))*3) _ ca1 t a1
 have hel:(es.eraseIdx i).length=es.length-1:=by rw[List.length_eraseIdx,if_pos hi]
 obtain⟨e1,s1⟩:=rows_env (w':=(w.drew.setCells (G.blk id) (0+i*3) news).setCells (G.blk id) ((i+(es.length-(i+1)))*3) z.cells.toList) hE.drew (id:=id) (sz:=3) (es':=es.eraseIdx i++[zRow]) ho (by rw[List.length_append,hel,List.length_singleton];omega) (λe he=>by
   rcases List.mem_append.1 he with he|he
   ·exact hm e (List.mem_of_mem_eraseIdx he)
   ·cases List.mem_singleton.1 he;rfl) (by rw[b5,a5]) (by rw[b6,a6]) (by rw[b7,a7]) (by rw[b8,a8]) (λb hb=>by rw[b4 b hb,a4 b hb]) (λca0 t0 hh=>by
   rw[hd] at hh
   cases hh
   refine⟨ca2,b1,by rw[b2,a2],λr j e x hr hj=>?_⟩
   have hrl:=(List.getElem?_eq_some_iff.1 hr).1
   rw[List.length_append,hel,List.length_singleton] at hrl
   have hjl:j<3:=by
    have h:=(List.getElem?_eq_some_iff.1 hj).1
    rcases List.mem_append.1 (List.mem_of_getElem? hr) with he|he
    ·rwa [hm e (List.mem_of_mem_eraseIdx he)] at h
    ·cases List.mem_singleton.1 he;exact h
   rw[b3,a2]
   have hzl:z.cells.toList.length=3:=by simpa using hzs
   rw[hzl]
   by_cases hlast:r=es.length-1
   ·rw[if_pos (by omega)]
    rw[List.getElem?_append_right (by omega),hel,show r-(es.length-1)=0 by omega] at hr
    cases hr
    rw[show r*3+j-(i+(es.length-(i+1)))*3=j by omega]
    have hju:z.cells[j]?=some z.cells[j]:=Array.getElem?_eq_getElem (by omega)
    exact⟨z.cells[j],by rw[Array.getElem?_toList];exact hju,hz3 j x _ hj hju⟩
   ·rw[if_neg (by omega),a3,hnl]
    rw[List.getElem?_append_left (by omega),erase_get es i hi] at hr
    by_cases hri:r<i
    ·rw[if_pos hri] at hr
     rw[if_neg (by omega)]
     exact h10 r j e x hr hj
    ·rw[if_neg hri] at hr
     rw[if_pos (by omega),hget _ (by omega),show(i+1)*3+(r*3+j-(0+i*3))=(r+1)*3+j by omega]
     exact h10 (r+1) j e x hr hj)
 have ho2:(os.set id (.arr (es.eraseIdx i++[zRow]) 3 0 false))[id]?=some (.arr (es.eraseIdx i++[zRow]) 3 0 false):=set_self ho
 obtain⟨e2,s2,r2⟩:=freeze_pre e1 (id:=id) (m:=es.length-1) ho2 (by rw[List.length_append,hel];omega)
 rw[List.set_set] at e2 s2
 refine⟨_,rfl,_,G,.d (.sl (es.eraseIdx i)),_,e2,((since_drew ..).trans s1).trans s2,?_,rfl,rfl⟩
 have ht:(es.eraseIdx i++[zRow]).take (es.length-1)=es.eraseIdx i:=by rw[<- hel,List.take_left]
 rw[ht] at r2
 exact r2
end Go.Proofs
end
section
namespace Go.Bi
open Go
theorem x_selm{P:Program}{n nb:Nat}{cd:IC}{N:Sl->List AO->Prop}{E0:Nat->Sl->List AO->Prop}{R:Sl->List AO->Prop}{L:Sl}{os:List AO}(ts:List Nat)(vs:List AV)(σ:List Nat)(os2:List AO)(h1:valsOf L ts=vs.map (mA (sg σ)))(hlv:vs.length=ts.length)(hn:σ.Nodup)
  (hσ:σ.take nb=List.range nb) (ho:σ.map (λs=>os[s]?)=os2.map (λo=>some (mO (sg σ) o))) (hid:(os2.take nb).map (mO (sg σ))=os2.take nb)
  (hb:vs.all (λv=>v.bndB os2.length)=true) (hb3:os2.all (λo=>o.bndB os2.length)=true) (k:LoopX P n nb cd N E0 R (zipS ts vs) os2):LoopX P n nb cd N E0 R L os:=by
 have hw:=weak_selm (n:=n) (nb:=nb) (ks:=[]) (ws:=[]) σ h1 rfl hlv hn hσ ho hid hb rfl hb3
 rw[show zipS ts vs++zipS [] []=zipS ts vs by show zipS ts vs++[]=_;rw[List.append_nil]] at hw
 refine⟨λcode hc c M G w a hR=>?_⟩
 obtain⟨M',G',hR'⟩:=hw c M G w a hR
 exact k.h code hc c M' G' w a hR'
end Go.Bi
namespace Go.Proofs
open Go.Bi
def isN:D->Bool
 |.nil=>true
 |_=>false
theorem C.cloneI(l:List (List D))(hl:l.length<=1048577)(hm:∀e∈l,e.length=1)(d:D)(hd:SlD d l):CallSpec Tryz.prog N.slices_Clone__int_int [.d d] [] (λr os=>r=.arr 0 l.length/\os=[.arr l 1 0 (isN d)]):=by
 rcases hd with ⟨rfl,rfl⟩|rfl
 ·refine CallSpec.own_nil 1 (by decide) ?_
  refine F.slices_Clone__int_int.go mixed rfl ?_
  repeat' first|refine st ?_|((with_reducible apply go_i);conv=>whnf)|(with_reducible first|apply k_d|apply k_b)<;>intro _
 ·refine F.slices_Clone__int_int.goO mixed rfl ?_
  have h0:([]:List (List D)).length=0:=rfl
  have h00:(([]:List (List D))++l).length=l.length:=rfl
  have hb:(([]:List (List D)).length+l.length)*8<=140737488355328/\([]:List (List D)).length+l.length<=9223372036854775807:=by rw[h0];omega
  repeat' first|refine st ?_|((with_reducible apply go_i);conv=>whnf)|(with_reducible first|apply k_d|apply k_b)<;>intro _
  all_goals (refine⟨rfl,?_⟩;cases l<;>rfl)
theorem C.cloneC(l:List (List D))(hl:l.length<=1048577)(hm:∀e∈l,e.length=3)(d:D)(hd:SlD d l):CallSpec Tryz.prog N.slices_Clone__api_Column_api_Column [.d d] [] (λr os=>r=.arr 0 l.length/\os=[.arr l 3 0 (isN d)]):=by
 rcases hd with ⟨rfl,rfl⟩|rfl
 ·refine CallSpec.own_nil 3 (by decide) ?_
  refine F.slices_Clone__api_Column_api_Column.go mixed rfl ?_
  repeat' first|refine st ?_|((with_reducible apply go_i);conv=>whnf)|(with_reducible first|apply k_d|apply k_b)<;>intro _
 ·refine F.slices_Clone__api_Column_api_Column.goO mixed rfl ?_
  have h0:([]:List (List D)).length=0:=rfl
  have h00:(([]:List (List D))++l).length=l.length:=rfl
  have hb:(([]:List (List D)).length+l.length)*32<=140737488355328/\([]:List (List D)).length+l.length<=9223372036854775807:=by rw[h0];omega
  repeat' first|refine st ?_|((with_reducible apply go_i);conv=>whnf)|(with_reducible first|apply k_d|apply k_b)<;>intro _
  all_goals (refine⟨rfl,?_⟩;cases l<;>rfl)
structure Fi where
 d:D
 es:List (List D)
 nl:Bool
 tb:List UInt8
def Fi.ok(f:Fi):Prop:=CallSpec Tryz.prog N.slices_Clone__int_int [.d f.d] [] (λr os=>r=.arr 0 f.es.length/\os=[.arr f.es 1 0 f.nl])
def eFi(l:List Fi):List (List D):=l.map λf=>[f.d,.str f.tb]
def rowsF:Nat->List Fi->List (List AV)
 |_,[]=>[]
 |k,f::fs=>[.arr k f.es.length,.d (.str f.tb)]::rowsF (k+1) fs
def innF(fs:List Fi):List AO:=fs.map λf=>.arr f.es 1 0 f.nl
def oB(nm:List UInt8)(lc lk lf lx:Nat):List AV:=[.d (.str nm),.arr 2 lc,.arr 3 lk,.rs 5 lf,.arr 6 lx]
def clB(tab out:List AV)(nm:List UInt8)(C K:List (List D))(cn kn:Bool)(fs:List Fi)(A:List (List D))(an:Bool):List AO:=
 [.cells tab,.cells out,.arr C 3 0 cn,.arr K 1 0 kn,.cells (oB nm C.length K.length fs.length A.length),.rarr (rowsF 7 fs) 2 fs.isEmpty,.arr A 7 0 an]++innF fs
end Go.Proofs
end
section
namespace Go.Proofs
open Go.Bi
theorem C.clone3(nm:List UInt8)(dc dk df dx:D)(Cs Ks:List (List D))(cn kn:Bool)(hC:CallSpec Tryz.prog N.slices_Clone__api_Column_api_Column [.d dc] [] (λr os=>r=.arr 0 Cs.length/\os=[.arr Cs 3 0 cn]))(hK:CallSpec Tryz.prog N.slices_Clone__int_int [.d dk] [] (λr os=>r=.arr 0 Ks.length/\os=[.arr Ks 1 0 kn]))
  (f0 f1 f2:Fi) (hf0:f0.ok) (hf1:f1.ok) (hf2:f2.ok) (hd:df=.sl (eFi [f0,f1,f2])) (l:List Ex) (hb:∀x∈l,x.bk<=1048576) (hl:l.length<=1048576) (hdx:SlD dx (xL l)) :
  CallSpec Tryz.prog N.schema_Clone [eT nm dc dk df dx] [] (λr os=>r=.agg (oB nm Cs.length Ks.length 3 (xL (l.map (shf 0))).length)/\os=clB [.d (.str nm),.d dc,.d dk,.d df,.d dx] (oB nm Cs.length Ks.length 3 (xL (l.map (shf 0))).length) nm Cs Ks cn kn [f0,f1,f2] (xL (l.map (shf 0))) (xL (l.map (shf 0))).isEmpty):=by
 have h1:=xL_len l
 have hm:=xL_mem l
 have hg0:=xL_get'' (args:=l)
 obtain⟨R,hR⟩:∃R,R=xL (l.map (shf 0)):=⟨_,rfl⟩
 rw[<- hR]
 obtain⟨es,hes⟩:∃es,es=xL l:=⟨_,rfl⟩
 rw[<- hes] at h1 hm hdx hg0
 subst hd
 obtain⟨fd0,fe0,fn0,ft0⟩:=f0
 have hf0:CallSpec Tryz.prog N.slices_Clone__int_int [.d fd0] [] (λr os=>r=.arr 0 fe0.length/\os=[.arr fe0 1 0 fn0]):=hf0
 obtain⟨fd1,fe1,fn1,ft1⟩:=f1
 have hf1:CallSpec Tryz.prog N.slices_Clone__int_int [.d fd1] [] (λr os=>r=.arr 0 fe1.length/\os=[.arr fe1 1 0 fn1]):=hf1
 obtain⟨fd2,fe2,fn2,ft2⟩:=f2
 have hf2:CallSpec Tryz.prog N.slices_Clone__int_int [.d fd2] [] (λr os=>r=.arr 0 fe2.length/\os=[.arr fe2 1 0 fn2]):=hf2
 rw[show eFi [⟨fd0,fe0,fn0,ft0⟩,⟨fd1,fe1,fn1,ft1⟩,⟨fd2,fe2,fn2,ft2⟩]=[[fd0,.str ft0],[fd1,.str ft1],[fd2,.str ft2]] from rfl]
 refine F.schema_Clone.goO mixed rfl ?_
 repeat' first|refine st ?_|((with_reducible apply k_ow);(·first|exact hC|exact hK|exact hf0|exact hf1|exact hf2))|(with_reducible first|apply k_d|apply k_b)<;>intro _
 refine x_nilrc 4 3 2 rfl rfl rfl ?_
 refine x_nilcc 4 4 7 rfl rfl rfl ?_
 refine x_rounds 4 ?_
 refine x_round mixed ?_
 repeat' first|refine st ?_|((with_reducible apply k_ow);(·first|exact hC|exact hK|exact hf0|exact hf1|exact hf2))|(with_reducible first|apply k_d|apply k_b)<;>intro _
 refine x_round mixed ?_
 repeat' first|refine st ?_|((with_reducible apply k_ow);(·first|exact hC|exact hK|exact hf0|exact hf1|exact hf2))|(with_reducible first|apply k_d|apply k_b)<;>intro _
 refine x_round mixed ?_
 repeat' first|refine st ?_|((with_reducible apply k_ow);(·first|exact hC|exact hK|exact hf0|exact hf1|exact hf2))|(with_reducible first|apply k_d|apply k_b)<;>intro _
 refine x_round mixed ?_
 repeat' first|refine st ?_|((with_reducible apply k_ow);(·first|exact hC|exact hK|exact hf0|exact hf1|exact hf2))|(with_reducible first|apply k_d|apply k_b)<;>intro _
 refine x_selm [2,3,37,38,39] [.ptr 1 0,.ptr 4 0,.d dx,.d (.int .i64 es.length),.d (eI 0)] [0,1,2,3,4,5,6,8,11,14] (clB [.d (.str nm),.d dc,.d dk,.d (.sl [[fd0,.str ft0],[fd1,.str ft1],[fd2,.str ft2]]),.d dx] [.d (.str []),.d .nil,.d .nil,.d .nil,.d .nil] nm Cs Ks cn kn [⟨fd0,fe0,fn0,ft0⟩,⟨fd1,fe1,fn1,ft1⟩,⟨fd2,fe2,fn2,ft2⟩] [] true) rfl rfl (by decide) rfl rfl rfl rfl rfl ?_
 refine x_loop2 mixed Lt.schema_Clone_l1 Lk.schema_Clone_l1 (λ(i:Nat) (w:List (List D)×Bool)=>[.d (eI i)]) (λi w=>clB [.d (.str nm),.d dc,.d dk,.d (.sl [[fd0,.str ft0],[fd1,.str ft1],[fd2,.str ft2]]),.d dx] [.d (.str []),.d .nil,.d .nil,.d .nil,.d .nil] nm Cs Ks cn kn [⟨fd0,fe0,fn0,ft0⟩,⟨fd1,fe1,fn1,ft1⟩,⟨fd2,fe2,fn2,ft2⟩] w.1 w.2) (λi w=>i<=l.length/\w.1=Mt (shf 0) l i/\w.2=w.1.isEmpty) (λi w=>l.length-i) 0 ([],true) rfl rfl rfl rfl (λ_ _ _=>⟨rfl,rfl⟩) rfl ⟨by omega,rfl,rfl⟩ ?_
 repeat' first|refine st ?_|(with_reducible first|apply k_d|apply k_b)<;>intro _
 intro i w ⟨h4,h5,h6⟩
 obtain⟨A,b⟩:=w
 dsimp only at h5 h6 ⊢
 have hAl:A.length=i:=by rw[h5];exact Mt_len _ l i (by omega)
 have hAm:∀e∈A,e.length=7:=by rw[h5];exact Mt_mem _ _ _
 cases hx:l[i]? with
 |some x=>
  have hlt:=(List.getElem?_eq_some_iff.1 hx).1
  have hs:=Mt_succ (φ:=shf 0) hx
  have hS:=C.expr_Shift x (hb x (List.mem_of_getElem? hx)) 0
  rw[<- h5] at hs
  obtain⟨z,hz⟩:∃z,z=shf 0 x:=⟨_,rfl⟩
  rw[<- hz] at hs hS
  obtain⟨o1,n1,v1,m1,l1,a1⟩:=x
  obtain⟨o2,n2,v2,m2,l2,a2⟩:=z
  have hg:=hg0 _ _ _ _ _ _ _ hx
  rw[Ex.ds_mk] at hs
  rw[Ex.av_mk,Ex.av_mk] at hS
  repeat' first|refine st ?_|((with_reducible first|apply k_pn|apply k_pc);(·exact hS))|(with_reducible first|apply k_d|apply k_b)<;>intro _
  exact⟨i+1,(A++[xds o2 n2 v2 m2 (ng l2 (xL a2))],false),rfl,rfl,rfl,by omega,by omega,hs,by simp⟩
 |none=>
  have hge:=List.getElem?_eq_none_iff.1 hx
  rw[Mt_end hge,<- hR] at h5
  subst h5
  subst h6
  repeat' first|refine st ?_|(with_reducible first|apply k_d|apply k_b)<;>intro _
  all_goals exact⟨rfl,rfl⟩
theorem C.clone4(nm:List UInt8)(dc dk df dx:D)(Cs Ks:List (List D))(cn kn:Bool)(hC:CallSpec Tryz.prog N.slices_Clone__api_Column_api_Column [.d dc] [] (λr os=>r=.arr 0 Cs.length/\os=[.arr Cs 3 0 cn]))(hK:CallSpec Tryz.prog N.slices_Clone__int_int [.d dk] [] (λr os=>r=.arr 0 Ks.length/\os=[.arr Ks 1 0 kn]))
  (f0 f1 f2 f3:Fi) (hf0:f0.ok) (hf1:f1.ok) (hf2:f2.ok) (hf3:f3.ok) (hd:df=.sl (eFi [f0,f1,f2,f3])) (l:List Ex) (hb:∀x∈l,x.bk<=1048576) (hl:l.length<=1048576) (hdx:SlD dx (xL l)) :
  CallSpec Tryz.prog N.schema_Clone [eT nm dc dk df dx] [] (λr os=>r=.agg (oB nm Cs.length Ks.length 4 (xL (l.map (shf 0))).length)/\os=clB [.d (.str nm),.d dc,.d dk,.d df,.d dx] (oB nm Cs.length Ks.length 4 (xL (l.map (shf 0))).length) nm Cs Ks cn kn [f0,f1,f2,f3] (xL (l.map (shf 0))) (xL (l.map (shf 0))).isEmpty):=by
 have h1:=xL_len l
 have hm:=xL_mem l
 have hg0:=xL_get'' (args:=l)
 obtain⟨R,hR⟩:∃R,R=xL (l.map (shf 0)):=⟨_,rfl⟩
 rw[<- hR]
 obtain⟨es,hes⟩:∃es,es=xL l:=⟨_,rfl⟩
 rw[<- hes] at h1 hm hdx hg0
 subst hd
 obtain⟨fd0,fe0,fn0,ft0⟩:=f0
 have hf0:CallSpec Tryz.prog N.slices_Clone__int_int [.d fd0] [] (λr os=>r=.arr 0 fe0.length/\os=[.arr fe0 1 0 fn0]):=hf0
 obtain⟨fd1,fe1,fn1,ft1⟩:=f1
 have hf1:CallSpec Tryz.prog N.slices_Clone__int_int [.d fd1] [] (λr os=>r=.arr 0 fe1.length/\os=[.arr fe1 1 0 fn1]):=hf1
 obtain⟨fd2,fe2,fn2,ft2⟩:=f2
 have hf2:CallSpec Tryz.prog N.slices_Clone__int_int [.d fd2] [] (λr os=>r=.arr 0 fe2.length/\os=[.arr fe2 1 0 fn2]):=hf2
 obtain⟨fd3,fe3,fn3,ft3⟩:=f3
 have hf3:CallSpec Tryz.prog N.slices_Clone__int_int [.d fd3] [] (λr os=>r=.arr 0 fe3.length/\os=[.arr fe3 1 0 fn3]):=hf3
 rw[show eFi [⟨fd0,fe0,fn0,ft0⟩,⟨fd1,fe1,fn1,ft1⟩,⟨fd2,fe2,fn2,ft2⟩,⟨fd3,fe3,fn3,ft3⟩]=[[fd0,.str ft0],[fd1,.str ft1],[fd2,.str ft2],[fd3,.str ft3]] from rfl]
 refine F.schema_Clone.goO mixed rfl ?_
 repeat' first|refine st ?_|((with_reducible apply k_ow);(·first|exact hC|exact hK|exact hf0|exact hf1|exact hf2|exact hf3))|(with_reducible first|apply k_d|apply k_b)<;>intro _
 refine x_nilrc 4 3 2 rfl rfl rfl ?_
 refine x_nilcc 4 4 7 rfl rfl rfl ?_
 refine x_rounds 5 ?_
 refine x_round mixed ?_
 repeat' first|refine st ?_|((with_reducible apply k_ow);(·first|exact hC|exact hK|exact hf0|exact hf1|exact hf2|exact hf3))|(with_reducible first|apply k_d|apply k_b)<;>intro _
 refine x_round mixed ?_
 repeat' first|refine st ?_|((with_reducible apply k_ow);(·first|exact hC|exact hK|exact hf0|exact hf1|exact hf2|exact hf3))|(with_reducible first|apply k_d|apply k_b)<;>intro _
 refine x_round mixed ?_
 repeat' first|refine st ?_|((with_reducible apply k_ow);(·first|exact hC|exact hK|exact hf0|exact hf1|exact hf2|exact hf3))|(with_reducible first|apply k_d|apply k_b)<;>intro _
 refine x_round mixed ?_
 repeat' first|refine st ?_|((with_reducible apply k_ow);(·first|exact hC|exact hK|exact hf0|exact hf1|exact hf2|exact hf3))|(with_reducible first|apply k_d|apply k_b)<;>intro _
 refine x_round mixed ?_
 repeat' first|refine st ?_|((with_reducible apply k_ow);(·first|exact hC|exact hK|exact hf0|exact hf1|exact hf2|exact hf3))|(with_reducible first|apply k_d|apply k_b)<;>intro _
 refine x_selm [2,3,37,38,39] [.ptr 1 0,.ptr 4 0,.d dx,.d (.int .i64 es.length),.d (eI 0)] [0,1,2,3,4,5,6,8,11,14,17] (clB [.d (.str nm),.d dc,.d dk,.d (.sl [[fd0,.str ft0],[fd1,.str ft1],[fd2,.str ft2],[fd3,.str ft3]]),.d dx] [.d (.str []),.d .nil,.d .nil,.d .nil,.d .nil] nm Cs Ks cn kn [⟨fd0,fe0,fn0,ft0⟩,⟨fd1,fe1,fn1,ft1⟩,⟨fd2,fe2,fn2,ft2⟩,⟨fd3,fe3,fn3,ft3⟩] [] true) rfl rfl (by decide) rfl rfl rfl rfl rfl ?_
 refine x_loop2 mixed Lt.schema_Clone_l1 Lk.schema_Clone_l1 (λ(i:Nat) (w:List (List D)×Bool)=>[.d (eI i)]) (λi w=>clB [.d (.str nm),.d dc,.d dk,.d (.sl [[fd0,.str ft0],[fd1,.str ft1],[fd2,.str ft2],[fd3,.str ft3]]),.d dx] [.d (.str []),.d .nil,.d .nil,.d .nil,.d .nil] nm Cs Ks cn kn [⟨fd0,fe0,fn0,ft0⟩,⟨fd1,fe1,fn1,ft1⟩,⟨fd2,fe2,fn2,ft2⟩,⟨fd3,fe3,fn3,ft3⟩] w.1 w.2) (λi w=>i<=l.length/\w.1=Mt (shf 0) l i/\w.2=w.1.isEmpty) (λi w=>l.length-i) 0 ([],true) rfl rfl rfl rfl (λ_ _ _=>⟨rfl,rfl⟩) rfl ⟨by omega,rfl,rfl⟩ ?_
 repeat' first|refine st ?_|(with_reducible first|apply k_d|apply k_b)<;>intro _
 intro i w ⟨h4,h5,h6⟩
 obtain⟨A,b⟩:=w
 dsimp only at h5 h6 ⊢
 have hAl:A.length=i:=by rw[h5];exact Mt_len _ l i (by omega)
 have hAm:∀e∈A,e.length=7:=by rw[h5];exact Mt_mem _ _ _
 cases hx:l[i]? with
 |some x=>
  have hlt:=(List.getElem?_eq_some_iff.1 hx).1
  have hs:=Mt_succ (φ:=shf 0) hx
  have hS:=C.expr_Shift x (hb x (List.mem_of_getElem? hx)) 0
  rw[<- h5] at hs
  obtain⟨z,hz⟩:∃z,z=shf 0 x:=⟨_,rfl⟩
  rw[<- hz] at hs hS
  obtain⟨o1,n1,v1,m1,l1,a1⟩:=x
  obtain⟨o2,n2,v2,m2,l2,a2⟩:=z
  have hg:=hg0 _ _ _ _ _ _ _ hx
  rw[Ex.ds_mk] at hs
  rw[Ex.av_mk,Ex.av_mk] at hS
  repeat' first|refine st ?_|((with_reducible first|apply k_pn|apply k_pc);(·exact hS))|(with_reducible first|apply k_d|apply k_b)<;>intro _
  exact⟨i+1,(A++[xds o2 n2 v2 m2 (ng l2 (xL a2))],false),rfl,rfl,rfl,by omega,by omega,hs,by simp⟩
 |none=>
  have hge:=List.getElem?_eq_none_iff.1 hx
  rw[Mt_end hge,<- hR] at h5
  subst h5
  subst h6
  repeat' first|refine st ?_|(with_reducible first|apply k_d|apply k_b)<;>intro _
  all_goals exact⟨rfl,rfl⟩
end Go.Proofs
end
section
namespace Go.Proofs
open Go.Bi
abbrev T.int:TypeId:=3
abbrev T.bool:TypeId:=4
abbrev T.str:TypeId:=9
abbrev T.val:TypeId:=31
abbrev T.ints:TypeId:=23
abbrev T.vals:TypeId:=34
theorem cells_int:Tryz.prog.cellsOf T.int=1:=by kernel_rfl
theorem cells_str:Tryz.prog.cellsOf T.str=1:=by kernel_rfl
theorem cells_val:Tryz.prog.cellsOf T.val=3:=by kernel_rfl
theorem cells_bool:Tryz.prog.cellsOf T.bool=1:=by kernel_rfl
theorem wt_bool{ds:List D}(h:WT Tryz.prog T.bool ds):∃b,ds=[.bool b]:=h.bool' Tryz.underlying4
theorem wt_int{ds:List D}(h:WT Tryz.prog T.int ds):∃n,ds=[eI n]:=by
 obtain⟨a,ha,_,_⟩:=h.int' Tryz.underlying3
 exact⟨a,ha⟩
theorem wt_str{ds:List D}(h:WT Tryz.prog T.str ds):∃s,ds=[.str s]:=by
 obtain⟨a,ha,_⟩:=h.str' Tryz.underlying9
 exact⟨a,ha⟩
theorem wt_val{ds:List D}(h:WT Tryz.prog T.val ds):∃v:Vl,ds=v.ds:=by
 obtain⟨hl,hf⟩:=h.st' Tryz.underlying31
 rw[cells_val] at hl
 match ds,hl with
 |[x,y,z],_=>
  have h0:=hf _ (List.mem_cons_self ..)
  have h1:=hf _ (List.mem_cons_of_mem _ (List.mem_cons_self ..))
  have h2:=hf _ (List.mem_cons_of_mem _ (List.mem_cons_of_mem _ (List.mem_cons_self ..)))
  dsimp only at h0 h1 h2
  rw[cells_int] at h0 h1
  rw[cells_str] at h2
  obtain⟨a,ha⟩:=wt_int h0
  obtain⟨b,hb⟩:=wt_int h1
  obtain⟨s,hs⟩:=wt_str h2
  simp at ha hb hs
  exact⟨⟨a,b,s⟩,by rw[ha,hb,hs]⟩
theorem wt_ints{ds:List D}(h:WT Tryz.prog T.ints ds):∃d ks,ds=[d]/\SlD d (eIs ks):=by
 obtain⟨d,es,h1,h2,h4,h3⟩:=h.sl' Tryz.underlying23
 have:∃ks,es=eIs ks:=by
  clear h1 h2 h4
  induction es with
  |nil=>exact⟨[],rfl⟩
  |cons x es ih=>
   obtain⟨n,hn⟩:=wt_int (h3 x (by simp))
   obtain⟨ks,hk⟩:=ih λy hy=>h3 y (by simp[hy])
   exact⟨n::ks,by rw[hn,hk];rfl⟩
 obtain⟨ks,rfl⟩:=this
 exact⟨d,ks,h1,h2⟩
theorem wt_vals{ds:List D}(h:WT Tryz.prog T.vals ds):∃d row,ds=[d]/\SlD d (eVs row):=by
 obtain⟨d,es,h1,h2,h4,h3⟩:=h.sl' Tryz.underlying34
 have:∃row,es=eVs row:=by
  clear h1 h2 h4
  induction es with
  |nil=>exact⟨[],rfl⟩
  |cons x es ih=>
   obtain⟨n,hn⟩:=wt_val (h3 x (by simp))
   obtain⟨ks,hk⟩:=ih λy hy=>h3 y (by simp[hy])
   exact⟨n::ks,by rw[hn,hk];rfl⟩
 obtain⟨ks,rfl⟩:=this
 exact⟨d,ks,h1,h2⟩
theorem av_int(d:D):avOf Tryz.prog T.int [d]=.d d:=by unfold avOf;rw[Tryz.underlying3]
theorem sld_bulk{d:D}{es:List (List D)}(h:SlD d es):bulkLL es<=bulkL [d]:=by
 rcases h with ⟨rfl,rfl⟩|rfl
 ·simp[bulkLL]
 ·simp only[bulkL,bulkD];omega
theorem ints_bulk{d:D}{ks:List Int}(h:SlD d (eIs ks)):ks.length<=bulkL [d]:=by
 have h1:=sld_bulk h
 have h2:(eIs ks).length<=bulkLL (eIs ks):=bulkLL_len λx hx=>by
  obtain⟨k,_,rfl⟩:=List.mem_map.1 hx
  simp[bulkL,bulkD]
 rw[eIs_len] at h2
 omega
theorem vals_bulk{d:D}{row:List Vl}(h:SlD d (eVs row)):row.length<=bulkL [d]/\∀v∈row,v.s.length<=bulkL [d]:=by
 have h1:=sld_bulk h
 have h2:(eVs row).length<=bulkLL (eVs row):=bulkLL_len λx hx=>by
  obtain⟨k,_,rfl⟩:=List.mem_map.1 hx
  simp only[Vl.ds,bulkL,bulkD];omega
 rw[eVs_len] at h2
 refine⟨by omega,λv hv=>?_⟩
 have h3:bulkL v.ds<=bulkLL (eVs row):=bulkLL_mem (List.mem_map.2 ⟨v,hv,rfl⟩)
 have h4:v.s.length<=bulkL v.ds:=by simp only[Vl.ds,bulkL,bulkD];omega
 omega
theorem bulkR(H:Type):Bulk (H:=H) Go.Proofs.YtlkkaepbnnakpaaGreatDoor.Rows.uptoBulk Go.Proofs.YtlkkaepbnnakpaaGreatDoor.Rows.uptoBulkAll where
 lit l:=by unfold Go.Proofs.YtlkkaepbnnakpaaGreatDoor.Rows.uptoBulk;split<;>simp_all
 str b:=by simp[Go.Proofs.YtlkkaepbnnakpaaGreatDoor.Rows.uptoBulk]
 nil:=by simp[Go.Proofs.YtlkkaepbnnakpaaGreatDoor.Rows.uptoBulk]
 sl es sp:=by simp[Go.Proofs.YtlkkaepbnnakpaaGreatDoor.Rows.uptoBulk]
 agg ps:=by simp[Go.Proofs.YtlkkaepbnnakpaaGreatDoor.Rows.uptoBulk]
 cons x l:=by simp[Go.Proofs.YtlkkaepbnnakpaaGreatDoor.Rows.uptoBulkAll]
end Go.Proofs
end
section
namespace Go.Proofs
open Go.Bi
abbrev T.exs:TypeId:=25
abbrev T.ex:TypeId:=105
theorem cells_exs:Tryz.prog.cellsOf T.exs=1:=by kernel_rfl
theorem cells_ex:Tryz.prog.cellsOf T.ex=7:=by kernel_rfl
end Go.Proofs
end
section
namespace Go.Proofs
open Go.Bi
inductive Ex.Rg:Ex->Prop
 |mk {op n:Int} {v:Vl} {nm:List UInt8} {nl:Bool} {args:List Ex} (h1:IntKind.i64.min<=n) (h2:n<=IntKind.i64.max) (h:∀a∈args,Ex.Rg a):Ex.Rg (.mk op n v nm nl args)
theorem wt_exr'{t:TypeId}{ds:List D}(h:WT Tryz.prog t ds):(t=T.ex->∃e:Ex,ds=e.ds/\e.Rg)/\(t=T.exs->∃nl args,ds=[ng nl (xL args)]/\∀a∈args,Ex.Rg a):=by
 induction h with
 |int h=>exact⟨λe=>(by subst e;rw[Tryz.underlying105] at h;cases h),λe=>(by subst e;rw[Tryz.underlying25] at h;cases h)⟩
 |bool h=>exact⟨λe=>(by subst e;rw[Tryz.underlying105] at h;cases h),λe=>(by subst e;rw[Tryz.underlying25] at h;cases h)⟩
 |str h=>exact⟨λe=>(by subst e;rw[Tryz.underlying105] at h;cases h),λe=>(by subst e;rw[Tryz.underlying25] at h;cases h)⟩
 |nil h=>exact⟨λe=>(by subst e;rw[Tryz.underlying105] at h;cases h),λe=>⟨true,[],rfl,by simp⟩⟩
 |@sl t e es h hl hs he ih=>
  refine⟨λe=>(by subst e;rw[Tryz.underlying105] at h;cases h),λe'=>?_⟩
  subst e'
  rw[Tryz.underlying25] at h
  cases h
  have hq:∃l,es=xL l/\∀a∈l,Ex.Rg a:=by
   clear he hs hl
   induction es with
   |nil=>exact⟨[],rfl,by simp⟩
   |cons x es ihh=>
    obtain⟨n,hn,hr⟩:=(ih x (by simp)).1 rfl
    obtain⟨ks,hk,hrs⟩:=ihh λy hy=>ih y (by simp[hy])
    refine⟨n::ks,by rw[hn,hk];rfl,λa ha=>?_⟩
    rcases List.mem_cons.1 ha with rfl|ha
    ·exact hr
    ·exact hrs a ha
  obtain⟨l,rfl,hlr⟩:=hq
  exact⟨false,l,rfl,hlr⟩
 |@st t fs ds h hl hf ih=>
  refine⟨λe=>?_,λe=>(by subst e;rw[Tryz.underlying25] at h;cases h)⟩
  subst e
  rw[Tryz.underlying105] at h
  cases h
  rw[cells_ex] at hl
  match ds,hl with
  |[d0,d1,d2,d3,d4,d5,d6],_=>
   have h0:=hf _ (List.mem_cons_self ..)
   have h1:=hf _ (List.mem_cons_of_mem _ (List.mem_cons_self ..))
   have h2:=hf _ (List.mem_cons_of_mem _ (List.mem_cons_of_mem _ (List.mem_cons_self ..)))
   have h3:=hf _ (List.mem_cons_of_mem _ (List.mem_cons_of_mem _ (List.mem_cons_of_mem _ (List.mem_cons_self ..))))
   have h4:=(ih _ (List.mem_cons_of_mem _ (List.mem_cons_of_mem _ (List.mem_cons_of_mem _ (List.mem_cons_of_mem _ (List.mem_cons_self ..)))))).2 rfl
   dsimp only at h0 h1 h2 h3 h4
   rw[cells_int] at h0 h1
   rw[cells_val] at h2
   rw[cells_str] at h3
   rw[cells_exs] at h4
   obtain⟨a,ha⟩:=wt_int h0
   obtain⟨b,hb,hb1,hb2⟩:=h1.int' Tryz.underlying3
   obtain⟨v,hv⟩:=wt_val h2
   obtain⟨s,hs⟩:=wt_str h3
   obtain⟨nl,args,hx,hr⟩:=h4
   simp at ha hb hs hx
   refine⟨.mk a b v s nl args,?_,.mk hb1 hb2 hr⟩
   rw[Ex.ds_mk,ha,hb,hs,hx]
   have hv:[d2,d3,d4]=[eI v.k,eI v.n,.str v.s]:=hv
   simp only[List.cons.injEq,and_true] at hv
   rw[hv.1,hv.2.1,hv.2.2]
theorem wt_exsr{ds:List D}(h:WT Tryz.prog T.exs ds):∃nl args,ds=[ng nl (xL args)]/\∀a∈args,Ex.Rg a:=(wt_exr' h).2 rfl
theorem bulk_ng(nl:Bool)(l:List (List D)):bulkD (ng nl l)=bulkLL l+1:=by
 unfold ng
 split
 ·rename_i h
  simp only[Bool.and_eq_true,List.isEmpty_iff] at h
  rw[h.2];rfl
 ·rfl
theorem bulk_map(f:Ex->Ex)(l:List Ex)(h:∀a∈l,(f a).bk<=a.bk):bulkLL (xL (l.map f))<=bulkLL (xL l):=by
 induction l with
 |nil=>exact Nat.le_refl _
 |cons a l ih=>
  have h1:=h a (by simp)
  have h2:=ih λx hx=>h x (by simp[hx])
  unfold Ex.bk at h1
  simp only[List.map_cons,xL,bulkLL] at h2 ⊢
  omega
end Go.Proofs
end
section
namespace Go.Proofs
open Go.Bi
theorem C.expr_mappedF(g:FuncId)(φ:Ex->Ex)(hg:∀x:Ex,Pure Tryz.prog g [x.av] (φ x).av):∀e:Ex,e.bk<=1048576->Pure Tryz.prog N.expr_mapped [e.av,.d (.fn g)] (mapX φ e).av:=by
 refine Ex.ind λop n v nm nl args ih hb=>?_
 obtain⟨b1,b2,b3,b4⟩:=Ex.bk_bounds hb
 obtain⟨Z,hZ⟩:∃Z,Z=(mapX φ (.mk op n v nm nl args)).av:=⟨_,rfl⟩
 rw[<- hZ]
 rw[mapX_mk] at hZ
 rw[Ex.av_mk]
 refine F.expr_mapped.go mixed rfl ?_
 have h1:=xL_len args
 have hm:=xL_mem args
 obtain⟨da,hda⟩:∃d,d=ng nl (xL args):=⟨_,rfl⟩
 have hsd:SlD da (xL args):=by rw[hda];exact sld_ng
 rw[<- hda]
 have r0:v.k=v.k:=rfl
 have r1:v.s=v.s:=rfl
 have r2:nm=nm:=rfl
 repeat' first|refine st ?_|(with_reducible first|apply k_d|apply k_b)<;>intro _
 refine x_nil 5 7 rfl rfl ?_
 repeat' first|refine st ?_|(with_reducible first|apply k_d|apply k_b)<;>intro _
 refine x_loop2 mixed Lt.expr_mapped_l0 Lk.expr_mapped_l0 (λ(i:Nat) (w:List (List D)×Bool)=>[.arr 2 w.1.length,.d (eI i)]) (λi w=>[.cells [.d (eI op),.d (eI n),.d (eI v.k),.d (eI v.n),.d (.str v.s),.d (.str nm),.d da],.cells [.d (eI 0),.d (eI 0),.d (eI 0),.d (eI 0),.d (.str []),.d (.str []),.d .nil],.arr w.1 7 0 w.2]) (λi w=>i<=args.length/\w.1=Mt (mapX φ) args i/\w.2=w.1.isEmpty) (λi _=>args.length-i) 0 ([],true) rfl rfl rfl rfl (λ_ _ _=>⟨rfl,rfl⟩) rfl ⟨by omega,rfl,rfl⟩ ?_
 repeat' first|refine st ?_|(with_reducible first|apply k_d|apply k_b)<;>intro _
 intro i w ⟨h4,h5,h6⟩
 obtain⟨A,b⟩:=w
 dsimp only at h5 h6 ⊢
 have hAl:A.length=i:=by rw[h5];exact Mt_len _ args i (by omega)
 have hAm:∀e∈A,e.length=7:=by rw[h5];exact Mt_mem _ _ _
 cases hx:args[i]? with
 |some x=>
  have hlt:=(List.getElem?_eq_some_iff.1 hx).1
  have hs:=Mt_succ (φ:=mapX φ) hx
  have hg:=xL_get hx
  have hi:=ih x (List.mem_of_getElem? hx) (b4 x (List.mem_of_getElem? hx))
  rw[<- h5] at hs
  obtain⟨z,hz⟩:∃z,z=mapX φ x:=⟨_,rfl⟩
  rw[<- hz] at hs hi
  obtain⟨o1,n1,v1,m1,l1,a1⟩:=x
  obtain⟨o2,n2,v2,m2,l2,a2⟩:=z
  rw[Ex.ds_mk] at hg hs
  simp only[Ex.av_mk] at hi
  repeat' first|refine st ?_|((with_reducible first|apply k_pn|apply k_pc);(·exact hi))|(with_reducible first|apply k_d|apply k_b)<;>intro _
  exact⟨i+1,(A++[xds o2 n2 v2 m2 (ng l2 (xL a2))],false),rfl,rfl,rfl,by omega,by omega,hs,by simp⟩
 |none=>
  have hge:=List.getElem?_eq_none_iff.1 hx
  rw[Mt_end hge] at h5
  have hx':(Ex.mk op n v nm true (args.map (mapX φ))).av=eX op n v nm (if A.isEmpty then .nil else .sl A):=by rw[Ex.av_mk,ng_true,<- h5]
  have hφ:=hg (.mk op n v nm true (args.map (mapX φ)))
  rw[<- h6] at hx'
  by_cases h2:op=2
  ·rw[if_pos h2] at hZ
   obtain⟨z,hz⟩:∃z,z=φ (.mk op n v nm true (args.map (mapX φ))):=⟨_,rfl⟩
   rw[<- hz] at hZ hφ
   rw[hx'] at hφ
   obtain⟨o2,n2,v2,m2,l2,a2⟩:=z
   simp only[Ex.av_mk] at hZ hφ
   rw[hZ]
   cases b with
   |true=>
    rw[if_pos rfl] at hφ
    repeat' first|refine st ?_|((with_reducible first|apply k_pn|apply k_pc);(·exact hφ))|(with_reducible first|apply k_d|apply k_b)<;>intro _
    all_goals rfl
   |false=>
    rw[if_neg (by simp)] at hφ
    repeat' first|refine st ?_|((with_reducible first|apply k_pn|apply k_pc);(·exact hφ))|(with_reducible first|apply k_d|apply k_b)<;>intro _
    all_goals rfl
  ·rw[if_neg h2,hx'] at hZ
   rw[hZ]
   cases b with
   |true=>
    repeat' first|refine st ?_|(with_reducible first|apply k_d|apply k_b)<;>intro _
    all_goals rfl
   |false=>
    repeat' first|refine st ?_|(with_reducible first|apply k_d|apply k_b)<;>intro _
    all_goals rfl
def cpX(e:Ex):Ex:=mapX id e
def nulE:Ex:=.mk 0 0 vNull [] true []
def inC(l:List Ex)(n:Int)(v:Vl)(nm:List UInt8)(k:Nat):Bool:=decide (k=0/\nm=[]/\(v.k=0/\v.n=0/\v.s=[])/\0<=n/\n<l.length)
def subC(l:List Ex):Ex->Ex
 |.mk op n v nm nl args=>if inC l n v nm args.length then cpX (l.getD n.toNat nulE) else .mk op n v nm nl args
theorem C.Sub_c1_c1(x:Ex):Pure Tryz.prog N.expr_Substitute_c1_c1 [x.av] (id x).av:=by
 obtain⟨op,n,v,nm,nl,args⟩:=x
 show Pure Tryz.prog _ _ (Ex.mk op n v nm nl args).av
 rw[Ex.av_mk]
 refine F.expr_Substitute_c1_c1.go mixed rfl ?_
 repeat' first|refine st ?_|(with_reducible first|apply k_d|apply k_b)<;>intro _
 all_goals rfl
theorem C.Sub_c1(l:List Ex)(hl:l.length<=1048576)(hlb:∀a∈l,a.bk<=1048576)(dl:D)(hdl:SlD dl (xL l))(x:Ex):CallSpec Tryz.prog N.expr_Substitute_c1 [x.av,.ptr 0 0] [.cells [.d dl]] (λr os=>r=(subC l x).av/\os=[.cells [.d dl]]):=by
 obtain⟨op,n,v,nm,nl,args⟩:=x
 obtain⟨Z,hZ⟩:∃Z,Z=(subC l (.mk op n v nm nl args)).av:=⟨_,rfl⟩
 rw[<- hZ]
 rw[subC] at hZ
 rw[Ex.av_mk]
 have h1:=xL_len args
 have hm:=xL_mem args
 have h2:=xL_len l
 have hm2:=xL_mem l
 obtain⟨da,hda⟩:∃d,d=ng nl (xL args):=⟨_,rfl⟩
 have hsd:SlD da (xL args):=by rw[hda];exact sld_ng
 cases hc:inC l n v nm args.length with
 |true=>
  rw[hc,if_pos rfl] at hZ
  obtain⟨c1,c2,⟨c3,c4,c5⟩,c6,c7⟩:=of_decide_eq_true hc
  obtain⟨m,rfl⟩:∃m:Nat,n=m:=⟨n.toNat,by omega⟩
  have hlm:m<l.length:=by omega
  have hx:l[m]?=some l[m]:=List.getElem?_eq_getElem hlm
  have hgd:l.getD (m:Int).toNat nulE=l[m]:=by rw[Int.toNat_natCast,List.getD_eq_getElem?_getD,hx];rfl
  rw[hgd] at hZ
  have hM:=C.expr_mappedF N.expr_Substitute_c1_c1 id C.Sub_c1_c1 l[m] (hlb _ (List.getElem_mem _))
  have hg:=xL_get hx
  obtain⟨y,hy⟩:∃y,y=l[m]:=⟨_,rfl⟩
  rw[<- hy] at hM hg hZ
  unfold cpX at hZ
  obtain⟨z,hz⟩:∃z,z=mapX id y:=⟨_,rfl⟩
  rw[<- hz] at hM hZ
  obtain⟨o1,n1,v1,m1,l1,a1⟩:=y
  obtain⟨o2,n2,v2,m2,l2,a2⟩:=z
  rw[Ex.ds_mk] at hg
  rw[Ex.av_mk,Ex.av_mk] at hM
  rw[Ex.av_mk] at hZ
  rw[hZ,<- hda]
  clear hda
  subst c2
  refine F.expr_Substitute_c1.goX mixed rfl ?_
  repeat' first|refine st ?_|((with_reducible first|apply k_pn|apply k_pc);(·exact hM))|(with_reducible first|apply k_d|apply k_b)<;>intro _
  all_goals exact⟨rfl,rfl⟩
 |false=>
  rw[hc,if_neg (by decide),Ex.av_mk,<- hda] at hZ
  rw[hZ,<- hda]
  have hno:¬(args.length=0/\nm=[]/\(v.k=0/\v.n=0/\v.s=[])/\0<=n/\n<l.length):=of_decide_eq_false hc
  clear hda hZ hc
  refine F.expr_Substitute_c1.goX mixed rfl ?_
  by_cases g1:args.length=0
  rotate_left
  ·repeat' first|refine st ?_|(with_reducible first|apply k_d|apply k_b)<;>intro _
   all_goals exact⟨rfl,rfl⟩
  by_cases g2:nm=[]
  rotate_left
  ·repeat' first|refine st ?_|(with_reducible first|apply k_d|apply k_b)<;>intro _
   all_goals exact⟨rfl,rfl⟩
  subst g2
  by_cases g3:v.k=0/\v.n=0/\v.s=[]
  rotate_left
  ·repeat' first|refine st ?_|(with_reducible first|apply k_d|apply k_b)<;>intro _
   all_goals first|exact⟨rfl,rfl⟩|(exfalso;simp_all;done)
  obtain⟨g4,g5,g6⟩:=g3
  by_cases g7:0<=n
  ·by_cases g8:n<l.length
   ·exact absurd ⟨g1,rfl,⟨g4,g5,g6⟩,g7,g8⟩ hno
   ·repeat' first|refine st ?_|(with_reducible first|apply k_d|apply k_b)<;>intro _
    all_goals exact⟨rfl,rfl⟩
  ·repeat' first|refine st ?_|(with_reducible first|apply k_d|apply k_b)<;>intro _
   all_goals exact⟨rfl,rfl⟩
def subX(l:List Ex)(e:Ex):Ex:=mapX (subC l) e
theorem C.expr_Substitute(l:List Ex)(hl:l.length<=1048576)(hlb:∀a∈l,a.bk<=1048576)(dl:D)(hdl:SlD dl (xL l))(e:Ex)(he:e.bk<=1048576):Pure Tryz.prog N.expr_Substitute [e.av,.d dl] (subX l e).av:=by
 have hM:=C.expr_mapped N.expr_Substitute_c1 dl (subC l) (C.Sub_c1 l hl hlb dl hdl) e he
 have hL:∀os:List AO,os[1]?=some (.cells [.d dl])->CallSpec Tryz.prog N.expr_mapped [e.av,.clo N.expr_Substitute_c1 [1]] os (λr' os'=>r'=(mapX (subC l) e).av/\os'=os.set 1 (.cells [.d dl])):=λos ho=>liftF (id:=1) hM (λf=>mA_ds f _) ho
 unfold subX
 obtain⟨z,hz⟩:∃z,z=mapX (subC l) e:=⟨_,rfl⟩
 rw[<- hz] at hL ⊢
 obtain⟨o1,n1,v1,m1,l1,a1⟩:=e
 obtain⟨o2,n2,v2,m2,l2,a2⟩:=z
 simp only[Ex.av_mk] at hL ⊢
 refine F.expr_Substitute.go mixed rfl ?_
 repeat' first|refine st ?_|((with_reducible first|apply k_nc|apply k_cs);(·exact hL _ rfl);(try rintro _ _ ⟨rfl,rfl⟩))|((with_reducible apply k_pr);(·exact hL _ rfl))|((with_reducible apply k_cal);refine st ?_;(with_reducible apply k_chk);(·exact rfl);refine st ?_;(with_reducible apply k_cs);(·exact hL _ rfl);(try rintro _ _ ⟨rfl,rfl⟩))|(with_reducible first|apply k_d|apply k_b)<;>intro _
 all_goals rfl
theorem fmd2(n:Int)(v:Vl)(nm:List UInt8)(k:Nat):fmd 2 n v nm k=decide (k=0/\nm=[]/\(v.k=0/\v.n=0/\v.s=[])):=by
 have hc:(cnt 2 k).1=decide ((k:Int)=0):=rfl
 unfold fmd
 rw[hc,if_neg (by decide),if_neg (by decide),if_pos rfl,vNull_is,Bool.eq_iff_iff]
 simp only[Bool.and_eq_true,decide_eq_true_eq]
 constructor
 ·rintro⟨⟨h1,h2⟩,h3⟩;exact⟨by omega,h2,h3⟩
 ·rintro⟨h1,h2,h3⟩;exact⟨⟨by omega,h2⟩,h3⟩
end Go.Proofs
end
section
namespace Go.Proofs
open Go.Bi
def belowI(a b:Int):Int:=if b<a then a-1 else a
theorem C.evolve_below(a b:Int)(ha:-4611686018427387904<=a)(hb:a<=4611686018427387904):Pure Tryz.prog N.evolve_below [.d (eI a),.d (eI b)] (.d (eI (belowI a b))):=by
 unfold belowI
 by_cases h:b<a
 ·rw[if_pos h]
  refine F.evolve_below.go mixed rfl ?_
  repeat' first|refine st ?_|(with_reducible first|apply k_d|apply k_b)<;>intro _
  all_goals rfl
 ·rw[if_neg h]
  refine F.evolve_below.go mixed rfl ?_
  repeat' first|refine st ?_|(with_reducible first|apply k_d|apply k_b)<;>intro _
  all_goals rfl
end Go.Proofs
end
section
namespace Go.Proofs
open Go.Bi
def mvE(k i:Int):Ex:=.mk 2 (belowI k i) ⟨0,0,[]⟩ [] true []
def mvL(m i:Nat):List Ex:=(List.range m).map λ(k:Nat)=>mvE (k:Int) (i:Int)
theorem mvL_len(m i:Nat):(mvL m i).length=m:=by simp[mvL]
theorem mvL_succ(m i:Nat):xL (mvL m i)++[[.int .i64 2,eI (belowI m i),.int .i64 0,.int .i64 0,.str [],.str [],.nil]]=xL (mvL (m+1) i):=by
 unfold mvL
 rw[List.range_succ,List.map_append]
 simp only[xL,List.map_append,List.map_cons,List.map_nil,List.append_cancel_left_eq]
 unfold mvE
 rw[Ex.ds_mk]
 rfl
def mixI(ks:List Int)(f:Int->Int)(k:Nat):List Int:=(ks.take k).map f++ks.drop k
theorem mixI_len(ks:List Int)(f:Int->Int)(k:Nat)(h:k<=ks.length):(mixI ks f k).length=ks.length:=by
 unfold mixI
 simp
 omega
theorem mixI_get{ks:List Int}(f:Int->Int){k:Nat}{c:Int}(h:ks[k]?=some c):(mixI ks f k)[k]?=some c:=by
 have hlt:=(List.getElem?_eq_some_iff.1 h).1
 unfold mixI
 rw[List.getElem?_append_right (by simp;omega),List.length_map,List.length_take,Nat.min_eq_left (by omega),Nat.sub_self,List.getElem?_drop]
 exact h
theorem mixI_set{ks:List Int}(f:Int->Int){k:Nat}{c:Int}(h:ks[k]?=some c):(mixI ks f k).set k (f c)=mixI ks f (k+1):=by
 obtain⟨hlt,he⟩:=List.getElem?_eq_some_iff.1 h
 unfold mixI
 rw[List.set_append_right _ _ (by simp;omega),List.length_map,List.length_take,Nat.min_eq_left (by omega),Nat.sub_self,List.drop_eq_getElem_cons hlt,he,List.set_cons_zero,List.take_add_one,h]
 simp
theorem mixI_zero(ks:List Int)(f:Int->Int):mixI ks f 0=ks:=by simp[mixI]
theorem mixI_end(ks:List Int)(f:Int->Int):mixI ks f ks.length=ks.map f:=by simp[mixI]
theorem eIs_set(l:List Int)(k:Nat)(y:Int):(eIs l).set k [eI y]=eIs (l.set k y):=by
 unfold eIs
 rw[List.map_set]
def mixX(xs:List Ex)(f:Ex->Ex)(k:Nat):List Ex:=(xs.take k).map f++xs.drop k
theorem mixX_len(xs:List Ex)(f:Ex->Ex)(k:Nat)(h:k<=xs.length):(mixX xs f k).length=xs.length:=by
 unfold mixX
 simp
 omega
theorem mixX_get{xs:List Ex}(f:Ex->Ex){k:Nat}{c:Ex}(h:xs[k]?=some c):(mixX xs f k)[k]?=some c:=by
 have hlt:=(List.getElem?_eq_some_iff.1 h).1
 unfold mixX
 rw[List.getElem?_append_right (by simp;omega),List.length_map,List.length_take,Nat.min_eq_left (by omega),Nat.sub_self,List.getElem?_drop]
 exact h
theorem mixX_set{xs:List Ex}(f:Ex->Ex){k:Nat}{c:Ex}(h:xs[k]?=some c):(mixX xs f k).set k (f c)=mixX xs f (k+1):=by
 obtain⟨hlt,he⟩:=List.getElem?_eq_some_iff.1 h
 unfold mixX
 rw[List.set_append_right _ _ (by simp;omega),List.length_map,List.length_take,Nat.min_eq_left (by omega),Nat.sub_self,List.drop_eq_getElem_cons hlt,he,List.set_cons_zero,List.take_add_one,h]
 simp
theorem mixX_zero(xs:List Ex)(f:Ex->Ex):mixX xs f 0=xs:=by simp[mixX]
theorem mixX_end(xs:List Ex)(f:Ex->Ex):mixX xs f xs.length=xs.map f:=by simp[mixX]
theorem C.drop0(nm:List UInt8)(es:List (List D))(hm:∀e∈es,e.length=3)(i:Nat)(hi:i<es.length)(hel:es.length<=1048576)(ks:List Int)(hkb:∀k∈ks,0<=k/\k<=1048576)(hkl:ks.length<=1048576)(kn:Bool)(hkn:kn=true->ks=[])(xs:List Ex)(hxl:xs.length<=1048576)(hxb:∀e∈xs,e.bk<=1048576)(xn:Bool)(hxn:xn=true->xs=[]) :
  CallSpec Tryz.prog N.evolve_drop [.ptr 0 0,.d (eI i)] [.cells [.d (.str nm),.arr 1 es.length,.arr 2 (eIs ks).length,.rs 3 0,.arr 4 (xL xs).length],.arr es 3 0 false,.arr (eIs ks) 1 0 kn,.rarr [] 2 true,.arr (xL xs) 7 0 xn]
   (λr os=>r=.tup []/\os=[.cells [.d (.str nm),.d (.sl (es.eraseIdx i)),.arr 2 (eIs ks).length,.rs 3 0,.arr 4 (xL xs).length],.arr (es.eraseIdx i++[zRow]) 3 (es.length-1) false,.arr (eIs (ks.map λc=>belowI c i)) 1 0 kn,.rarr [] 2 true,.arr (xL (xs.map (subX (mvL es.length i)))) 7 0 xn]):=by
 have hD:=fun {os:List AO} (ho:os[1]?=some (.arr es 3 0 false))=>C.slices_Delete es hm i hi ho
 obtain⟨m,hmm⟩:∃m,m=es.length:=⟨_,rfl⟩
 refine F.evolve_drop.goX mixed rfl ?_
 repeat' first|refine st ?_|(with_reducible first|apply k_d|apply k_b)<;>intro _
 refine x_nil 4 7 rfl rfl ?_
 repeat' first|refine st ?_|(with_reducible first|apply k_d|apply k_b)<;>intro _
 refine x_loop2 mixed Lt.evolve_drop_l0 Lk.evolve_drop_l0 (λ(k:Nat) (A:List (List D))=>[.arr 5 A.length,.d (eI k)]) (λk A=>[.cells [.d (.str nm),.arr 1 es.length,.arr 2 (eIs ks).length,.rs 3 0,.arr 4 (xL xs).length],.arr es 3 0 false,.arr (eIs ks) 1 0 kn,.rarr [] 2 true,.arr (xL xs) 7 0 xn,.arr A 7 0 A.isEmpty]) (λk A=>k<=es.length/\A=xL (mvL k i)) (λk A=>es.length-k) 0 [] rfl rfl rfl rfl (λ_ _ _=>⟨rfl,rfl⟩) rfl ⟨by omega,by simp[mvL,xL]⟩ ?_
 repeat' first|refine st ?_|(with_reducible first|apply k_d|apply k_b)<;>intro _
 intro k A ⟨h4,h5⟩
 have hAl:A.length=k:=by rw[h5,xL_len,mvL_len]
 have hAm:∀e∈A,e.length=7:=by rw[h5];exact xL_mem _
 by_cases hlt:k<es.length
 ·have hB:=C.evolve_below k i (by omega) (by omega)
  have hs:=mvL_succ k i
  rw[<- h5] at hs
  obtain⟨b,hb⟩:∃b,b=belowI k i:=⟨_,rfl⟩
  rw[<- hb] at hB hs
  clear h5
  repeat' first|refine st ?_|((with_reducible first|apply k_pn|apply k_pc);(·exact hB))|(with_reducible first|apply k_d|apply k_b)<;>intro _
  refine⟨k+1,A++[[.int .i64 2,eI b,.int .i64 0,.int .i64 0,.str [],.str [],.nil]],?_,rfl,?_,by omega,by omega,hs⟩
  ·rfl
  ·rw[show(A++[[.int .i64 2,eI b,.int .i64 0,.int .i64 0,.str [],.str [],.nil]]).isEmpty=false by simp]
   first|rfl|skip
 ·have hke:k=es.length:=by omega
  rw[hke] at h5
  have hDc:=hD (os:=[.cells [.d (.str nm),.arr 1 es.length,.arr 2 (eIs ks).length,.rs 3 0,.arr 4 (xL xs).length],.arr es 3 0 false,.arr (eIs ks) 1 0 kn,.rarr [] 2 true,.arr (xL xs) 7 0 xn,.arr A 7 0 A.isEmpty]) rfl
  obtain⟨es',hes'⟩:∃e,e=es.eraseIdx i:=⟨_,rfl⟩
  rw[<- hes'] at hDc ⊢
  obtain⟨M0,hM0⟩:∃L,L=mvL es.length i:=⟨_,rfl⟩
  have hMl:M0.length<=1048576:=by rw[hM0,mvL_len];exact hel
  rw[<- hM0] at h5 ⊢
  repeat' first|(with_reducible apply k_cal)|refine st ?_|((with_reducible first|apply k_nc|apply k_cs);(·exact hDc);(try rintro _ _ ⟨rfl,rfl⟩))|((with_reducible apply k_pr);(·exact hDc))|((with_reducible apply k_cal);refine st ?_;(with_reducible apply k_chk);(·exact rfl);refine st ?_;(with_reducible apply k_cs);(·exact hDc);(try rintro _ _ ⟨rfl,rfl⟩))|(with_reducible first|apply k_d|apply k_b)<;>intro _
  refine x_loop1 mixed Lt.evolve_drop_l1 Lk.evolve_drop_l1 (λ(j:Nat)=>[.d (eI j)]) (λj=>[.cells [.d (.str nm),.d (.sl es'),.arr 2 (eIs ks).length,.rs 3 0,.arr 4 (xL xs).length],.arr (es'++[zRow]) 3 (es.length-1) false,.arr (eIs (mixI ks (λc=>belowI c i) j)) 1 0 kn,.rarr [] 2 true,.arr (xL xs) 7 0 xn,.arr A 7 0 A.isEmpty]) (λj=>j<=ks.length) (λj=>ks.length-j) 0 rfl rfl rfl (by rw[mixI_zero];rfl) (λ_ _=>⟨rfl,rfl⟩) rfl (by omega) ?_
  repeat' first|refine st ?_|(with_reducible first|apply k_d|apply k_b)<;>intro _
  intro j h6
  have hKl:=mixI_len ks (λc=>belowI c i) j h6
  cases hy:ks[j]? with
  |some c=>
   obtain⟨hlt2,he2⟩:=List.getElem?_eq_some_iff.1 hy
   have hkf:kn=false:=by
    cases kn with
    |false=>rfl
    |true=>rw[hkn rfl] at hlt2;simp at hlt2
   subst hkf
   have hg:=eIs_get (mixI_get (λc=>belowI c i) hy)
   have hset:=mixI_set (λc=>belowI c i) hy
   obtain⟨cb1,cb2⟩:=hkb c (List.mem_of_getElem? hy)
   have hB:=C.evolve_below c i (by omega) (by omega)
   have hks:=eIs_len ks
   obtain⟨y,hyy⟩:∃y,y=belowI c i:=⟨_,rfl⟩
   rw[<- hyy] at hB hset
   have hset2:(eIs (mixI ks (λc=>belowI c i) j)).set j [eI y]=eIs (mixI ks (λc=>belowI c i) (j+1)):=by rw[eIs_set,hset]
   have hml:=eIs_len (mixI ks (λc=>belowI c i) j)
   have hmm2:=eIs_mem (mixI ks (λc=>belowI c i) j)
   obtain⟨X,hX⟩:∃X,X=eIs (mixI ks (λc=>belowI c i) j):=⟨_,rfl⟩
   rw[<- hX] at hg hset2 hml hmm2 ⊢
   repeat' first|refine st ?_|((with_reducible first|apply k_pn|apply k_pc);(·exact hB))|(with_reducible first|apply k_d|apply k_b)<;>intro _
   refine⟨j+1,rfl,rfl,?_,by omega,by omega⟩
   rw[show((j:Int)).toNat=j from Int.toNat_natCast j,hset2]
  |none=>
   have hge:=List.getElem?_eq_none_iff.1 hy
   have hjk:j=ks.length:=by omega
   subst hjk
   rw[mixI_end]
   have hks:=eIs_len ks
   obtain⟨K',hK'⟩:∃K,K=eIs (ks.map λc=>belowI c i):=⟨_,rfl⟩
   rw[<- hK']
   repeat' first|refine st ?_|(with_reducible first|apply k_d|apply k_b)<;>intro _
   refine x_rounds 1 ?_
   refine x_round mixed ?_
   repeat' first|refine st ?_|(with_reducible first|apply k_d|apply k_b)<;>intro _
   have hAe:A.isEmpty=false:=by cases A with
    |nil=>simp at hAl;omega
    |cons a l=>rfl
   rw[hAe]
   have hXl:=xL_len xs
   refine x_frz 4 (id:=5) (len:=A.length) (sz:=7) (frz:=0) (nl:=false) (es:=A) rfl rfl rfl ?_
   rw[if_neg (by decide:¬(false=true))]
   repeat' first|refine st ?_|(with_reducible first|apply k_d|apply k_b)<;>intro _
   refine x_loop1 mixed Lt.evolve_drop_l4 Lk.evolve_drop_l4 (λ(q:Nat)=>[.d (eI q)]) (λq=>[.cells [.d (.str nm),.d (.sl es'),.arr 2 (eIs ks).length,.rs 3 0,.arr 4 (xL xs).length],.arr (es'++[zRow]) 3 (es.length-1) false,.arr K' 1 0 kn,.rarr [] 2 true,.arr (xL (mixX xs (subX M0) q)) 7 0 xn,.arr A 7 A.length false]) (λq=>q<=xs.length) (λq=>xs.length-q) 0 rfl rfl rfl (by rw[mixX_zero];rfl) (λ_ _=>⟨rfl,rfl⟩) rfl (by omega) ?_
   repeat' first|refine st ?_|(with_reducible first|apply k_d|apply k_b)<;>intro _
   intro q h7
   have hMb:∀a∈M0,a.bk<=1048576:=by
    intro a ha
    rw[hM0] at ha
    obtain⟨b,_,rfl⟩:=List.mem_map.1 ha
    unfold mvE Ex.bk
    rw[Ex.ds_mk]
    exact Nat.le_of_ble_eq_true rfl
   have hXql:=mixX_len xs (subX M0) q h7
   cases hx:xs[q]? with
   |some x=>
    obtain⟨hlt3,he3⟩:=List.getElem?_eq_some_iff.1 hx
    have hxf:xn=false:=by
     cases xn with
     |false=>rfl
     |true=>rw[hxn rfl] at hlt3;simp at hlt3
    subst hxf
    have hg:=mixX_get (subX M0) hx
    have hset:=mixX_set (subX M0) hx
    have hS:=C.expr_Substitute M0 hMl hMb (.sl A) (by rw[h5];exact sld_sl) x (hxb x (List.mem_of_getElem? hx))
    have hq1:=xL_len (mixX xs (subX M0) q)
    have hq2:=xL_mem (mixX xs (subX M0) q)
    obtain⟨z,hz⟩:∃z,z=subX M0 x:=⟨_,rfl⟩
    rw[<- hz] at hS hset
    have hset2:(xL (mixX xs (subX M0) q)).set q z.ds=xL (mixX xs (subX M0) (q+1)):=by rw[<- hset];unfold xL;rw[List.map_set]
    obtain⟨o1,n1,v1,m1,l1,a1⟩:=x
    obtain⟨o2,n2,v2,m2,l2,a2⟩:=z
    have hg:=xL_get'' _ _ _ _ _ _ _ hg
    rw[Ex.av_mk,Ex.av_mk] at hS
    rw[Ex.ds_mk] at hset2
    obtain⟨X,hX⟩:∃X,X=xL (mixX xs (subX M0) q):=⟨_,rfl⟩
    rw[<- hX] at hg hset2 hq1 hq2 ⊢
    repeat' first|refine st ?_|((with_reducible first|apply k_pn|apply k_pc);(·exact hS))|(with_reducible first|apply k_d|apply k_b)<;>intro _
    refine⟨q+1,rfl,rfl,?_,by omega,by omega⟩
    rw[show((q:Int)).toNat=q from Int.toNat_natCast q,hset2]
   |none=>
    have hge:=List.getElem?_eq_none_iff.1 hx
    have hqk:q=xs.length:=by omega
    subst hqk
    rw[mixX_end]
    repeat' first|refine st ?_|(with_reducible first|apply k_d|apply k_b)<;>intro _
    exact⟨rfl,rfl⟩
end Go.Proofs
end
section
namespace Go.Proofs
open Go.Bi
theorem C.clone0(nm:List UInt8)(dc dk df dx:D)(Cs Ks:List (List D))(cn kn:Bool)(hC:CallSpec Tryz.prog N.slices_Clone__api_Column_api_Column [.d dc] [] (λr os=>r=.arr 0 Cs.length/\os=[.arr Cs 3 0 cn]))(hK:CallSpec Tryz.prog N.slices_Clone__int_int [.d dk] [] (λr os=>r=.arr 0 Ks.length/\os=[.arr Ks 1 0 kn]))
  (hd:SlD df []) (l:List Ex) (hb:∀x∈l,x.bk<=1048576) (hl:l.length<=1048576) (hdx:SlD dx (xL l)) :
  CallSpec Tryz.prog N.schema_Clone [eT nm dc dk df dx] [] (λr os=>r=.agg (oB nm Cs.length Ks.length 0 (xL (l.map (shf 0))).length)/\os=clB [.d (.str nm),.d dc,.d dk,.d df,.d dx] (oB nm Cs.length Ks.length 0 (xL (l.map (shf 0))).length) nm Cs Ks cn kn [] (xL (l.map (shf 0))) (xL (l.map (shf 0))).isEmpty):=by
 have h1:=xL_len l
 have hm:=xL_mem l
 have hg0:=xL_get'' (args:=l)
 obtain⟨R,hR⟩:∃R,R=xL (l.map (shf 0)):=⟨_,rfl⟩
 rw[<- hR]
 obtain⟨es,hes⟩:∃es,es=xL l:=⟨_,rfl⟩
 rw[<- hes] at h1 hm hdx hg0
 refine F.schema_Clone.goO mixed rfl ?_
 repeat' first|refine st ?_|((with_reducible apply k_ow);(·first|exact hC|exact hK))|(with_reducible first|apply k_d|apply k_b)<;>intro _
 refine x_nilrc 4 3 2 rfl rfl rfl ?_
 refine x_nilcc 4 4 7 rfl rfl rfl ?_
 refine x_rounds 1 ?_
 refine x_round mixed ?_
 repeat' first|refine st ?_|((with_reducible apply k_ow);(·first|exact hC|exact hK))|(with_reducible first|apply k_d|apply k_b)<;>intro _
 refine x_selm [2,3,37,38,39] [.ptr 1 0,.ptr 4 0,.d dx,.d (.int .i64 es.length),.d (eI 0)] [0,1,2,3,4,5,6] (clB [.d (.str nm),.d dc,.d dk,.d df,.d dx] [.d (.str []),.d .nil,.d .nil,.d .nil,.d .nil] nm Cs Ks cn kn [] [] true) rfl rfl (by decide) rfl rfl rfl rfl rfl ?_
 refine x_loop2 mixed Lt.schema_Clone_l1 Lk.schema_Clone_l1 (λ(i:Nat) (w:List (List D)×Bool)=>[.d (eI i)]) (λi w=>clB [.d (.str nm),.d dc,.d dk,.d df,.d dx] [.d (.str []),.d .nil,.d .nil,.d .nil,.d .nil] nm Cs Ks cn kn [] w.1 w.2) (λi w=>i<=l.length/\w.1=Mt (shf 0) l i/\w.2=w.1.isEmpty) (λi w=>l.length-i) 0 ([],true) rfl rfl rfl rfl (λ_ _ _=>⟨rfl,rfl⟩) rfl ⟨by omega,rfl,rfl⟩ ?_
 repeat' first|refine st ?_|(with_reducible first|apply k_d|apply k_b)<;>intro _
 intro i w ⟨h4,h5,h6⟩
 obtain⟨A,b⟩:=w
 dsimp only at h5 h6 ⊢
 have hAl:A.length=i:=by rw[h5];exact Mt_len _ l i (by omega)
 have hAm:∀e∈A,e.length=7:=by rw[h5];exact Mt_mem _ _ _
 cases hx:l[i]? with
 |some x=>
  have hlt:=(List.getElem?_eq_some_iff.1 hx).1
  have hs:=Mt_succ (φ:=shf 0) hx
  have hS:=C.expr_Shift x (hb x (List.mem_of_getElem? hx)) 0
  rw[<- h5] at hs
  obtain⟨z,hz⟩:∃z,z=shf 0 x:=⟨_,rfl⟩
  rw[<- hz] at hs hS
  obtain⟨o1,n1,v1,m1,l1,a1⟩:=x
  obtain⟨o2,n2,v2,m2,l2,a2⟩:=z
  have hg:=hg0 _ _ _ _ _ _ _ hx
  rw[Ex.ds_mk] at hs
  rw[Ex.av_mk,Ex.av_mk] at hS
  repeat' first|refine st ?_|((with_reducible first|apply k_pn|apply k_pc);(·exact hS))|(with_reducible first|apply k_d|apply k_b)<;>intro _
  exact⟨i+1,(A++[xds o2 n2 v2 m2 (ng l2 (xL a2))],false),rfl,rfl,rfl,by omega,by omega,hs,by simp⟩
 |none=>
  have hge:=List.getElem?_eq_none_iff.1 hx
  rw[Mt_end hge,<- hR] at h5
  subst h5
  subst h6
  repeat' first|refine st ?_|(with_reducible first|apply k_d|apply k_b)<;>intro _
  all_goals exact⟨rfl,rfl⟩
theorem C.clone1(nm:List UInt8)(dc dk df dx:D)(Cs Ks:List (List D))(cn kn:Bool)(hC:CallSpec Tryz.prog N.slices_Clone__api_Column_api_Column [.d dc] [] (λr os=>r=.arr 0 Cs.length/\os=[.arr Cs 3 0 cn]))(hK:CallSpec Tryz.prog N.slices_Clone__int_int [.d dk] [] (λr os=>r=.arr 0 Ks.length/\os=[.arr Ks 1 0 kn]))
  (f0:Fi) (hf0:f0.ok) (hd:df=.sl (eFi [f0])) (l:List Ex) (hb:∀x∈l,x.bk<=1048576) (hl:l.length<=1048576) (hdx:SlD dx (xL l)) :
  CallSpec Tryz.prog N.schema_Clone [eT nm dc dk df dx] [] (λr os=>r=.agg (oB nm Cs.length Ks.length 1 (xL (l.map (shf 0))).length)/\os=clB [.d (.str nm),.d dc,.d dk,.d df,.d dx] (oB nm Cs.length Ks.length 1 (xL (l.map (shf 0))).length) nm Cs Ks cn kn [f0] (xL (l.map (shf 0))) (xL (l.map (shf 0))).isEmpty):=by
 have h1:=xL_len l
 have hm:=xL_mem l
 have hg0:=xL_get'' (args:=l)
 obtain⟨R,hR⟩:∃R,R=xL (l.map (shf 0)):=⟨_,rfl⟩
 rw[<- hR]
 obtain⟨es,hes⟩:∃es,es=xL l:=⟨_,rfl⟩
 rw[<- hes] at h1 hm hdx hg0
 subst hd
 obtain⟨fd0,fe0,fn0,ft0⟩:=f0
 have hf0:CallSpec Tryz.prog N.slices_Clone__int_int [.d fd0] [] (λr os=>r=.arr 0 fe0.length/\os=[.arr fe0 1 0 fn0]):=hf0
 rw[show eFi [⟨fd0,fe0,fn0,ft0⟩]=[[fd0,.str ft0]] from rfl]
 refine F.schema_Clone.goO mixed rfl ?_
 repeat' first|refine st ?_|((with_reducible apply k_ow);(·first|exact hC|exact hK|exact hf0))|(with_reducible first|apply k_d|apply k_b)<;>intro _
 refine x_nilrc 4 3 2 rfl rfl rfl ?_
 refine x_nilcc 4 4 7 rfl rfl rfl ?_
 refine x_rounds 2 ?_
 refine x_round mixed ?_
 repeat' first|refine st ?_|((with_reducible apply k_ow);(·first|exact hC|exact hK|exact hf0))|(with_reducible first|apply k_d|apply k_b)<;>intro _
 refine x_round mixed ?_
 repeat' first|refine st ?_|((with_reducible apply k_ow);(·first|exact hC|exact hK|exact hf0))|(with_reducible first|apply k_d|apply k_b)<;>intro _
 refine x_selm [2,3,37,38,39] [.ptr 1 0,.ptr 4 0,.d dx,.d (.int .i64 es.length),.d (eI 0)] [0,1,2,3,4,5,6,8] (clB [.d (.str nm),.d dc,.d dk,.d (.sl [[fd0,.str ft0]]),.d dx] [.d (.str []),.d .nil,.d .nil,.d .nil,.d .nil] nm Cs Ks cn kn [⟨fd0,fe0,fn0,ft0⟩] [] true) rfl rfl (by decide) rfl rfl rfl rfl rfl ?_
 refine x_loop2 mixed Lt.schema_Clone_l1 Lk.schema_Clone_l1 (λ(i:Nat) (w:List (List D)×Bool)=>[.d (eI i)]) (λi w=>clB [.d (.str nm),.d dc,.d dk,.d (.sl [[fd0,.str ft0]]),.d dx] [.d (.str []),.d .nil,.d .nil,.d .nil,.d .nil] nm Cs Ks cn kn [⟨fd0,fe0,fn0,ft0⟩] w.1 w.2) (λi w=>i<=l.length/\w.1=Mt (shf 0) l i/\w.2=w.1.isEmpty) (λi w=>l.length-i) 0 ([],true) rfl rfl rfl rfl (λ_ _ _=>⟨rfl,rfl⟩) rfl ⟨by omega,rfl,rfl⟩ ?_
 repeat' first|refine st ?_|(with_reducible first|apply k_d|apply k_b)<;>intro _
 intro i w ⟨h4,h5,h6⟩
 obtain⟨A,b⟩:=w
 dsimp only at h5 h6 ⊢
 have hAl:A.length=i:=by rw[h5];exact Mt_len _ l i (by omega)
 have hAm:∀e∈A,e.length=7:=by rw[h5];exact Mt_mem _ _ _
 cases hx:l[i]? with
 |some x=>
  have hlt:=(List.getElem?_eq_some_iff.1 hx).1
  have hs:=Mt_succ (φ:=shf 0) hx
  have hS:=C.expr_Shift x (hb x (List.mem_of_getElem? hx)) 0
  rw[<- h5] at hs
  obtain⟨z,hz⟩:∃z,z=shf 0 x:=⟨_,rfl⟩
  rw[<- hz] at hs hS
  obtain⟨o1,n1,v1,m1,l1,a1⟩:=x
  obtain⟨o2,n2,v2,m2,l2,a2⟩:=z
  have hg:=hg0 _ _ _ _ _ _ _ hx
  rw[Ex.ds_mk] at hs
  rw[Ex.av_mk,Ex.av_mk] at hS
  repeat' first|refine st ?_|((with_reducible first|apply k_pn|apply k_pc);(·exact hS))|(with_reducible first|apply k_d|apply k_b)<;>intro _
  exact⟨i+1,(A++[xds o2 n2 v2 m2 (ng l2 (xL a2))],false),rfl,rfl,rfl,by omega,by omega,hs,by simp⟩
 |none=>
  have hge:=List.getElem?_eq_none_iff.1 hx
  rw[Mt_end hge,<- hR] at h5
  subst h5
  subst h6
  repeat' first|refine st ?_|(with_reducible first|apply k_d|apply k_b)<;>intro _
  all_goals exact⟨rfl,rfl⟩
theorem C.clone2(nm:List UInt8)(dc dk df dx:D)(Cs Ks:List (List D))(cn kn:Bool)(hC:CallSpec Tryz.prog N.slices_Clone__api_Column_api_Column [.d dc] [] (λr os=>r=.arr 0 Cs.length/\os=[.arr Cs 3 0 cn]))(hK:CallSpec Tryz.prog N.slices_Clone__int_int [.d dk] [] (λr os=>r=.arr 0 Ks.length/\os=[.arr Ks 1 0 kn]))
  (f0 f1:Fi) (hf0:f0.ok) (hf1:f1.ok) (hd:df=.sl (eFi [f0,f1])) (l:List Ex) (hb:∀x∈l,x.bk<=1048576) (hl:l.length<=1048576) (hdx:SlD dx (xL l)) :
  CallSpec Tryz.prog N.schema_Clone [eT nm dc dk df dx] [] (λr os=>r=.agg (oB nm Cs.length Ks.length 2 (xL (l.map (shf 0))).length)/\os=clB [.d (.str nm),.d dc,.d dk,.d df,.d dx] (oB nm Cs.length Ks.length 2 (xL (l.map (shf 0))).length) nm Cs Ks cn kn [f0,f1] (xL (l.map (shf 0))) (xL (l.map (shf 0))).isEmpty):=by
 have h1:=xL_len l
 have hm:=xL_mem l
 have hg0:=xL_get'' (args:=l)
 obtain⟨R,hR⟩:∃R,R=xL (l.map (shf 0)):=⟨_,rfl⟩
 rw[<- hR]
 obtain⟨es,hes⟩:∃es,es=xL l:=⟨_,rfl⟩
 rw[<- hes] at h1 hm hdx hg0
 subst hd
 obtain⟨fd0,fe0,fn0,ft0⟩:=f0
 have hf0:CallSpec Tryz.prog N.slices_Clone__int_int [.d fd0] [] (λr os=>r=.arr 0 fe0.length/\os=[.arr fe0 1 0 fn0]):=hf0
 obtain⟨fd1,fe1,fn1,ft1⟩:=f1
 have hf1:CallSpec Tryz.prog N.slices_Clone__int_int [.d fd1] [] (λr os=>r=.arr 0 fe1.length/\os=[.arr fe1 1 0 fn1]):=hf1
 rw[show eFi [⟨fd0,fe0,fn0,ft0⟩,⟨fd1,fe1,fn1,ft1⟩]=[[fd0,.str ft0],[fd1,.str ft1]] from rfl]
 refine F.schema_Clone.goO mixed rfl ?_
 repeat' first|refine st ?_|((with_reducible apply k_ow);(·first|exact hC|exact hK|exact hf0|exact hf1))|(with_reducible first|apply k_d|apply k_b)<;>intro _
 refine x_nilrc 4 3 2 rfl rfl rfl ?_
 refine x_nilcc 4 4 7 rfl rfl rfl ?_
 refine x_rounds 3 ?_
 refine x_round mixed ?_
 repeat' first|refine st ?_|((with_reducible apply k_ow);(·first|exact hC|exact hK|exact hf0|exact hf1))|(with_reducible first|apply k_d|apply k_b)<;>intro _
 refine x_round mixed ?_
 repeat' first|refine st ?_|((with_reducible apply k_ow);(·first|exact hC|exact hK|exact hf0|exact hf1))|(with_reducible first|apply k_d|apply k_b)<;>intro _
 refine x_round mixed ?_
 repeat' first|refine st ?_|((with_reducible apply k_ow);(·first|exact hC|exact hK|exact hf0|exact hf1))|(with_reducible first|apply k_d|apply k_b)<;>intro _
 refine x_selm [2,3,37,38,39] [.ptr 1 0,.ptr 4 0,.d dx,.d (.int .i64 es.length),.d (eI 0)] [0,1,2,3,4,5,6,8,11] (clB [.d (.str nm),.d dc,.d dk,.d (.sl [[fd0,.str ft0],[fd1,.str ft1]]),.d dx] [.d (.str []),.d .nil,.d .nil,.d .nil,.d .nil] nm Cs Ks cn kn [⟨fd0,fe0,fn0,ft0⟩,⟨fd1,fe1,fn1,ft1⟩] [] true) rfl rfl (by decide) rfl rfl rfl rfl rfl ?_
 refine x_loop2 mixed Lt.schema_Clone_l1 Lk.schema_Clone_l1 (λ(i:Nat) (w:List (List D)×Bool)=>[.d (eI i)]) (λi w=>clB [.d (.str nm),.d dc,.d dk,.d (.sl [[fd0,.str ft0],[fd1,.str ft1]]),.d dx] [.d (.str []),.d .nil,.d .nil,.d .nil,.d .nil] nm Cs Ks cn kn [⟨fd0,fe0,fn0,ft0⟩,⟨fd1,fe1,fn1,ft1⟩] w.1 w.2) (λi w=>i<=l.length/\w.1=Mt (shf 0) l i/\w.2=w.1.isEmpty) (λi w=>l.length-i) 0 ([],true) rfl rfl rfl rfl (λ_ _ _=>⟨rfl,rfl⟩) rfl ⟨by omega,rfl,rfl⟩ ?_
 repeat' first|refine st ?_|(with_reducible first|apply k_d|apply k_b)<;>intro _
 intro i w ⟨h4,h5,h6⟩
 obtain⟨A,b⟩:=w
 dsimp only at h5 h6 ⊢
 have hAl:A.length=i:=by rw[h5];exact Mt_len _ l i (by omega)
 have hAm:∀e∈A,e.length=7:=by rw[h5];exact Mt_mem _ _ _
 cases hx:l[i]? with
 |some x=>
  have hlt:=(List.getElem?_eq_some_iff.1 hx).1
  have hs:=Mt_succ (φ:=shf 0) hx
  have hS:=C.expr_Shift x (hb x (List.mem_of_getElem? hx)) 0
  rw[<- h5] at hs
  obtain⟨z,hz⟩:∃z,z=shf 0 x:=⟨_,rfl⟩
  rw[<- hz] at hs hS
  obtain⟨o1,n1,v1,m1,l1,a1⟩:=x
  obtain⟨o2,n2,v2,m2,l2,a2⟩:=z
  have hg:=hg0 _ _ _ _ _ _ _ hx
  rw[Ex.ds_mk] at hs
  rw[Ex.av_mk,Ex.av_mk] at hS
  repeat' first|refine st ?_|((with_reducible first|apply k_pn|apply k_pc);(·exact hS))|(with_reducible first|apply k_d|apply k_b)<;>intro _
  exact⟨i+1,(A++[xds o2 n2 v2 m2 (ng l2 (xL a2))],false),rfl,rfl,rfl,by omega,by omega,hs,by simp⟩
 |none=>
  have hge:=List.getElem?_eq_none_iff.1 hx
  rw[Mt_end hge,<- hR] at h5
  subst h5
  subst h6
  repeat' first|refine st ?_|(with_reducible first|apply k_d|apply k_b)<;>intro _
  all_goals exact⟨rfl,rfl⟩
end Go.Proofs
end
