/- Texts of this claim, joined. No condition. -/
import Derived.Test.YtfnaleemmeejcaaGreatQ5
set_option linter.unusedSimpArgs false
set_option linter.unusedVariables false
set_option maxRecDepth 10000
set_option maxHeartbeats 4000000
section
namespace Go.Proofs
open Go.Bi
structure Bg where
 nk:Bool
 ki:List Int
 nr:Bool
 rows:List Rw
abbrev Bg.kd(b:Bg):D:=ng b.nk (eIs b.ki)
abbrev Bg.rd(b:Bg):D:=ng b.nr (eRs b.rows)
abbrev Bg.kw(b:Bg):Kw:=⟨b.nk,b.ki⟩
def eBs(l:List Bg):List (List D):=l.map λb=>[b.kd,b.rd]
theorem eBs_len(l:List Bg):(eBs l).length=l.length:=by simp[eBs]
theorem eBs_mem(l:List Bg):∀e∈eBs l,e.length=2:=by
 intro e he
 obtain⟨x,_,rfl⟩:=List.mem_map.1 he
 rfl
theorem eBs_get{l:List Bg}{i:Nat}{b:Bg}(h:l[i]?=some b):(eBs l)[i]?=some [b.kd,b.rd]:=by simp[eBs,h]
abbrev bg0:Bg:=⟨true,[],true,[]⟩
def evN(I:List Bg)(o:Po)(b:List Bg):Bg:=
 if o.op=1 then ⟨(I.getD o.n.toNat bg0).nk,(I.getD o.n.toNat bg0).ki,false,rw0 (ordR (vsR (I.getD o.n.toNat bg0).rows))⟩
 else if o.op=2 then ⟨o.nk,o.ki,false,rw0 (ordR (vsR o.rows))⟩
 else if o.op=3 then ⟨(b.getD 0 bg0).nk,(b.getD 0 bg0).ki,false,rw0 (ordR ((vsR (b.getD 0 bg0).rows).filter (trB o.pred)))⟩
 else if o.op=4 then ⟨true,(prjF (b.getD 0 bg0).ki o.xs).1,false,rw0 (ordR ((vsR (b.getD 0 bg0).rows).map (vlR o.xs)))⟩
 else if o.op=10 then ⟨(b.getD 0 bg0).nk,(b.getD 0 bg0).ki,false,rw0 (dstR none (ordR (vsR (b.getD 0 bg0).rows)))⟩
 else if o.op=11 then ⟨true,(grpF (b.getD 0 bg0).ki o.keys o.aggs).1,false,rw0 (ordR (grpR o.keys o.aggs (b.getD 0 bg0).rows))⟩
 else if o.op=5 then ⟨true,(b.getD 0 bg0).ki++(b.getD 1 bg0).ki,false,rw0 (ordR (jnR o.pred false (b.getD 1 bg0).ki.length (vsR (b.getD 1 bg0).rows) (vsR (b.getD 0 bg0).rows)))⟩
 else if o.op=6 then ⟨true,(b.getD 0 bg0).ki++(b.getD 1 bg0).ki,false,rw0 (ordR (jnR o.pred true (b.getD 1 bg0).ki.length (vsR (b.getD 1 bg0).rows) (vsR (b.getD 0 bg0).rows)))⟩
 else if o.op=7 then ⟨(b.getD 0 bg0).nk,(b.getD 0 bg0).ki,false,rw0 (ordR (vsR (b.getD 0 bg0).rows++vsR (b.getD 1 bg0).rows))⟩
 else if o.op=8 then ⟨(b.getD 0 bg0).nk,(b.getD 0 bg0).ki,true,rw0 (setR exF (vsR (b.getD 0 bg0).rows) (vsR (b.getD 1 bg0).rows))⟩
 else ⟨(b.getD 0 bg0).nk,(b.getD 0 bg0).ki,true,rw0 (setR inF (vsR (b.getD 0 bg0).rows) (vsR (b.getD 1 bg0).rows))⟩
mutual
/-- What a plan computes. -/
def evB(I:List Bg):Pl->Bg
 |.mk o _ ins=>evN I o (evBs I ins)
def evBs(I:List Bg):List Pl->List Bg
 |[]=>[]
 |p::r=>evB I p::evBs I r
end
theorem evBs_eq(I:List Bg):∀l,evBs I l=l.map (evB I)
 |[]=>by simp[evBs]
 |e::es=>by simp[evBs,evBs_eq I es]
theorem evB_mk(I:List Bg)(o:Po)(ni:Bool)(ins:List Pl):evB I (.mk o ni ins)=evN I o (ins.map (evB I)):=by rw[evB,evBs_eq]
mutual
/-- The greatest size of a plan's nodes. -/
def lgP(rs:List Int):Pl->Int
 |.mk o ni ins=>(lgPs rs ins).foldl max (szP rs (.mk o ni ins))
def lgPs(rs:List Int):List Pl->List Int
 |[]=>[]
 |p::r=>lgP rs p::lgPs rs r
end
theorem lgPs_eq(rs:List Int):∀l,lgPs rs l=l.map (lgP rs)
 |[]=>by simp[lgPs]
 |e::es=>by simp[lgPs,lgPs_eq rs es]
theorem foldl_max_le:∀(l:List Int)(a B:Int),l.foldl max a<=B->a<=B/\∀x∈l,x<=B
 |[],a,B,h=>⟨h,by simp⟩
 |y::l,a,B,h=>by
  obtain⟨h1,h2⟩:=foldl_max_le l (max a y) B h
  refine⟨by omega,λx hx=>?_⟩
  rcases List.mem_cons.1 hx with rfl|hx
  ·omega
  ·exact h2 x hx
theorem lgP_le{rs:List Int}{o:Po}{ni:Bool}{ins:List Pl}{B:Int}(h:lgP rs (.mk o ni ins)<=B):szP rs (.mk o ni ins)<=B/\∀p∈ins,lgP rs p<=B:=by
 rw[lgP,lgPs_eq] at h
 obtain⟨h1,h2⟩:=foldl_max_le _ _ _ h
 exact⟨h1,λp hp=>h2 _ (List.mem_map.2 ⟨p,hp,rfl⟩)⟩
theorem feK_zero:∀{l:List (Kw×Int)},feK l=0->∀x∈l,x.2=0
 |[],_,x,hx=>by cases hx
 |y::l,h,x,hx=>by
  unfold feK at h
  by_cases hy:y.2=0
  ·rw[if_pos hy] at h
   rcases List.mem_cons.1 hx with rfl|hx
   ·exact hy
   ·exact feK_zero h x hx
  ·rw[if_neg hy] at h;exact absurd h hy
theorem ndF_ok{K:List Kw}{o:Po}{ni:Bool}{ins:List Pl}(h:(ndF K (.mk o ni ins)).2=0):0<=inN o.op/\(ins.length:Int)=inN o.op/\(∀p∈ins,(ndF K p).2=0)/\(resF K o (ins.map λp=>(ndF K p).1)).2=0/\(ndF K (.mk o ni ins)).1=(resF K o (ins.map λp=>(ndF K p).1)).1/\0<(ndF K (.mk o ni ins)).1.ks.length:=by
 rw[ndF_mk] at h ⊢
 unfold ndN at h ⊢
 by_cases h1:inN o.op<0
 ·rw[if_pos h1] at h;cases h
 rw[if_neg h1] at h ⊢
 by_cases h2:(ins.length:Int)=inN o.op
 rotate_left
 ·rw[if_neg h2] at h;cases h
 rw[if_pos h2] at h ⊢
 by_cases h3:feK (ins.map (ndF K))=0
 rotate_left
 ·rw[if_neg h3] at h;exact absurd h h3
 rw[if_pos h3,List.map_map] at h ⊢
 have e:(Prod.fst ∘ ndF K)=λp=>(ndF K p).1:=rfl
 rw[e] at h ⊢
 unfold ndR at h ⊢
 by_cases h4:(resF K o (ins.map λp=>(ndF K p).1)).2=0
 rotate_left
 ·rw[if_neg h4] at h;exact absurd h h4
 rw[if_pos h4] at h ⊢
 by_cases h5:(resF K o (ins.map λp=>(ndF K p).1)).1.ks.length=0\/48<(resF K o (ins.map λp=>(ndF K p).1)).1.ks.length
 ·rw[if_pos h5] at h;cases h
 rw[if_neg h5]
 exact⟨by omega,h2,λp hp=>feK_zero h3 _ (List.mem_map.2 ⟨p,hp,rfl⟩),h4,rfl,by show 0<(resF K o (ins.map λp=>(ndF K p).1)).1.ks.length;omega⟩
def RwG(n:Nat)(r:Row):Prop:=r.length=n/\∀v∈r,v.s.length<=200
theorem fits_g{row:Row}{ks:List Int}(h:fits row ks=true):RwG ks.length row:=by
 unfold fits at h
 rw[Bool.and_eq_true] at h
 have h1:=of_decide_eq_true h.1
 refine⟨h1,λv hv=>?_⟩
 obtain⟨i,hi,rfl⟩:=List.mem_iff_getElem.1 hv
 have h2:=List.all_eq_true.1 h.2 (row[i],ks[i]) (List.mem_iff_getElem.2 ⟨i,by rw[List.length_zip];omega,by rw[List.getElem_zip]⟩)
 unfold fitB at h2
 rw[Bool.and_eq_true] at h2
 exact valid_s h2.1
theorem prjF_len{ks:List Int}:∀{xs:List Ex},(prjF ks xs).2=0->(prjF ks xs).1.length=xs.length
 |[],_=>rfl
 |e::r,h=>by
  unfold prjF at h ⊢
  split at h
  ·split at h
   ·cases h
   ·split at h
    ·rename_i h1 h2 h3
     rw[if_pos h1,if_neg h2,if_pos h3]
     simp only[List.length_cons,prjF_len h3]
    ·rename_i h3;exact absurd h h3
  ·rename_i h3;exact absurd h h3
theorem grpA_ok{ks:List Int}:∀{l:List Ag}{w:List Int},(grpA ks w l).2=0->(grpA ks w l).1.length=w.length+l.length/\∀a∈l,a.arg<ks.length
 |[],w,_=>⟨rfl,by simp⟩
 |a::r,w,h=>by
  unfold grpA at h ⊢
  by_cases h1:(agK ks a).2=0
  ·rw[if_pos h1] at h ⊢
   obtain⟨h2,h3⟩:=grpA_ok h
   refine⟨by rw[h2,List.length_append];simp;omega,λx hx=>?_⟩
   rcases List.mem_cons.1 hx with rfl|hx
   ·unfold agK at h1
    split at h1
    ·split at h1
     ·rename_i h4;omega
     ·split at h1
      ·cases h1
      ·rename_i h4;omega
    ·cases h1
   ·exact h3 x hx
  ·rw[if_neg h1] at h;exact absurd h h1
theorem grpK_ok{ks:List Int}{l:List Ag}:∀{keys w:List Int},(grpK ks l w keys).2=0->(grpK ks l w keys).1.length=w.length+keys.length+l.length/\∀a∈l,a.arg<ks.length
 |[],w,h=>by unfold grpK at h ⊢;exact grpA_ok h
 |k::r,w,h=>by
  unfold grpK at h ⊢
  by_cases h1:k<0\/(ks.length:Int)<=k
  ·rw[if_pos h1] at h;cases h
  ·rw[if_neg h1] at h ⊢
   obtain⟨h2,h3⟩:=grpK_ok h
   exact⟨by rw[h2,List.length_append];simp;omega,h3⟩
theorem grpF_ok{ks keys:List Int}{l:List Ag}(h:(grpF ks keys l).2=0):(grpF ks keys l).1.length=keys.length+l.length/\∀a∈l,a.arg<ks.length:=by
 have:=grpK_ok h
 exact⟨by have h1:=this.1;simp only[List.length_nil,Nat.zero_add] at h1;exact h1,this.2⟩
theorem vNull_s:vNull.s.length<=200:=by decide
theorem vInt_s(n:Int):(vInt n).s.length<=200:=by
 unfold vInt vOrN
 split
 ·exact Nat.zero_le _
 ·exact vNull_s
theorem vAt_t{l:Row}(h:∀v∈l,v.s.length<=200)(i:Int):(vAt l i).s.length<=200:=by
 unfold vAt
 split
 ·exact vNull_s
 ·rw[List.getD_eq_getElem?_getD]
  cases hx:l[i.toNat]? with
  |none=>exact vNull_s
  |some v=>exact h v (List.mem_of_getElem? hx)
theorem mmL_s(op:Int):∀(l:List Vl)(o:Vl),o.s.length<=200->(∀v∈l,v.s.length<=200)->(mmL op o l).s.length<=200
 |[],o,h,_=>h
 |v::r,o,h,hl=>by
  refine mmL_s op r _ ?_ λx hx=>hl x (by simp[hx])
  unfold mmS
  split
  ·exact hl v (by simp)
  ·exact h
theorem aggV_s{rows:List Row}(h:∀r∈rows,∀v∈r,v.s.length<=200)(op ar:Int):(aggV rows op ar).s.length<=200:=by
 have hn:∀v∈nnF rows ar,v.s.length<=200:=λv hv=>by
  obtain⟨r,hr,rfl⟩:=List.mem_map.1 (List.mem_filter.1 hv).1
  exact vAt_t (h r hr) ar
 unfold aggV
 split
 ·exact vInt_s _
 split
 ·exact vInt_s _
 ·cases hl:nnF rows ar with
  |nil=>exact vNull_s
  |cons v r=>
   rw[hl] at hn
   show(if op=2 then sumE (sumL (0,0) (v::r)) else mmL op v r).s.length<=200
   split
   ·unfold sumE
    dsimp only
    split
    ·exact vNull_s
    ·exact vInt_s _
   ·exact mmL_s op r v (hn v (by simp)) λx hx=>hn x (by simp[hx])
theorem gsK_mem2(ags:List Ag):∀(n:Nat)(l:List Kd),l.length<=n->∀r∈gsK ags l,∃x∈l,∃rs:List Row,(∀y∈rs,∃z∈l,z.rw.vs=y)/\r=oneR x.key rs ags
 |_,[],_,r,h=>by rw[gsK] at h;cases h
 |0,x::r,h,_,_=>by simp at h
 |n+1,x::l,h,r,hr=>by
  simp only[List.length_cons] at h
  rw[gsK] at hr
  rcases List.mem_cons.1 hr with rfl|hr
  ·refine⟨x,by simp,_,λy hy=>?_,rfl⟩
   unfold vsR at hy
   rw[List.map_map] at hy
   obtain⟨z,hz,rfl⟩:=List.mem_map.1 hy
   refine⟨z,?_,rfl⟩
   rcases List.mem_cons.1 hz with rfl|hz
   ·simp
   ·exact List.mem_cons_of_mem _ ((List.takeWhile_prefix _).subset hz)
  ·have hs:=List.dropWhile_suffix (l:=l) (sameK x)
   obtain⟨x',h1,rs,h2,h3⟩:=gsK_mem2 ags n _ (Nat.le_trans hs.length_le (by omega)) r hr
   exact⟨x',List.mem_cons_of_mem _ (hs.subset h1),rs,λy hy=>by
    obtain⟨z,hz,e⟩:=h2 y hy
    exact⟨z,List.mem_cons_of_mem _ (hs.subset hz),e⟩,h3⟩
theorem gsK_one(ags:List Ag){l:List Kd}(h:∀x∈l,x.key=[]):(gsK ags l).length<=1:=by
 cases l with
 |nil=>rw[gsK];exact Nat.zero_le _
 |cons x r=>
  have:r.dropWhile (sameK x)=[]:=by
   have hx:=h x (by simp)
   have hr:∀y∈r,y.key=[]:=λy hy=>h y (by simp[hy])
   clear h
   induction r with
   |nil=>rfl
   |cons y r ih=>
    have hy:sameK x y=true:=by
     unfold sameK
     rw[hx,hr y (by simp)];rfl
    rw[List.dropWhile_cons,if_pos hy]
    exact ih λz hz=>hr z (by simp[hz])
  rw[gsK,this,gsK]
  exact Nat.le_refl _
theorem oneR_g{n:Nat}{key:Row}{rs:List Row}{ags:List Ag}(hk:RwG n key)(h:∀r∈rs,∀v∈r,v.s.length<=200):RwG (n+ags.length) (oneR key rs ags):=by
 refine⟨by rw[oneR_len,hk.1],λv hv=>?_⟩
 unfold oneR at hv
 rcases List.mem_append.1 hv with h1|h1
 ·exact hk.2 v h1
 ·obtain⟨a,_,rfl⟩:=List.mem_map.1 h1
  exact aggV_s h _ _
theorem grpR_g{n:Nat}{keys:List Int}{ags:List Ag}{l:List Rw}(h:∀r∈l,RwG n r.vs):∀r∈grpR keys ags l,RwG (keys.length+ags.length) r:=by
 intro r hr
 unfold grpR at hr
 split at hr
 ·rename_i hc
  rw[Bool.and_eq_true,List.isEmpty_iff,List.isEmpty_iff] at hc
  rw[List.mem_singleton.1 hr,hc.2]
  exact oneR_g (n:=0) ⟨rfl,by simp⟩ (by simp)
 ·obtain⟨x,hx,rs,h1,rfl⟩:=gsK_mem2 ags _ _ (Nat.le_refl _) r hr
  have hk:∀z∈ordK (kdL keys l),∃w∈l,z=⟨pick w.vs keys,w⟩:=λz hz=>by
   obtain⟨w,hw,rfl⟩:=List.mem_map.1 (ordK_mem _ _ (Nat.le_refl _) z hz)
   exact⟨w,hw,rfl⟩
  obtain⟨w,hw,rfl⟩:=hk x hx
  refine oneR_g ⟨by simp[pick],λv hv=>?_⟩ λy hy=>?_
  ·obtain⟨k,_,rfl⟩:=List.mem_map.1 hv
   exact vAt_t (h w hw).2 k
  ·obtain⟨z,hz,rfl⟩:=h1 y hy
   obtain⟨w',hw',rfl⟩:=hk z hz
   exact(h w' hw').2
theorem grpR_len(keys:List Int)(ags:List Ag)(l:List Rw):(keys.length=0->(grpR keys ags l).length<=1)/\(keys.length≠0->(grpR keys ags l).length<=l.length):=by
 have hl:=gsK_len ags _ (ordK (kdL keys l)) (Nat.le_refl _)
 rw[ordK_len _ _ (Nat.le_refl _),show(kdL keys l).length=l.length by simp[kdL]] at hl
 constructor
 ·intro hk
  have hk:=List.length_eq_zero_iff.1 hk
  unfold grpR
  split
  ·exact Nat.le_refl _
  ·refine gsK_one ags λx hx=>?_
   obtain⟨w,hw,rfl⟩:=List.mem_map.1 (ordK_mem _ _ (Nat.le_refl _) x hx)
   rw[hk];rfl
 ·intro hk
  unfold grpR
  split
  ·rename_i hc
   rw[Bool.and_eq_true,List.isEmpty_iff,List.isEmpty_iff] at hc
   rw[hc.2] at hk
   exact absurd rfl hk
  ·exact hl
theorem jnA_len(e:Ex)(B:List Row)(a:Row):(jnA e B a).length<=B.length:=by
 unfold jnA
 have:=List.length_filter_le (trB e) (B.map λb=>a++b)
 rw[List.length_map] at this
 exact this
theorem jnR_len(e:Ex)(left:Bool)(nb:Nat)(B:List Row):∀A:List Row,(jnR e left nb B A).length<=A.length*(if left then max B.length 1 else B.length)
 |[]=>by simp[jnR]
 |a::r=>by
  have ih:=jnR_len e left nb B r
  have h1:=jnA_len e B a
  rw[jnR,List.length_append,List.length_append,List.length_cons,Nat.add_mul,Nat.one_mul]
  have h2:(jnA e B a).length+(jnO left nb a (jnA e B a)).length<=if left then max B.length 1 else B.length:=by
   unfold jnO
   cases left with
   |false=>exact h1
   |true=>
    cases hj:(jnA e B a).isEmpty with
    |true=>
     have:=List.isEmpty_iff.1 hj
     simp[this];omega
    |false=>
     simp
     omega
  omega
theorem jnR_g{e:Ex}{left:Bool}{n m:Nat}{B:List Row}(hB:∀r∈B,RwG m r):∀{A:List Row},(∀r∈A,RwG n r)->∀r∈jnR e left m B A,RwG (n+m) r
 |[],_,r,h=>by cases h
 |a::A,hA,r,h=>by
  have ha:=hA a (by simp)
  rw[jnR] at h
  rcases List.mem_append.1 h with h|h
  ·rcases List.mem_append.1 h with h|h
   ·obtain⟨b,hb,rfl⟩:=List.mem_map.1 (List.mem_filter.1 h).1
    have hb:=hB b hb
    exact⟨by rw[List.length_append,ha.1,hb.1],λv hv=>by
     rcases List.mem_append.1 hv with h|h
     ·exact ha.2 v h
     ·exact hb.2 v h⟩
   ·unfold jnO at h
    split at h
    ·rw[List.mem_singleton.1 h]
     exact⟨by rw[List.length_append,ha.1,List.length_replicate],λv hv=>by
      rcases List.mem_append.1 hv with h|h
      ·exact ha.2 v h
      ·rw[(List.mem_replicate.1 h).2];exact vNull_s⟩
    ·cases h
  ·exact jnR_g hB (λr hr=>hA r (by simp[hr])) r h
theorem dstR_mem:∀(l:List Row)(p:Option Row),∀x∈dstR p l,x∈l
 |[],p,x,h=>by cases p<;>simp[dstR] at h
 |y::r,none,x,h=>by
  rw[dstR] at h
  rcases List.mem_cons.1 h with rfl|h
  ·simp
  ·simp[dstR_mem r _ x h]
 |y::r,some p,x,h=>by
  rw[dstR] at h
  split at h
  ·simp[dstR_mem r _ x h]
  ·rcases List.mem_cons.1 h with rfl|h
   ·simp
   ·simp[dstR_mem r _ x h]
theorem tmN_eq{a b:Int}(ha:0<=a)(hb:0<=b)(h:tmN a b<=2000):tmN a b=a*b:=by
 unfold tmN at h ⊢
 split
 ·rename_i hc;rw[if_pos hc] at h;omega
 ·rfl
structure BgG(b:Bg)(k:Kw)(s:Int):Prop where
 ki:b.ki=k.ks
 len:(b.rows.length:Int)<=s
 row:∀r∈b.rows,RwG k.ks.length r.vs
structure InG(I:List Bg):Prop where
 pos:∀b∈I,0<b.ki.length/\b.ki.length<=48
 row:∀b∈I,b.rows.length<=20/\∀r∈b.rows,fits r.vs b.ki=true
abbrev ksI(I:List Bg):List Kw:=I.map Bg.kw
abbrev rsI(I:List Bg):List Int:=I.map λb=>(b.rows.length:Int)
theorem rw0_mem{l:List Row}{r:Rw}(h:r∈rw0 l):r.vs∈l:=by
 obtain⟨x,hx,rfl⟩:=List.mem_map.1 h
 exact hx
theorem vsR_mem{l:List Rw}{x:Row}(h:x∈vsR l):∃r∈l,r.vs=x:=List.mem_map.1 h
theorem rw0_len(l:List Row):(rw0 l).length=l.length:=by simp[rw0]
theorem vsR_len(l:List Rw):(vsR l).length=l.length:=by simp[vsR]
theorem ord_rw{l:List Row}{n:Nat}(h:∀x∈l,RwG n x):∀r∈rw0 (ordR l),RwG n r.vs:=λr hr=>h _ (ordR_mem _ _ (Nat.le_refl _) _ (rw0_mem hr))
theorem ord_ln(l:List Row):(rw0 (ordR l)).length=l.length:=by rw[rw0_len,ordR_len _ _ (Nat.le_refl _)]
theorem vs_g{l:List Rw}{n:Nat}(h:∀r∈l,RwG n r.vs):∀x∈vsR l,RwG n x:=λx hx=>by
 obtain⟨r,hr,rfl⟩:=vsR_mem hx
 exact h r hr
theorem len2{α:Type}{l:List α}(h:l.length=2):∃p q,l=[p,q]:=by
 match l,h with
 |[p,q],_=>exact⟨p,q,rfl⟩
theorem evB_good{I:List Bg}(hI:InG I):∀p:Pl,p.bk<=1048576->(ndF (ksI I) p).2=0->lgP (rsI I) p<=2000->BgG (evB I p) (ndF (ksI I) p).1 (szP (rsI I) p):=by
  refine Pl.ind λo ni ins ih hb h0 hl=>?_
  have hB:=Pl.bd hb
  obtain⟨k1,k2,k3,k4,k5,k6⟩:=ndF_ok h0
  obtain⟨m1,m2⟩:=lgP_le hl
  have ih':∀p∈ins,BgG (evB I p) (ndF (ksI I) p).1 (szP (rsI I) p):=λp hp=>ih p hp (hB.sub p hp) (k3 p hp) (m2 p hp)
  have hsz:∀p∈ins,0<=szP (rsI I) p:=λp hp=>(szP_bd _ p (hB.sub p hp)).1
  have hs1:szP (rsI I) (.mk o ni ins)=szF (rsI I) o ((szPs (rsI I) ins).getD 0 0) ((szPs (rsI I) ins).getD 1 0):=rfl
  rw[szPs_getD,szPs_getD] at hs1
  rw[hs1] at m1
  rw[k5,hs1,evB_mk]
  clear k5 k6 hs1 hl ih k3 m2 hb h0
  have hops:=inN_case o.op
  rcases hops with ⟨ho,hn⟩|⟨ho,hn⟩|⟨ho,hn⟩|⟨ho,hn⟩|⟨ho,hn⟩|⟨ho,hn⟩|⟨ho,hn⟩|⟨ho,hn⟩|⟨ho,hn⟩|⟨ho,hn⟩|⟨ho,hn⟩|⟨_,hn⟩
  all_goals rw[hn] at k2
  · -- a scan
    have e1:resF (ksI I) o (ins.map λp=>(ndF (ksI I) p).1)=scF (ksI I) o.n:=by simp[resF,ho]
    rw[e1] at k4 ⊢
    unfold scF at k4 ⊢
    by_cases c1:o.n<0\/((ksI I).length:Int)<=o.n
    · rw[if_pos c1] at k4;cases k4
    rw[if_neg c1] at k4 ⊢
    rw[List.length_map] at c1
    obtain⟨b,hbx⟩:∃b,I[o.n.toNat]?=some b:=⟨_,List.getElem?_eq_getElem (by omega)⟩
    have e2:(ksI I).getD o.n.toNat kw0=b.kw:=by rw[List.getD_eq_getElem?_getD,List.getElem?_map,hbx];rfl
    have e3:I.getD o.n.toNat bg0=b:=by rw[List.getD_eq_getElem?_getD,hbx];rfl
    have hbm:=List.mem_of_getElem? hbx
    rw[e2] at k4 ⊢
    cases c2:b.kw.ks.all kdB with
    |false=>rw[c2] at k4;cases k4
    |true=>
      rw[if_pos rfl]
      have e4:szF (rsI I) o ((Option.map (szP (rsI I)) ins[0]?).getD 0) ((Option.map (szP (rsI I)) ins[1]?).getD 0)=(b.rows.length:Int):=by
        unfold szF
        rw[if_pos ho,if_pos ⟨by omega,by rw[List.length_map];omega⟩,List.getD_eq_getElem?_getD,List.getElem?_map,hbx]
        have:=(hI.row b hbm).1
        show min (max (b.rows.length:Int) 0) 1099511627776=_
        omega
      rw[e4]
      unfold evN
      rw[if_pos ho,e3]
      refine⟨rfl,?_,ord_rw (vs_g λr hr=>fits_g ((hI.row b hbm).2 r hr))⟩
      rw[ord_ln,vsR_len];exact Int.le_refl _
  · -- values
    have e1:resF (ksI I) o (ins.map λp=>(ndF (ksI I) p).1)=vaF o.nk o.ki o.rows:=by simp[resF,ho]
    rw[e1] at k4 ⊢
    unfold vaF at k4 ⊢
    split at k4
    · cases k4
    split at k4
    · split at k4
      · rename_i c1 c2 c3
        rw[if_neg c1,if_pos c2,if_pos c3]
        have e4:szF (rsI I) o ((Option.map (szP (rsI I)) ins[0]?).getD 0) ((Option.map (szP (rsI I)) ins[1]?).getD 0)=(o.rows.length:Int):=by simp[szF,ho]
        rw[e4]
        have e5:evN I o (ins.map (evB I))=⟨o.nk,o.ki,false,rw0 (ordR (vsR o.rows))⟩:=by simp[evN,ho]
        rw[e5]
        refine⟨rfl,?_,ord_rw (vs_g λr hr=>fits_g (List.all_eq_true.1 c3 r hr))⟩
        rw[ord_ln,vsR_len];exact Int.le_refl _
      · cases k4
    · cases k4
  iterate 4
    · obtain⟨p,hp⟩:∃p,ins=[p]:=List.length_eq_one_iff.1 (by omega)
      subst hp
      have hg:=ih' p (by simp)
      have hz:=hsz p (by simp)
      simp only[List.map_cons,List.map_nil,List.getElem?_cons_zero,List.getElem?_cons_succ,List.getElem?_nil,Option.map_some,Option.map_none,Option.getD_some,Option.getD_none] at *
      obtain⟨a,hae⟩:∃a,a=evB I p:=⟨_,rfl⟩
      obtain⟨k,hke⟩:∃k,k=(ndF (ksI I) p).1:=⟨_,rfl⟩
      obtain⟨s,hse⟩:∃s,s=szP (rsI I) p:=⟨_,rfl⟩
      rw[<- hae,<- hke,<- hse] at hg
      rw[<- hse] at m1 hz
      rw[<- hke] at k4
      rw[<- hae,<- hke,<- hse]
      obtain⟨g1,g2,g3⟩:=hg
      simp[resF,ho] at k4
      simp[resF,evN,szF,ho]
      first
        |exact⟨g1,by rw[ord_ln];have:=List.length_filter_le (trB o.pred) (vsR a.rows);rw[vsR_len] at this;omega,ord_rw λx hx=>vs_g g3 x (List.mem_filter.1 hx).1⟩
        |exact⟨by rw[g1],by rw[ord_ln,List.length_map,vsR_len];exact g2,ord_rw λx hx=>by
            obtain⟨y,hy,rfl⟩:=List.mem_map.1 hx
            exact⟨by rw[prjF_len k4];simp[vlR],λv hv=>by
              obtain⟨e,_,rfl⟩:=List.mem_map.1 hv
              exact ev_s _ _⟩⟩
        |exact⟨g1,by rw[rw0_len];have:=dstR_len (ordR (vsR a.rows)) none;rw[ordR_len _ _ (Nat.le_refl _),vsR_len] at this;omega,λr hr=>vs_g g3 _ (ordR_mem _ _ (Nat.le_refl _) _ (dstR_mem _ _ _ (rw0_mem hr)))⟩
        |exact⟨by rw[g1],by
            have h1:=grpR_len o.keys o.aggs a.rows
            rw[ord_ln]
            by_cases hk:o.keys=[]
            · rw[if_pos hk];have:=h1.1 (by rw[hk];rfl);omega
            · rw[if_neg hk];have:=h1.2 (λh=>hk (List.length_eq_zero_iff.1 h));omega,ord_rw λx hx=>by
            rw[(grpF_ok k4).1];exact grpR_g g3 x hx⟩
  iterate 5
    · obtain⟨p,q,hp⟩:∃p q,ins=[p,q]:=len2 (by omega)
      subst hp
      have hg:=ih' p (by simp)
      have hz:=hsz p (by simp)
      have hg':=ih' q (by simp)
      have hz':=hsz q (by simp)
      simp only[List.map_cons,List.map_nil,List.getElem?_cons_zero,List.getElem?_cons_succ,List.getElem?_nil,Option.map_some,Option.map_none,Option.getD_some,Option.getD_none] at *
      obtain⟨a,hae⟩:∃a,a=evB I p:=⟨_,rfl⟩
      obtain⟨k,hke⟩:∃k,k=(ndF (ksI I) p).1:=⟨_,rfl⟩
      obtain⟨s,hse⟩:∃s,s=szP (rsI I) p:=⟨_,rfl⟩
      obtain⟨b,hbe⟩:∃a,a=evB I q:=⟨_,rfl⟩
      obtain⟨l,hle⟩:∃k,k=(ndF (ksI I) q).1:=⟨_,rfl⟩
      obtain⟨t,hte⟩:∃s,s=szP (rsI I) q:=⟨_,rfl⟩
      rw[<- hae,<- hke,<- hse] at hg
      rw[<- hbe,<- hle,<- hte] at hg'
      rw[<- hse,<- hte] at m1
      rw[<- hse] at hz
      rw[<- hte] at hz'
      rw[<- hke,<- hle] at k4
      rw[<- hae,<- hke,<- hse,<- hbe,<- hle,<- hte]
      obtain⟨g1,g2,g3⟩:=hg
      obtain⟨g1',g2',g3'⟩:=hg'
      clear hae hke hse hbe hle hte ih' hsz hB
      simp[resF,ho] at k4
      simp[szF,ho] at m1
      simp[resF,evN,szF,ho]
      first
        |exact⟨by rw[g1,g1'],by
            rw[tmN_eq hz hz' m1,ord_ln]
            have:=jnR_len o.pred false b.ki.length (vsR b.rows) (vsR a.rows)
            rw[vsR_len,vsR_len] at this
            have h2:(a.rows.length:Int)*b.rows.length<=s*t:=Int.mul_le_mul g2 g2' (by omega) hz
            have h3:((a.rows.length*b.rows.length:Nat):Int)=(a.rows.length:Int)*b.rows.length:=Int.natCast_mul _ _
            have h4:(jnR o.pred false b.ki.length (vsR b.rows) (vsR a.rows)).length<=a.rows.length*b.rows.length:=this
            omega,ord_rw λx hx=>by
            rw[show(k.ks++l.ks).length=k.ks.length+l.ks.length by simp]
            rw[g1'] at hx
            exact jnR_g (vs_g g3') (vs_g g3) x hx⟩
        |exact⟨by rw[g1,g1'],by
            have ht1:0<=max t 1:=by omega
            rw[tmN_eq hz ht1 m1,ord_ln]
            have:=jnR_len o.pred true b.ki.length (vsR b.rows) (vsR a.rows)
            rw[vsR_len,vsR_len] at this
            have h2:(a.rows.length:Int)*(max b.rows.length 1:Nat)<=s*max t 1:=Int.mul_le_mul g2 (by omega) (by omega) hz
            have h3:((a.rows.length*max b.rows.length 1:Nat):Int)=(a.rows.length:Int)*(max b.rows.length 1:Nat):=Int.natCast_mul _ _
            have h4:(jnR o.pred true b.ki.length (vsR b.rows) (vsR a.rows)).length<=a.rows.length*max b.rows.length 1:=this
            omega,ord_rw λx hx=>by
            rw[show(k.ks++l.ks).length=k.ks.length+l.ks.length by simp]
            rw[g1'] at hx
            exact jnR_g (vs_g g3') (vs_g g3) x hx⟩
        | (by_cases c1 : k.ks.length = l.ks.length
           · rw[if_pos c1] at k4 ⊢
             by_cases c2:k.ks=l.ks
             · rw[if_pos c2] at k4 ⊢
               first
                 |exact⟨g1,by
                     rw[ord_ln,List.length_append,vsR_len,vsR_len]
                     have hmm:mostN=1099511627776:=rfl
                     omega,ord_rw λx hx=>by
                     rcases List.mem_append.1 hx with h|h
                     · exact vs_g g3 x h
                     · have:=vs_g g3' x h;rw[<- c2] at this;exact this⟩
                 |exact⟨g1,by
                     rw[rw0_len]
                     have:=setR_len exF (λn m=>by unfold exF;omega) (vsR a.rows) (vsR b.rows)
                     rw[vsR_len] at this
                     omega,λr hr=>vs_g g3 _ (setR_mem _ _ _ _ (rw0_mem hr))⟩
                 |exact⟨g1,by
                     rw[rw0_len]
                     have h1:=setR_len inF (λn m=>by unfold inF;omega) (vsR a.rows) (vsR b.rows)
                     have h2:=setR_len2 inF (λn m=>by unfold inF;omega) (vsR a.rows) (vsR b.rows)
                     rw[vsR_len] at h1 h2
                     omega,λr hr=>vs_g g3 _ (setR_mem _ _ _ _ (rw0_mem hr))⟩
             · rw[if_neg c2] at k4;cases k4
           · rw[if_neg c1] at k4;cases k4)
  · omega
end Go.Proofs
end
section
namespace Go.Proofs
open Go.Bi
abbrev Bg.av(b:Bg):AV:=eBag b.kd b.rd
theorem RwG.ok{n:Nat}{r:Row}(h:RwG n r)(hn:n<=48):RwOk r:=⟨by rw[h.1];omega,λv hv=>by have:=h.2 v hv;omega⟩
theorem ng_sl(l:List Row):ng false (eRs (rw0 l))=.sl (rD l):=by rw[eRs_rw0];rfl
theorem ng_slD(l:List Row):ng true (eRs (rw0 l))=slD (rD l).isEmpty (rD l):=by rw[eRs_rw0,slD_ng]
theorem C.r21_Eval{I:List Bg}(hI:InG I)(hIl:I.length<=4194304)(din:D)(hin:SlD din (eBs I)):∀p:Pl,p.bk<=1048576->(ndF (ksI I) p).2=0->lgP (rsI I) p<=2000->
    Pure Tryz.prog N.bt_ref21_Eval [p.av,.d din] (evB I p).av:=by
  refine Pl.ind λo ni ins ih hb h0 hl=>?_
  have hB:=Pl.bd hb
  have hG:=evB_good hI (.mk o ni ins) hb h0 hl
  obtain⟨k1,k2,k3,k4,k5,k6⟩:=ndF_ok h0
  obtain⟨m1,m2⟩:=lgP_le hl
  have ih':∀p∈ins,Bi.Pure Tryz.prog N.bt_ref21_Eval [p.av,.d din] (evB I p).av:=λp hp=>ih p hp (hB.sub p hp) (k3 p hp) (m2 p hp)
  have gd:∀p∈ins,BgG (evB I p) (ndF (ksI I) p).1 2000:=λp hp=>by
    have:=evB_good hI p (hB.sub p hp) (k3 p hp) (m2 p hp)
    have h2:=(lgP_le (rs:=rsI I) (o:=o) (ni:=ni) (ins:=ins) hl)
    obtain⟨po,pn,pin⟩:=p
    have h3:=(lgP_le (m2 _ hp)).1
    exact⟨this.ki,by have:=this.len;omega,this.row⟩
  have gl:∀p:Pl,(ndF (ksI I) p).1.ks.length<=48:=λp=>ndF_len _ p
  have hGl:=hG.len
  rw[evB_mk] at hGl ⊢
  clear k5 k6 ih k3 m2 h0 hl
  obtain⟨xo,xn,xv,xm,xd,hav,hpa⟩:=Pl.cuto o ni ins
  rw[hav]
  clear hav hb hG
  obtain⟨op,n,nk,ki,nr,rows,pred,nx,xs,ny,keys,na,aggs⟩:=o
  have hki:=hB.ki
  have hrl:=hB.nr
  have hrb:=hB.row
  have hpb:=hB.pred
  have hxl:=hB.xs
  have hxb:=hB.xb
  have hyl:=hB.keys
  have hal:=hB.aggs
  clear hB
  dsimp only at hki hrl hrb hpb hxl hxb hyl hal hpa k1 k2
  obtain⟨dk,e1⟩:∃d,d=ng nk (eIs ki):=⟨_,rfl⟩
  obtain⟨dr,e2⟩:∃d,d=ng nr (eRs rows):=⟨_,rfl⟩
  obtain⟨dx,e3⟩:∃d,d=ng nx (xL xs):=⟨_,rfl⟩
  obtain⟨dy,e4⟩:∃d,d=ng ny (eIs keys):=⟨_,rfl⟩
  obtain⟨da,e5⟩:∃d,d=ng na (eAs aggs):=⟨_,rfl⟩
  obtain⟨di,e6⟩:∃d,d=ng ni (pL ins):=⟨_,rfl⟩
  show Bi.Pure Tryz.prog N.bt_ref21_Eval [ePl op n (ng nk (eIs ki)) (ng nr (eRs rows)) xo xn xv xm xd (ng nx (xL xs)) (ng ny (eIs keys)) (ng na (eAs aggs)) (ng ni (pL ins)),.d din] _
  rw[<- e1,<- e2,<- e3,<- e4,<- e5,<- e6]
  have sx:SlD dx (xL xs):=by rw[e3];exact sld_ng
  have sy:SlD dy (eIs keys):=by rw[e4];exact sld_ng
  have sa:SlD da (eAs aggs):=by rw[e5];exact sld_ng
  have hdi:SlD di (pL ins):=by rw[e6];exact sld_ng
  clear e3 e4 e5 e6
  have l1:=pL_len ins
  have mm1:=pL_mem ins
  have hg0:∀p,ins[0]?=some p->(pL ins)[(0:Int).toNat]?=some p.ds:=λp h=>pL_get h
  have hg1:∀p,ins[1]?=some p->(pL ins)[(1:Int).toNat]?=some p.ds:=λp h=>pL_get h
  have hops:=inN_case op
  rcases hops with ⟨rfl,hn⟩|⟨rfl,hn⟩|⟨rfl,hn⟩|⟨rfl,hn⟩|⟨rfl,hn⟩|⟨rfl,hn⟩|⟨rfl,hn⟩|⟨rfl,hn⟩|⟨rfl,hn⟩|⟨rfl,hn⟩|⟨rfl,hn⟩|⟨_,hn⟩
  all_goals rw[hn] at k2
  · -- a scan
    have k4:(scF (ksI I) n).2=0:=k4
    unfold scF at k4
    by_cases c1:n<0\/((ksI I).length:Int)<=n
    · rw[if_pos c1] at k4;cases k4
    rw[List.length_map] at c1
    obtain⟨b,hbx⟩:∃b,I[n.toNat]?=some b:=⟨_,List.getElem?_eq_getElem (by omega)⟩
    have e3:I.getD n.toNat bg0=b:=by rw[List.getD_eq_getElem?_getD,hbx];rfl
    have hbm:=List.mem_of_getElem? hbx
    have hS:=C.r8_Sort b.rows (by have:=(hI.row b hbm).1;omega) (λr hr=>by have:=fits_g ((hI.row b hbm).2 r hr);have h2:=hI.pos b hbm;rw[this.1];omega) b.rd sld_ng
    have hg:=eBs_get hbx
    have il:=eBs_len I
    have im:=eBs_mem I
    show Bi.Pure Tryz.prog N.bt_ref21_Eval [ePl 1 n dk dr xo xn xv xm xd dx dy da di,.d din] (eBag (ng (I.getD n.toNat bg0).nk (eIs (I.getD n.toNat bg0).ki)) (ng false (eRs (rw0 (ordR (vsR (I.getD n.toNat bg0).rows))))))
    rw[e3,ng_sl]
    obtain⟨kd,hkd⟩:∃d,d=b.kd:=⟨_,rfl⟩
    obtain⟨rd,hrd⟩:∃d,d=b.rd:=⟨_,rfl⟩
    rw[<- hkd,<- hrd] at hg
    rw[<- hrd] at hS
    rw[show ng b.nk (eIs b.ki)=kd from hkd.symm]
    obtain⟨Z,hZ⟩:∃z,z=rD (ordR (vsR b.rows)):=⟨_,rfl⟩
    rw[<- hZ] at hS ⊢
    obtain⟨es,hes⟩:∃z,z=eBs I:=⟨_,rfl⟩
    rw[<- hes] at hin il im hg
    have h1:n<es.length:=by omega
    clear hZ hkd hrd e3 hes hbx ih' gd gl hGl hg0 hg1 k4 hbm
    refine F.bt_ref21_Eval.go mixed rfl ?_
    repeat' first|refine st ?_|((with_reducible apply go_i);conv=>whnf)|refine⟨λ_=>?_,λ_=>?_⟩|fail
    all_goals rfl
  · -- values
    have hS:=C.r8_Sort rows (by omega) (λr hr=>by have:=(hrb r hr).1;omega) dr (by rw[e2];exact sld_ng)
    show Bi.Pure Tryz.prog N.bt_ref21_Eval [ePl 2 n dk dr xo xn xv xm xd dx dy da di,.d din] (eBag (ng nk (eIs ki)) (ng false (eRs (rw0 (ordR (vsR rows))))))
    rw[ng_sl,<- e1]
    obtain⟨Z,hZ⟩:∃z,z=rD (ordR (vsR rows)):=⟨_,rfl⟩
    rw[<- hZ] at hS ⊢
    clear hZ e1 e2 ih' gd gl hGl hg0 hg1 k4 hrb
    refine F.bt_ref21_Eval.go mixed rfl ?_
    repeat' first|refine st ?_|((with_reducible apply go_i);conv=>whnf)|refine⟨λ_=>?_,λ_=>?_⟩|fail
    all_goals rfl
  iterate 4
    · obtain⟨p,hp⟩:∃p,ins=[p]:=List.length_eq_one_iff.1 (by omega)
      subst hp
      have hP:=ih' p (by simp)
      obtain⟨g1,g2,g3⟩:=gd p (by simp)
      have hg:=hg0 p rfl
      have gk:=gl p
      obtain⟨op',n',dk',dr',xo',xn',xv',xm',xd',dx',dy',da',di',c1,c2⟩:=Pl.cut p
      rw[c1] at hg
      rw[c2] at hP
      obtain⟨k,hk⟩:∃k,k=(ndF (ksI I) p).1:=⟨_,rfl⟩
      simp only[List.map_cons,List.map_nil] at hGl k4 ⊢
      rw[<- hk] at g1 g3 gk k4
      obtain⟨a,ha⟩:∃a,a=evB I p:=⟨_,rfl⟩
      rw[<- ha] at hP g1 g2 g3 hGl ⊢
      have hok:∀r∈a.rows,RwOk r.vs:=λr hr=>(g3 r hr).ok gk
      have hr:∀r∈a.rows,r.vs.length<=4194304:=λr hr=>by have:=(hok r hr).1;omega
      have hF:=C.r21_Filter a.kd a.rows (by omega) hok a.rd sld_ng pred hpb
      have hJ:=C.r21_Project a.ki (by rw[g1];omega) a.kd sld_ng a.rows (by omega) hok a.rd sld_ng xs hxl hxb dx sx
      have hD:=C.r21_Distinct a.kd a.rows (by omega) hr a.rd sld_ng
      have hQ:=C.r21_Group a.ki (by rw[g1];omega) a.kd sld_ng a.rows (by omega) hok a.rd sld_ng keys hyl dy sy aggs hal
      rw[hpa] at hF
      rw[slD_ng] at hJ
      rw[<- ng_sl] at hF hJ hD
      have hP:Bi.Pure Tryz.prog N.bt_ref21_Eval [ePl op' n' dk' dr' xo' xn' xv' xm' xd' dx' dy' da' di',.d din] (eBag a.kd a.rd):=hP
      obtain⟨kd,hkd⟩:∃d,d=a.kd:=⟨_,rfl⟩
      obtain⟨rd,hrd⟩:∃d,d=a.rd:=⟨_,rfl⟩
      rw[<- hkd,<- hrd] at hP hF hJ hD hQ
      have h1:(0:Int)<(pL [p]).length:=by omega
      obtain⟨es,hes⟩:∃z,z=pL [p]:=⟨_,rfl⟩
      rw[<- hes] at hdi l1 mm1 hg h1
      first
        | (have k4 : prE k.ks pred = 0 := k4
           clear k4 hJ hD hQ
           show Bi.Pure Tryz.prog N.bt_ref21_Eval [ePl 3 n dk dr xo xn xv xm xd dx dy da di,.d din] (eBag (ng a.nk (eIs a.ki)) (ng false (eRs (rw0 (ordR ((vsR a.rows).filter (trB pred)))))))
           rw[show ng a.nk (eIs a.ki)=kd from hkd.symm]
           obtain⟨Z,hZ⟩:∃z,z=ng false (eRs (rw0 (ordR ((vsR a.rows).filter (trB pred))))):=⟨_,rfl⟩
           rw[<- hZ] at hF ⊢
           clear hZ hkd hrd hes ih' gd gl hGl hg0 hg1 hr hok g1 g2 g3 c1 c2 hk ha
           refine F.bt_ref21_Eval.go mixed rfl ?_
           repeat' first|refine st ?_|((with_reducible apply go_i);conv=>whnf)|refine⟨λ_=>?_,λ_=>?_⟩|fail
           all_goals rfl)
        | (have k4 : (prjF k.ks xs).2 = 0 := k4
           clear k4 hF hD hQ
           show Bi.Pure Tryz.prog N.bt_ref21_Eval [ePl 4 n dk dr xo xn xv xm xd dx dy da di,.d din] (eBag (ng true (eIs (prjF a.ki xs).1)) (ng false (eRs (rw0 (ordR ((vsR a.rows).map (vlR xs)))))))
           obtain⟨Z,hZ⟩:∃z,z=ng false (eRs (rw0 (ordR ((vsR a.rows).map (vlR xs))))):=⟨_,rfl⟩
           obtain⟨Y,hY⟩:∃z,z=ng true (eIs (prjF a.ki xs).1):=⟨_,rfl⟩
           rw[<- hZ,<- hY] at hJ ⊢
           clear hZ hY hkd hrd hes ih' gd gl hGl hg0 hg1 hr hok g1 g2 g3 c1 c2 hk ha
           refine F.bt_ref21_Eval.go mixed rfl ?_
           repeat' first|refine st ?_|((with_reducible apply go_i);conv=>whnf)|refine⟨λ_=>?_,λ_=>?_⟩|fail
           all_goals rfl)
        | (have k4 : (grpF k.ks keys aggs).2 = 0 := k4
           have hQ:=hQ (λx hx r hr=>by rw[(g3 r hr).1];exact(grpF_ok k4).2 x hx) da sa
           clear k4 hF hD hJ
           show Bi.Pure Tryz.prog N.bt_ref21_Eval [ePl 11 n dk dr xo xn xv xm xd dx dy da di,.d din] (eBag (ng true (eIs (grpF a.ki keys aggs).1)) (ng false (eRs (rw0 (ordR (grpR keys aggs a.rows))))))
           rw[slD_ng,<- ng_sl] at hQ
           obtain⟨Z,hZ⟩:∃z,z=ng false (eRs (rw0 (ordR (grpR keys aggs a.rows)))):=⟨_,rfl⟩
           obtain⟨Y,hY⟩:∃z,z=ng true (eIs (grpF a.ki keys aggs).1):=⟨_,rfl⟩
           rw[<- hZ,<- hY] at hQ ⊢
           clear hZ hY hkd hrd hes ih' gd gl hGl hg0 hg1 hr hok g1 g2 g3 c1 c2 hk ha
           refine F.bt_ref21_Eval.go mixed rfl ?_
           repeat' first|refine st ?_|((with_reducible apply go_i);conv=>whnf)|refine⟨λ_=>?_,λ_=>?_⟩|fail
           all_goals rfl)
        | (clear k4 hF hJ hQ
           show Bi.Pure Tryz.prog N.bt_ref21_Eval [ePl 10 n dk dr xo xn xv xm xd dx dy da di,.d din] (eBag (ng a.nk (eIs a.ki)) (ng false (eRs (rw0 (dstR none (ordR (vsR a.rows)))))))
           rw[show ng a.nk (eIs a.ki)=kd from hkd.symm]
           obtain⟨Z,hZ⟩:∃z,z=ng false (eRs (rw0 (dstR none (ordR (vsR a.rows))))):=⟨_,rfl⟩
           rw[<- hZ] at hD ⊢
           clear hZ hkd hrd hes ih' gd gl hGl hg0 hg1 hr hok g1 g2 g3 c1 c2 hk ha
           refine F.bt_ref21_Eval.go mixed rfl ?_
           repeat' first|refine st ?_|((with_reducible apply go_i);conv=>whnf)|refine⟨λ_=>?_,λ_=>?_⟩|fail
           all_goals rfl)
  iterate 5
    · obtain⟨p,q,hp⟩:∃p q,ins=[p,q]:=len2 (by omega)
      subst hp
      have hP:=ih' p (by simp)
      have hP':=ih' q (by simp)
      obtain⟨g1,g2,g3⟩:=gd p (by simp)
      obtain⟨g1',g2',g3'⟩:=gd q (by simp)
      have hg:=hg0 p rfl
      have hg':=hg1 q rfl
      have gk:=gl p
      have gk':=gl q
      obtain⟨op',n',dk',dr',xo',xn',xv',xm',xd',dx',dy',da',di',c1,c2⟩:=Pl.cut p
      obtain⟨op1,n1,dk1,dr1,xo1,xn1,xv1,xm1,xd1,dx1,dy1,da1,di1,c3,c4⟩:=Pl.cut q
      rw[c1] at hg
      rw[c2] at hP
      rw[c3] at hg'
      rw[c4] at hP'
      obtain⟨k,hk⟩:∃k,k=(ndF (ksI I) p).1:=⟨_,rfl⟩
      obtain⟨k',hk'⟩:∃k,k=(ndF (ksI I) q).1:=⟨_,rfl⟩
      simp only[List.map_cons,List.map_nil] at hGl ⊢
      rw[<- hk] at g1 g3 gk
      rw[<- hk'] at g1' g3' gk'
      obtain⟨a,ha⟩:∃a,a=evB I p:=⟨_,rfl⟩
      obtain⟨b,hb⟩:∃a,a=evB I q:=⟨_,rfl⟩
      rw[<- ha] at hP g1 g2 g3
      rw[<- hb] at hP' g1' g2' g3'
      rw[<- ha,<- hb] at hGl ⊢
      have hok:∀r∈a.rows,RwOk r.vs:=λr hr=>(g3 r hr).ok gk
      have hok':∀r∈b.rows,RwOk r.vs:=λr hr=>(g3' r hr).ok gk'
      have hr:∀r∈a.rows,r.vs.length<=4194304:=λr hr=>by have:=(hok r hr).1;omega
      have hr':∀r∈b.rows,r.vs.length<=4194304:=λr hr=>by have:=(hok' r hr).1;omega
      have hw:∀r∈a.rows,r.vs.length<=4096/\∀v∈r.vs,v.s.length<=1048576:=λr hr=>⟨by rw[(g3 r hr).1];omega,(hok r hr).2⟩
      have hw':∀r∈b.rows,r.vs.length<=4096/\∀v∈r.vs,v.s.length<=1048576:=λr hr=>⟨by rw[(g3' r hr).1];omega,(hok' r hr).2⟩
      have hJ:=λleft=>C.r21_Join a.ki b.ki (by rw[g1,g1'];omega) (by rw[g1'];omega) a.kd b.kd sld_ng sld_ng a.rows b.rows (by omega) (by omega) hw hw' a.rd b.rd sld_ng sld_ng pred hpb left
      have hU:=C.r21_Union a.kd b.kd a.rows b.rows (by omega) hr hr' a.rd b.rd sld_ng sld_ng
      have hE:=C.r21_Except a.kd b.kd a.rows b.rows (by omega) (by omega) hr hr' a.rd b.rd sld_ng sld_ng
      have hN:=C.r21_Intersect a.kd b.kd a.rows b.rows (by omega) (by omega) hr hr' a.rd b.rd sld_ng sld_ng
      rw[hpa] at hJ
      rw[<- ng_sl] at hU
      rw[<- ng_slD] at hE hN
      have hP:Bi.Pure Tryz.prog N.bt_ref21_Eval [ePl op' n' dk' dr' xo' xn' xv' xm' xd' dx' dy' da' di',.d din] (eBag a.kd a.rd):=hP
      have hP':Bi.Pure Tryz.prog N.bt_ref21_Eval [ePl op1 n1 dk1 dr1 xo1 xn1 xv1 xm1 xd1 dx1 dy1 da1 di1,.d din] (eBag b.kd b.rd):=hP'
      obtain⟨kd,hkd⟩:∃d,d=a.kd:=⟨_,rfl⟩
      obtain⟨rd,hrd⟩:∃d,d=a.rd:=⟨_,rfl⟩
      obtain⟨kd',hkd'⟩:∃d,d=b.kd:=⟨_,rfl⟩
      obtain⟨rd',hrd'⟩:∃d,d=b.rd:=⟨_,rfl⟩
      rw[<- hkd,<- hrd] at hP
      rw[<- hkd',<- hrd'] at hP'
      rw[<- hkd,<- hrd,<- hkd',<- hrd'] at hJ hU hE hN
      have h1:(0:Int)<(pL [p,q]).length:=by omega
      have h2:(1:Int)<(pL [p,q]).length:=by omega
      obtain⟨es,hes⟩:∃z,z=pL [p,q]:=⟨_,rfl⟩
      rw[<- hes] at hdi l1 mm1 hg hg' h1 h2
      clear c1 c2 c3 c4 hk hk' ha hb hr hr' hok hok' hw hw' gd gl ih' hg0 hg1 hes
      first
        | (show Bi.Pure Tryz.prog N.bt_ref21_Eval [ePl 5 n dk dr xo xn xv xm xd dx dy da di, .d din] (eBag (ng true (eIs (a.ki ++ b.ki))) (ng false (eRs (rw0 (ordR (jnR pred false b.ki.length (vsR b.rows) (vsR a.rows)))))))
           have hln:(jnR pred false b.ki.length (vsR b.rows) (vsR a.rows)).length<=4194304:=by
             have e:((rw0 (ordR (jnR pred false b.ki.length (vsR b.rows) (vsR a.rows)))).length:Int)<=2000:=Int.le_trans hGl m1
             rw[ord_ln] at e
             omega
           have hJ:=hJ false hln
           rw[slD_ng,<- ng_sl] at hJ
           obtain⟨Z,hZ⟩:∃z,z=ng false (eRs (rw0 (ordR (jnR pred false b.ki.length (vsR b.rows) (vsR a.rows))))):=⟨_,rfl⟩
           obtain⟨Y,hY⟩:∃z,z=ng true (eIs (a.ki++b.ki)):=⟨_,rfl⟩
           rw[<- hZ,<- hY] at hJ ⊢
           clear hZ hY hkd hrd hkd' hrd' hGl hU hE hN g1 g2 g3 g1' g2' g3' k4 hln
           refine F.bt_ref21_Eval.go mixed rfl ?_
           repeat' first|refine st ?_|((with_reducible apply go_i);conv=>whnf)|refine⟨λ_=>?_,λ_=>?_⟩|fail
           all_goals rfl)
        | (show Bi.Pure Tryz.prog N.bt_ref21_Eval [ePl 6 n dk dr xo xn xv xm xd dx dy da di, .d din] (eBag (ng true (eIs (a.ki ++ b.ki))) (ng false (eRs (rw0 (ordR (jnR pred true b.ki.length (vsR b.rows) (vsR a.rows)))))))
           have hln:(jnR pred true b.ki.length (vsR b.rows) (vsR a.rows)).length<=4194304:=by
             have e:((rw0 (ordR (jnR pred true b.ki.length (vsR b.rows) (vsR a.rows)))).length:Int)<=2000:=Int.le_trans hGl m1
             rw[ord_ln] at e
             omega
           have hJ:=hJ true hln
           rw[slD_ng,<- ng_sl] at hJ
           obtain⟨Z,hZ⟩:∃z,z=ng false (eRs (rw0 (ordR (jnR pred true b.ki.length (vsR b.rows) (vsR a.rows))))):=⟨_,rfl⟩
           obtain⟨Y,hY⟩:∃z,z=ng true (eIs (a.ki++b.ki)):=⟨_,rfl⟩
           rw[<- hZ,<- hY] at hJ ⊢
           clear hZ hY hkd hrd hkd' hrd' hGl hU hE hN g1 g2 g3 g1' g2' g3' k4 hln
           refine F.bt_ref21_Eval.go mixed rfl ?_
           repeat' first|refine st ?_|((with_reducible apply go_i);conv=>whnf)|refine⟨λ_=>?_,λ_=>?_⟩|fail
           all_goals rfl)
        | (show Bi.Pure Tryz.prog N.bt_ref21_Eval [ePl 7 n dk dr xo xn xv xm xd dx dy da di, .d din] (eBag (ng a.nk (eIs a.ki)) (ng false (eRs (rw0 (ordR (vsR a.rows ++ vsR b.rows))))))
           rw[show ng a.nk (eIs a.ki)=kd from hkd.symm]
           obtain⟨Z,hZ⟩:∃z,z=ng false (eRs (rw0 (ordR (vsR a.rows++vsR b.rows)))):=⟨_,rfl⟩
           rw[<- hZ] at hU ⊢
           clear hZ hkd hrd hkd' hrd' hGl hJ hE hN g1 g2 g3 g1' g2' g3' k4
           refine F.bt_ref21_Eval.go mixed rfl ?_
           repeat' first|refine st ?_|((with_reducible apply go_i);conv=>whnf)|refine⟨λ_=>?_,λ_=>?_⟩|fail
           all_goals rfl)
        | (show Bi.Pure Tryz.prog N.bt_ref21_Eval [ePl 8 n dk dr xo xn xv xm xd dx dy da di, .d din] (eBag (ng a.nk (eIs a.ki)) (ng true (eRs (rw0 (setR exF (vsR a.rows) (vsR b.rows))))))
           rw[show ng a.nk (eIs a.ki)=kd from hkd.symm]
           obtain⟨Z,hZ⟩:∃z,z=ng true (eRs (rw0 (setR exF (vsR a.rows) (vsR b.rows)))):=⟨_,rfl⟩
           rw[<- hZ] at hE ⊢
           clear hZ hkd hrd hkd' hrd' hGl hJ hU hN g1 g2 g3 g1' g2' g3' k4
           refine F.bt_ref21_Eval.go mixed rfl ?_
           repeat' first|refine st ?_|((with_reducible apply go_i);conv=>whnf)|refine⟨λ_=>?_,λ_=>?_⟩|fail
           all_goals rfl)
        | (show Bi.Pure Tryz.prog N.bt_ref21_Eval [ePl 9 n dk dr xo xn xv xm xd dx dy da di, .d din] (eBag (ng a.nk (eIs a.ki)) (ng true (eRs (rw0 (setR inF (vsR a.rows) (vsR b.rows))))))
           rw[show ng a.nk (eIs a.ki)=kd from hkd.symm]
           obtain⟨Z,hZ⟩:∃z,z=ng true (eRs (rw0 (setR inF (vsR a.rows) (vsR b.rows)))):=⟨_,rfl⟩
           rw[<- hZ] at hN ⊢
           clear hZ hkd hrd hkd' hrd' hGl hJ hU hE g1 g2 g3 g1' g2' g3' k4
           refine F.bt_ref21_Eval.go mixed rfl ?_
           repeat' first|refine st ?_|((with_reducible apply go_i);conv=>whnf)|refine⟨λ_=>?_,λ_=>?_⟩|fail
           all_goals rfl)
  · omega
end Go.Proofs
end
section
namespace Go.Proofs
open Go.Bi
theorem eKw_take{I:List Bg}{i:Nat}{b:Bg}(h:I[i]?=some b):eKw (ksI (I.take (i+1)))=eKw (ksI (I.take i))++[[b.kd]]:=by
 rw[List.take_add_one,h];simp[eKw,ksI]
theorem eRn_take{I:List Bg}{i:Nat}{b:Bg}(h:I[i]?=some b):eIs (rsI (I.take (i+1)))=eIs (rsI (I.take i))++[[eI (b.rows.length:Nat)]]:=by
 rw[List.take_add_one,h];simp[eIs,rsI]
theorem C.law48_kinds(I:List Bg)(hI:I.length<=4194304)(din:D)(hin:SlD din (eBs I)):Pure Tryz.prog N.bt_law48_kinds [.d din] (.d (.sl (eKw (ksI I)))):=by
 have l1:=eBs_len I
 have m1:=eBs_mem I
 have g1:=λi b=>@eBs_get I i b
 obtain⟨es,hes⟩:∃z,z=eBs I:=⟨_,rfl⟩
 rw[<- hes] at hin l1 m1 g1
 clear hes
 refine F.bt_law48_kinds.go mixed rfl ?_
 repeat' first|refine st ?_|((with_reducible apply go_i);conv=>whnf)|refine⟨λ_=>?_,λ_=>?_⟩|fail
 refine x_loop1 mixed Lt.bt_law48_kinds_l0 Lk.bt_law48_kinds_l0 (λ(i:Nat)=>[.arr 0 (eKw (ksI (I.take i))).length,.d (eI i)]) (λi=>[.arr (eKw (ksI (I.take i))) 1 0 false]) (λi=>i<=I.length) (λi=>I.length-i) 0 rfl rfl rfl rfl (λ_ _=>⟨rfl,rfl⟩) rfl (by omega) ?_
 repeat' first|refine st ?_|((with_reducible apply go_i);conv=>whnf)|refine⟨λ_=>?_,λ_=>?_⟩|fail
 intro i i1
 have hw1:(eKw (ksI (I.take i))).length=i:=by rw[eKw_len,List.length_map,List.length_take];omega
 have hwm:=eKw_mem (ksI (I.take i))
 have hbd:((eKw (ksI (I.take i))).length+1)*24<=140737488355328:=by omega
 cases hx:I[i]? with
 |some b=>
  have hlt:=(List.getElem?_eq_some_iff.1 hx).1
  have hilt:(i:Int)<es.length:=by omega
  have hg:es[((i:Nat):Int).toNat]?=some [b.kd,b.rd]:=g1 i b hx
  have ht:=eKw_take hx
  obtain⟨A,hA⟩:∃z,z=eKw (ksI (I.take i)):=⟨_,rfl⟩
  rw[<- hA] at hw1 hwm hbd ht ⊢
  obtain⟨kd,hkd⟩:∃d,d=b.kd:=⟨_,rfl⟩
  obtain⟨rd,hrd⟩:∃d,d=b.rd:=⟨_,rfl⟩
  rw[<- hkd,<- hrd] at hg
  rw[<- hkd] at ht
  clear g1 hx hkd hrd hA
  repeat' first|refine st ?_|((with_reducible apply go_i);conv=>whnf)|refine⟨λ_=>?_,λ_=>?_⟩|fail
  exact⟨i+1,by rw[ht];simp,rfl,by rw[ht];simp,by omega,by omega⟩
 |none=>
  have hge:=List.getElem?_eq_none_iff.1 hx
  have hilt:(es.length:Int)<=i:=by omega
  rw[List.take_of_length_le hge] at hw1 hwm hbd ⊢
  obtain⟨A,hA⟩:∃z,z=eKw (ksI I):=⟨_,rfl⟩
  rw[<- hA] at hw1 hwm hbd ⊢
  clear g1 hx hA
  repeat' first|refine st ?_|((with_reducible apply go_i);conv=>whnf)|refine⟨λ_=>?_,λ_=>?_⟩|fail
  all_goals rfl
theorem C.law48_rows(I:List Bg)(hI:I.length<=4194304)(hIr:∀b∈I,b.rows.length<=4194304)(din:D)(hin:SlD din (eBs I)):Pure Tryz.prog N.bt_law48_rows [.d din] (.d (.sl (eIs (rsI I)))):=by
 have l1:=eBs_len I
 have m1:=eBs_mem I
 have g1:=λi b=>@eBs_get I i b
 obtain⟨es,hes⟩:∃z,z=eBs I:=⟨_,rfl⟩
 rw[<- hes] at hin l1 m1 g1
 clear hes
 refine F.bt_law48_rows.go mixed rfl ?_
 repeat' first|refine st ?_|((with_reducible apply go_i);conv=>whnf)|refine⟨λ_=>?_,λ_=>?_⟩|fail
 refine x_loop1 mixed Lt.bt_law48_rows_l0 Lk.bt_law48_rows_l0 (λ(i:Nat)=>[.arr 0 (eIs (rsI (I.take i))).length,.d (eI i)]) (λi=>[.arr (eIs (rsI (I.take i))) 1 0 false]) (λi=>i<=I.length) (λi=>I.length-i) 0 rfl rfl rfl rfl (λ_ _=>⟨rfl,rfl⟩) rfl (by omega) ?_
 repeat' first|refine st ?_|((with_reducible apply go_i);conv=>whnf)|refine⟨λ_=>?_,λ_=>?_⟩|fail
 intro i i1
 have hw1:(eIs (rsI (I.take i))).length=i:=by rw[eIs_len,List.length_map,List.length_take];omega
 have hwm:=eIs_mem (rsI (I.take i))
 have hbd:((eIs (rsI (I.take i))).length+1)*8<=140737488355328:=by omega
 cases hx:I[i]? with
 |some b=>
  have hlt:=(List.getElem?_eq_some_iff.1 hx).1
  have hilt:(i:Int)<es.length:=by omega
  have hg:es[((i:Nat):Int).toNat]?=some [b.kd,b.rd]:=g1 i b hx
  have ht:=eRn_take hx
  have hsr:SlD b.rd (eRs b.rows):=sld_ng
  have hrl:=eRs_len b.rows
  have hrb:=hIr b (List.mem_of_getElem? hx)
  rw[<- hrl] at ht
  obtain⟨A,hA⟩:∃z,z=eIs (rsI (I.take i)):=⟨_,rfl⟩
  rw[<- hA] at hw1 hwm hbd ht ⊢
  obtain⟨kd,hkd⟩:∃d,d=b.kd:=⟨_,rfl⟩
  obtain⟨rd,hrd⟩:∃d,d=b.rd:=⟨_,rfl⟩
  rw[<- hkd,<- hrd] at hg
  rw[<- hrd] at hsr
  obtain⟨fs,hfs⟩:∃z,z=eRs b.rows:=⟨_,rfl⟩
  rw[<- hfs] at ht hsr hrl
  clear g1 hx hkd hrd hA hfs
  repeat' first|refine st ?_|((with_reducible apply go_i);conv=>whnf)|refine⟨λ_=>?_,λ_=>?_⟩|fail
  exact⟨i+1,by rw[ht];simp,rfl,by rw[ht];simp,by omega,by omega⟩
 |none=>
  have hge:=List.getElem?_eq_none_iff.1 hx
  have hilt:(es.length:Int)<=i:=by omega
  rw[List.take_of_length_le hge] at hw1 hwm hbd ⊢
  obtain⟨A,hA⟩:∃z,z=eIs (rsI I):=⟨_,rfl⟩
  rw[<- hA] at hw1 hwm hbd ⊢
  clear g1 hx hA
  repeat' first|refine st ?_|((with_reducible apply go_i);conv=>whnf)|refine⟨λ_=>?_,λ_=>?_⟩|fail
  all_goals rfl
theorem C.r21_Run{I:List Bg}(hI:I.length<=4194304)(hIk:∀b∈I,b.ki.length<=4194304)(hG:InG I)(din:D)(hin:SlD din (eBs I))(p:Pl)(hb:p.bk<=1048576)(h0:(cpF (ksI I) p).2=0)(hl:lgP (rsI I) p<=2000) :
  Pure Tryz.prog N.bt_ref21_Run [p.av,.d din] (.tup [(evB I p).av,.d (eI 0)]):=by
 have hC:=C.r21_Check (ksI I) (by rw[List.length_map];exact hI) (λk hk=>by
  obtain⟨b,hb,rfl⟩:=List.mem_map.1 hk
  exact hIk b hb) (CnD (eKw (ksI I)).isEmpty .nil (.sl (eKw (ksI I)))) (by rw[show(CnD (eKw (ksI I)).isEmpty .nil (.sl (eKw (ksI I))):D)=ng true (eKw (ksI I)) by cases eKw (ksI I)<;>rfl];exact sld_ng) p hb
 have hE:=C.r21_Eval hG hI din hin p hb (by unfold cpF at h0;split at h0;cases h0;exact h0) hl
 rw[h0] at hC
 obtain⟨cd,hcd⟩:∃d,d=(cpF (ksI I) p).1.d:=⟨_,rfl⟩
 rw[<- hcd] at hC
 obtain⟨op',n',dk',dr',xo',xn',xv',xm',xd',dx',dy',da',di',c1,c2⟩:=Pl.cut p
 rw[c2] at hC hE ⊢
 obtain⟨b,hbb⟩:∃b,b=evB I p:=⟨_,rfl⟩
 rw[<- hbb] at hE ⊢
 have hE:Bi.Pure Tryz.prog N.bt_ref21_Eval [ePl op' n' dk' dr' xo' xn' xv' xm' xd' dx' dy' da' di',.d din] (eBag b.kd b.rd):=hE
 show Bi.Pure Tryz.prog N.bt_ref21_Run [ePl op' n' dk' dr' xo' xn' xv' xm' xd' dx' dy' da' di',.d din] (.tup [eBag b.kd b.rd,.d (eI 0)])
 obtain⟨kd,hkd⟩:∃d,d=b.kd:=⟨_,rfl⟩
 obtain⟨rd,hrd⟩:∃d,d=b.rd:=⟨_,rfl⟩
 rw[<- hkd,<- hrd] at hE ⊢
 have l1:=eBs_len I
 have m1:=eBs_mem I
 have g1:=λi b=>@eBs_get I i b
 obtain⟨es,hes⟩:∃z,z=eBs I:=⟨_,rfl⟩
 rw[<- hes] at hin l1 m1 g1
 clear hes hkd hrd hbb hcd c1 c2 h0 hl hG
 refine F.bt_ref21_Run.go mixed rfl ?_
 repeat' first|refine st ?_|((with_reducible apply go_i);conv=>whnf)|refine⟨λ_=>?_,λ_=>?_⟩|fail
 refine x_nil 6 1 rfl rfl ?_
 refine x_loop1 mixed Lt.bt_ref21_Run_l0 Lk.bt_ref21_Run_l0 (λ(i:Nat)=>[.arr 2 (eKw (ksI (I.take i))).length,.d (eI i)]) (λi=>[.cells [.d (eI op'),.d (eI n'),.d dk',.d dr',.d (eI xo'),.d (eI xn'),.d (eI xv'.k),.d (eI xv'.n),.d (.str xv'.s),.d (.str xm'),.d xd',.d dx',.d dy',.d da',.d di'],.cells [.d .nil,.d .nil],.arr (eKw (ksI (I.take i))) 1 0 (eKw (ksI (I.take i))).isEmpty]) (λi=>i<=I.length) (λi=>I.length-i) 0 rfl rfl rfl rfl (λ_ _=>⟨rfl,rfl⟩) rfl (by omega) ?_
 repeat' first|refine st ?_|((with_reducible apply go_i);conv=>whnf)|refine⟨λ_=>?_,λ_=>?_⟩|fail
 intro i i1
 have hw1:(eKw (ksI (I.take i))).length=i:=by rw[eKw_len,List.length_map,List.length_take];omega
 have hwm:=eKw_mem (ksI (I.take i))
 have hbd:((eKw (ksI (I.take i))).length+1)*24<=140737488355328:=by omega
 cases hx:I[i]? with
 |some b=>
  have hlt:=(List.getElem?_eq_some_iff.1 hx).1
  have hilt:(i:Int)<es.length:=by omega
  have hg:es[((i:Nat):Int).toNat]?=some [b.kd,b.rd]:=g1 i b hx
  have ht:=eKw_take hx
  obtain⟨A,hA⟩:∃z,z=eKw (ksI (I.take i)):=⟨_,rfl⟩
  rw[<- hA] at hw1 hwm hbd ht ⊢
  obtain⟨kd',hkd⟩:∃d,d=b.kd:=⟨_,rfl⟩
  obtain⟨rd',hrd⟩:∃d,d=b.rd:=⟨_,rfl⟩
  rw[<- hkd,<- hrd] at hg
  rw[<- hkd] at ht
  clear g1 hx hkd hrd hA hC hE
  repeat' first|refine st ?_|((with_reducible apply go_i);conv=>whnf)|refine⟨λ_=>?_,λ_=>?_⟩|fail
  exact⟨i+1,by rw[ht];simp,rfl,by rw[ht];simp,by omega,by omega⟩
 |none=>
  have hge:=List.getElem?_eq_none_iff.1 hx
  have hilt:(es.length:Int)<=i:=by omega
  rw[List.take_of_length_le hge] at hw1 hwm hbd ⊢
  obtain⟨A,hA⟩:∃z,z=eKw (ksI I):=⟨_,rfl⟩
  rw[<- hA] at hw1 hwm hbd hC ⊢
  clear g1 hx hA
  repeat' first|refine st ?_|((with_reducible apply go_i);conv=>whnf)|refine⟨λ_=>?_,λ_=>?_⟩|fail
  all_goals rfl
theorem C.law48_largest(I:List Bg)(hI:I.length<=1048576)(hIr:∀b∈I,b.rows.length<=4194304)(din:D)(hin:SlD din (eBs I)):∀p:Pl,p.bk<=1048576->Pure Tryz.prog N.bt_law48_largest [p.av,.d din] (.d (eI (lgP (rsI I) p))):=by
 have hR:=C.law48_rows I (by omega) hIr din hin
 refine Pl.ind λo ni ins ih hb=>?_
 have hB:=Pl.bd hb
 have hS:=C.r48_Size (rsI I) (by rw[List.length_map];exact hI) _ (.inr rfl) (.mk o ni ins) hb
 have hq:lgP (rsI I) (.mk o ni ins)=(ins.map (lgP (rsI I))).foldl max (szP (rsI I) (.mk o ni ins)):=by rw[lgP,lgPs_eq]
 obtain⟨q,hqq⟩:∃q,q=lgP (rsI I) (.mk o ni ins):=⟨_,rfl⟩
 rw[<- hqq] at hq ⊢
 clear hqq
 obtain⟨s,hs⟩:∃s,s=szP (rsI I) (.mk o ni ins):=⟨_,rfl⟩
 rw[<- hs] at hS hq
 clear hs
 obtain⟨xo,xn,xv,xm,xd,hav,_⟩:=Pl.cuto o ni ins
 rw[hav] at hS ⊢
 clear hav
 have hil:=hB.il
 have hsub:=hB.sub
 clear hB hb
 obtain⟨op,n,nk,ki,nr,rows,pred,nx,xs,ny,keys,na,aggs⟩:=o
 have hdi:SlD (ng ni (pL ins)) (pL ins):=sld_ng
 obtain⟨dk,e1⟩:∃d,d=ng nk (eIs ki):=⟨_,rfl⟩
 obtain⟨dr,e2⟩:∃d,d=ng nr (eRs rows):=⟨_,rfl⟩
 obtain⟨dx,e3⟩:∃d,d=ng nx (xL xs):=⟨_,rfl⟩
 obtain⟨dy,e4⟩:∃d,d=ng ny (eIs keys):=⟨_,rfl⟩
 obtain⟨da,e5⟩:∃d,d=ng na (eAs aggs):=⟨_,rfl⟩
 obtain⟨di,e6⟩:∃d,d=ng ni (pL ins):=⟨_,rfl⟩
 have hS:Bi.Pure Tryz.prog N.bt_ref48_Size [ePl op n (ng nk (eIs ki)) (ng nr (eRs rows)) xo xn xv xm xd (ng nx (xL xs)) (ng ny (eIs keys)) (ng na (eAs aggs)) (ng ni (pL ins)),.d (.sl (eIs (rsI I)))] (.d (eI s)):=hS
 show Bi.Pure Tryz.prog N.bt_law48_largest [ePl op n (ng nk (eIs ki)) (ng nr (eRs rows)) xo xn xv xm xd (ng nx (xL xs)) (ng ny (eIs keys)) (ng na (eAs aggs)) (ng ni (pL ins)),.d din] _
 rw[<- e1,<- e2,<- e3,<- e4,<- e5,<- e6] at hS
 rw[<- e1,<- e2,<- e3,<- e4,<- e5,<- e6]
 rw[<- e6] at hdi
 clear e1 e2 e3 e4 e5 e6
 have l1:=pL_len ins
 have m1:=pL_mem ins
 have g1:=λi p=>@pL_get ins i p
 obtain⟨es,hes⟩:∃z,z=pL ins:=⟨_,rfl⟩
 rw[<- hes] at hdi l1 m1 g1
 clear hes
 obtain⟨rr,hrr⟩:∃z,z=eIs (rsI I):=⟨_,rfl⟩
 rw[<- hrr] at hS hR
 clear hrr
 obtain⟨f,hf⟩:∃f,f=lgP (rsI I):=⟨_,rfl⟩
 rw[<- hf] at hq ih
 clear hf
 refine F.bt_law48_largest.go mixed rfl ?_
 repeat' first|refine st ?_|((with_reducible apply go_i);conv=>whnf)|refine⟨λ_=>?_,λ_=>?_⟩|fail
 refine x_loop2 mixed Lt.bt_law48_largest_l0 Lk.bt_law48_largest_l0 (λ(i:Nat) (t:Int)=>[.d (eI t),.d (eI i)]) (λi t=>[.cells [.d (eI op),.d (eI n),.d dk,.d dr,.d (eI xo),.d (eI xn),.d (eI xv.k),.d (eI xv.n),.d (.str xv.s),.d (.str xm),.d xd,.d dx,.d dy,.d da,.d di]]) (λi t=>i<=ins.length/\t=((ins.take i).map f).foldl max s) (λi t=>ins.length-i) 0 s rfl rfl rfl rfl (λ_ _ _=>⟨rfl,rfl⟩) rfl ⟨by omega,rfl⟩ ?_
 repeat' first|refine st ?_|((with_reducible apply go_i);conv=>whnf)|refine⟨λ_=>?_,λ_=>?_⟩|fail
 intro i t ⟨i1,i2⟩
 cases hi:ins[i]? with
 |some p=>
  have hlt:=(List.getElem?_eq_some_iff.1 hi).1
  have hil3:(i:Int)<es.length:=by omega
  have hg:=g1 i p hi
  have hC:=ih p (List.mem_of_getElem? hi) (hsub p (List.mem_of_getElem? hi))
  have htk:((ins.take (i+1)).map f).foldl max s=max t (f p):=by rw[List.take_add_one,hi,List.map_append,List.foldl_append,<- i2];rfl
  obtain⟨op',n',dk',dr',xo',xn',xv',xm',xd',dx',dy',da',di',c1,c2⟩:=Pl.cut p
  have hg:es[((i:Nat):Int).toNat]?=some (ePld op' n' dk' dr' xo' xn' xv' xm' xd' dx' dy' da' di'):=by rw[<- c1];exact hg
  rw[c2] at hC
  obtain⟨v,hv⟩:∃v,v=f p:=⟨_,rfl⟩
  rw[<- hv] at hC htk
  clear c1 c2 hi g1 ih hS hR i2 hv
  repeat' first|refine st ?_|((with_reducible apply go_i);conv=>whnf)|refine⟨λ_=>?_,λ_=>?_⟩|fail
  exact⟨i+1,max t v,rfl,rfl,rfl,by omega,by omega,htk.symm⟩
 |none=>
  have hge:=List.getElem?_eq_none_iff.1 hi
  have hil3:(es.length:Int)<=i:=by omega
  rw[List.take_of_length_le hge,<- hq] at i2
  subst i2
  clear hi g1 ih hS hR
  repeat' first|refine st ?_|((with_reducible apply go_i);conv=>whnf)|refine⟨λ_=>?_,λ_=>?_⟩|fail
  all_goals rfl
end Go.Proofs
end
section
namespace Go.Proofs
open Go.Bi
def kd3(k:Int):Bool:=decide (1<=k/\k<=3)
def vlB(b:Bg):Bool:=decide (b.rows.length<=20/\0<b.ki.length/\b.ki.length<=48)&&b.ki.all kd3&&b.rows.all λr=>fits r.vs b.ki
theorem vlB_in{I:List Bg}(h:I.all vlB=true):InG I:=by
 have h:=List.all_eq_true.1 h
 refine⟨λb hb=>?_,λb hb=>?_⟩
 ·have:=h b hb
  unfold vlB at this
  rw[Bool.and_eq_true,Bool.and_eq_true] at this
  have:=of_decide_eq_true this.1.1
  omega
 ·have:=h b hb
  unfold vlB at this
  rw[Bool.and_eq_true,Bool.and_eq_true] at this
  exact⟨(of_decide_eq_true this.1.1).1,List.all_eq_true.1 this.2⟩
theorem C.law48_valid(I:List Bg)(hI:I.length<=4194304)(hb:∀b∈I,b.ki.length<=1048576/\b.rows.length<=1048576/\∀r∈b.rows,r.vs.length<=1048576/\∀v∈r.vs,v.s.length<=1048576)(din:D)(hin:SlD din (eBs I)) :
  Pure Tryz.prog N.bt_law48_valid [.d din] (.d (.bool (I.all vlB))):=by
 have l1:=eBs_len I
 have m1:=eBs_mem I
 have g1:=λi b=>@eBs_get I i b
 obtain⟨es,hes⟩:∃z,z=eBs I:=⟨_,rfl⟩
 rw[<- hes] at hin l1 m1 g1
 clear hes
 obtain⟨q,hq⟩:∃q,q=I.all vlB:=⟨_,rfl⟩
 rw[<- hq]
 refine F.bt_law48_valid.go mixed rfl ?_
 repeat' first|refine st ?_|((with_reducible apply go_i);conv=>whnf)|refine⟨λ_=>?_,λ_=>?_⟩|fail
 refine x_loop1 mixed Lt.bt_law48_valid_l2 Lk.bt_law48_valid_l2 (λ(i:Nat)=>[.d (eI i)]) (λi=>[]) (λi=>i<=I.length/\(I.take i).all vlB=true) (λi=>I.length-i) 0 rfl rfl rfl rfl (λ_ _=>⟨rfl,rfl⟩) rfl ⟨by omega,rfl⟩ ?_
 repeat' first|refine st ?_|((with_reducible apply go_i);conv=>whnf)|refine⟨λ_=>?_,λ_=>?_⟩|fail
 intro i ⟨h4,h5⟩
 cases hx:I[i]? with
 |none=>
  have hge:=List.getElem?_eq_none_iff.1 hx
  have hilt:(es.length:Int)<=i:=by omega
  rw[List.take_of_length_le hge] at h5
  rw[h5] at hq
  subst hq
  clear g1 hx
  repeat' first|refine st ?_|((with_reducible apply go_i);conv=>whnf)|refine⟨λ_=>?_,λ_=>?_⟩|fail
  all_goals rfl
 |some b=>
  have hlt:=(List.getElem?_eq_some_iff.1 hx).1
  have hilt:(i:Int)<es.length:=by omega
  have hg:es[((i:Nat):Int).toNat]?=some [b.kd,b.rd]:=g1 i b hx
  obtain⟨hb1,hb2,hb3⟩:=hb b (List.mem_of_getElem? hx)
  have hs:=all_take_succ2 (p:=vlB) hx
  rw[h5,Bool.true_and] at hs
  have hsk:SlD b.kd (eIs b.ki):=sld_ng
  have hsr:SlD b.rd (eRs b.rows):=sld_ng
  have kl:=eIs_len b.ki
  have rl:=eRs_len b.rows
  have hf:vlB b=false->q=false:=λh=>hq.trans (all_none2 (p:=vlB) hx h)
  have hF:=λ(r:Rw) (h:r∈b.rows)=>C.r8_Fits r.vs b.ki (hb3 r h).1 hb1 (hb3 r h).2 r.d sld_ng b.kd hsk
  have km:=eIs_mem b.ki
  have rm:=eRs_mem b.rows
  have kg:=λi k=>@eIs_get b.ki i k
  have rg:=λi r=>@eRs_get b.rows i r
  have hd:vlB b=(decide (b.rows.length<=20/\0<b.ki.length/\b.ki.length<=48)&&b.ki.all kd3&&b.rows.all λr=>fits r.vs b.ki):=rfl
  obtain⟨v,hv⟩:∃v,v=vlB b:=⟨_,rfl⟩
  rw[<- hv] at hd hs hf
  obtain⟨ki,rows⟩:∃x:List Int×List Rw,x=(b.ki,b.rows):=⟨_,rfl⟩
  obtain⟨kd,hkd⟩:∃d,d=b.kd:=⟨_,rfl⟩
  obtain⟨rd,hrd⟩:∃d,d=b.rd:=⟨_,rfl⟩
  rw[<- hkd,<- hrd] at hg
  rw[<- hkd] at hsk hF
  rw[<- hrd] at hsr
  obtain⟨ks,hks⟩:∃z,z=b.ki:=⟨_,rfl⟩
  obtain⟨rs,hrs⟩:∃z,z=b.rows:=⟨_,rfl⟩
  rw[<- hks,<- hrs] at hd
  rw[<- hks] at hsk kl kg hb1 hF km
  rw[<- hrs] at hsr rl rg hb2 hb3 hF rm
  obtain⟨ek,hek⟩:∃z,z=eIs ks:=⟨_,rfl⟩
  rw[<- hek] at hsk kl kg km
  obtain⟨er,her⟩:∃z,z=eRs rs:=⟨_,rfl⟩
  rw[<- her] at hsr rl rg rm
  clear hek her hks hrs hkd hrd hv hb g1 hx hq h5 ki rows
  by_cases c1:(20:Int)<er.length
  ·rw[decide_eq_false (by omega)] at hd
   have hf:=hf hd
   subst hf
   clear kg rg hF hd hs
   repeat' first|refine st ?_|((with_reducible apply go_i);conv=>whnf)|refine⟨λ_=>?_,λ_=>?_⟩|fail
   all_goals first|rfl|(exfalso;omega)
  by_cases c2:(ek.length:Int)=0
  ·rw[decide_eq_false (by omega)] at hd
   have hf:=hf hd
   subst hf
   clear kg rg hF hd hs
   repeat' first|refine st ?_|((with_reducible apply go_i);conv=>whnf)|refine⟨λ_=>?_,λ_=>?_⟩|fail
   all_goals first|rfl|(exfalso;omega)
  by_cases c3:(48:Int)<ek.length
  ·rw[decide_eq_false (by omega)] at hd
   have hf:=hf hd
   subst hf
   clear kg rg hF hd hs
   repeat' first|refine st ?_|((with_reducible apply go_i);conv=>whnf)|refine⟨λ_=>?_,λ_=>?_⟩|fail
   all_goals first|rfl|(exfalso;omega)
  rw[decide_eq_true (by omega),Bool.true_and] at hd
  repeat' first|refine st ?_|((with_reducible apply go_i);conv=>whnf)|refine⟨λ_=>?_,λ_=>?_⟩|fail
  refine x_loop1 mixed Lt.bt_law48_valid_l0 Lk.bt_law48_valid_l0 (λ(k:Nat)=>[.d (eI k)]) (λk=>[]) (λk=>k<=ks.length/\(ks.take k).all kd3=true) (λk=>ks.length-k) 0 rfl rfl rfl rfl (λ_ _=>⟨rfl,rfl⟩) rfl ⟨by omega,rfl⟩ ?_
  repeat' first|refine st ?_|((with_reducible apply go_i);conv=>whnf)|refine⟨λ_=>?_,λ_=>?_⟩|fail
  intro k ⟨k1,k2⟩
  cases hy:ks[k]? with
  |some kk=>
   have hlt2:=(List.getElem?_eq_some_iff.1 hy).1
   have hklt:(k:Int)<ek.length:=by omega
   have hgk:ek[((k:Nat):Int).toNat]?=some [eI kk]:=kg k kk hy
   have hs2:=all_take_succ2 (p:=kd3) hy
   rw[k2,Bool.true_and] at hs2
   by_cases d1:1<=kk/\kk<=3
   ·have hs2:=hs2.trans (decide_eq_true d1)
    obtain⟨d2,d3⟩:=d1
    clear kg rg hF hd hs hf hy
    repeat' first|refine st ?_|((with_reducible apply go_i);conv=>whnf)|refine⟨λ_=>?_,λ_=>?_⟩|fail
    all_goals exact⟨k+1,rfl,rfl,rfl,by omega,by omega,hs2⟩
   ·have hn:ks.all kd3=false:=all_none2 (p:=kd3) hy (decide_eq_false d1)
    rw[hn] at hd
    have hf:=hf hd
    subst hf
    clear kg rg hF hd hs hs2 hy hn
    by_cases d2:kk<1
    ·repeat' first|refine st ?_|((with_reducible apply go_i);conv=>whnf)|refine⟨λ_=>?_,λ_=>?_⟩|fail
     all_goals first|rfl|(exfalso;omega)
    ·have d3:3<kk:=by omega
     repeat' first|refine st ?_|((with_reducible apply go_i);conv=>whnf)|refine⟨λ_=>?_,λ_=>?_⟩|fail
     all_goals first|rfl|(exfalso;omega)
  |none=>
   have hge:=List.getElem?_eq_none_iff.1 hy
   have hklt:(ek.length:Int)<=k:=by omega
   rw[List.take_of_length_le hge] at k2
   rw[k2,Bool.true_and] at hd
   clear kg hy
   repeat' first|refine st ?_|((with_reducible apply go_i);conv=>whnf)|refine⟨λ_=>?_,λ_=>?_⟩|fail
   refine x_loop1 mixed Lt.bt_law48_valid_l1 Lk.bt_law48_valid_l1 (λ(k:Nat)=>[.d (eI k)]) (λk=>[]) (λk=>k<=rs.length/\(rs.take k).all (λr=>fits r.vs ks)=true) (λk=>rs.length-k) 0 rfl rfl rfl rfl (λ_ _=>⟨rfl,rfl⟩) rfl ⟨by omega,rfl⟩ ?_
   repeat' first|refine st ?_|((with_reducible apply go_i);conv=>whnf)|refine⟨λ_=>?_,λ_=>?_⟩|fail
   intro j ⟨j1,j2⟩
   cases hz:rs[j]? with
   |some r=>
    have hlt3:=(List.getElem?_eq_some_iff.1 hz).1
    have hjlt:(j:Int)<er.length:=by omega
    have hgr:er[((j:Nat):Int).toNat]?=some [r.d]:=rg j r hz
    have hV:=hF r (List.mem_of_getElem? hz)
    have hs3:=all_take_succ2 (p:=λr:Rw=>fits r.vs ks) hz
    rw[j2,Bool.true_and] at hs3
    cases hw:fits r.vs ks with
    |false=>
     have hn:=all_none2 (p:=λr:Rw=>fits r.vs ks) hz hw
     rw[hn] at hd
     have hf:=hf hd
     subst hf
     rw[hw] at hV
     obtain⟨rd',hrd'⟩:∃d,d=r.d:=⟨_,rfl⟩
     rw[<- hrd'] at hV hgr
     clear rg hF hd hs hs3 hz hn hrd'
     repeat' first|refine st ?_|((with_reducible apply go_i);conv=>whnf)|refine⟨λ_=>?_,λ_=>?_⟩|fail
     all_goals rfl
    |true=>
     have hs3:=hs3.trans hw
     rw[hw] at hV
     obtain⟨rd',hrd'⟩:∃d,d=r.d:=⟨_,rfl⟩
     rw[<- hrd'] at hV hgr
     clear rg hF hd hs hf hz hrd'
     repeat' first|refine st ?_|((with_reducible apply go_i);conv=>whnf)|refine⟨λ_=>?_,λ_=>?_⟩|fail
     all_goals exact⟨j+1,rfl,rfl,rfl,by omega,by omega,hs3⟩
   |none=>
    have hge:=List.getElem?_eq_none_iff.1 hz
    have hjlt:(er.length:Int)<=j:=by omega
    rw[List.take_of_length_le hge] at j2
    have hs:=hs.trans (hd.trans j2)
    clear rg hF hd hf hz
    repeat' first|refine st ?_|((with_reducible apply go_i);conv=>whnf)|refine⟨λ_=>?_,λ_=>?_⟩|fail
    all_goals exact⟨i+1,rfl,rfl,rfl,by omega,by omega,hs⟩
def rnB(I:List Bg)(p:Pl):Bool:=decide ((cpF (ksI I) p).2=0)&&I.all vlB&&decide (lgP (rsI I) p<=2000)
theorem C.law48_runnable(I:List Bg)(hI:I.length<=1048576)(hb:∀b∈I,b.ki.length<=1048576/\b.rows.length<=1048576/\∀r∈b.rows,r.vs.length<=1048576/\∀v∈r.vs,v.s.length<=1048576)(din:D)(hin:SlD din (eBs I))(p:Pl)(hp:p.bk<=1048576) :
  Pure Tryz.prog N.bt_law48_runnable [p.av,.d din] (.d (.bool (rnB I p))):=by
 have hK:=C.law48_kinds I (by omega) din hin
 have hC:=C.r21_Check (ksI I) (by rw[List.length_map];omega) (λk hk=>by
  obtain⟨b,hbb,rfl⟩:=List.mem_map.1 hk
  have:=(hb b hbb).1
  show b.ki.length<=4194304
  omega) (.sl (eKw (ksI I))) (.inr rfl) p hp
 have hV:=C.law48_valid I (by omega) hb din hin
 have hL:=C.law48_largest I hI (λb h=>by have:=(hb b h).2.1;omega) din hin p hp
 obtain⟨q,hq⟩:∃q,q=rnB I p:=⟨_,rfl⟩
 rw[<- hq]
 unfold rnB at hq
 obtain⟨op',n',dk',dr',xo',xn',xv',xm',xd',dx',dy',da',di',c1,c2⟩:=Pl.cut p
 rw[c2] at hC hL ⊢
 obtain⟨cd,hcd⟩:∃d,d=(cpF (ksI I) p).1.d:=⟨_,rfl⟩
 rw[<- hcd] at hC
 obtain⟨er,her⟩:∃d,d=(cpF (ksI I) p).2:=⟨_,rfl⟩
 rw[<- her] at hC hq
 obtain⟨vb,hvb⟩:∃d,d=I.all vlB:=⟨_,rfl⟩
 rw[<- hvb] at hV hq
 obtain⟨lg,hlg⟩:∃d,d=lgP (rsI I) p:=⟨_,rfl⟩
 rw[<- hlg] at hL hq
 obtain⟨kk,hkk⟩:∃z,z=eKw (ksI I):=⟨_,rfl⟩
 rw[<- hkk] at hK hC
 clear hcd her hvb hlg hkk c1 c2
 by_cases h1:er=0
 rotate_left
 ·rw[decide_eq_false h1] at hq
  subst hq
  refine F.bt_law48_runnable.go mixed rfl ?_
  repeat' first|refine st ?_|((with_reducible apply go_i);conv=>whnf)|refine⟨λ_=>?_,λ_=>?_⟩|fail
  all_goals first|rfl|simp_all
 subst h1
 cases vb with
 |false=>
  have hq:q=false:=hq
  subst hq
  refine F.bt_law48_runnable.go mixed rfl ?_
  repeat' first|refine st ?_|((with_reducible apply go_i);conv=>whnf)|refine⟨λ_=>?_,λ_=>?_⟩|fail
  all_goals first|rfl|simp_all
 |true=>
  have hq:q=decide (lg<=2000):=by rw[hq];simp
  subst hq
  refine F.bt_law48_runnable.go mixed rfl ?_
  repeat' first|refine st ?_|((with_reducible apply go_i);conv=>whnf)|refine⟨λ_=>?_,λ_=>?_⟩|fail
  all_goals first|rfl|simp_all
end Go.Proofs
end
section
namespace Go.Proofs
open Go.Bi
theorem C.tuple_Fits(row:List Vl)(ks:List Int)(hr:row.length<=1048576)(hk:ks.length<=1048577)(hrs:∀v∈row,v.s.length<=1048576)(dr:D)(hdr:SlD dr (eVs row))(dk:D)(hdk:SlD dk (eIs ks)):Pure Tryz.prog N.tuple_Fits [.d dr,.d dk] (.d (.bool (fits row ks))):=by
 refine F.tuple_Fits.go mixed rfl ?_
 have h1:=eVs_len row
 have hm:=eVs_mem row
 have h2:=eIs_len ks
 have hm2:=eIs_mem ks
 obtain⟨q,hq⟩:∃q,q=fits row ks:=⟨_,rfl⟩
 rw[<- hq]
 by_cases hl:row.length=ks.length
 rotate_left
 ·have:q=false:=by rw[hq,fits,decide_eq_false hl];rfl
  rw[this]
  repeat' first|refine st ?_|((with_reducible apply go_i);conv=>whnf)|refine⟨λ_=>?_,λ_=>?_⟩|fail
  all_goals first|rfl|(exfalso;omega)
 unfold fits at hq
 rw[decide_eq_true hl,Bool.true_and] at hq
 have hl2:(eVs row).length=(eIs ks).length:=by omega
 repeat' first|refine st ?_|((with_reducible apply go_i);conv=>whnf)|refine⟨λ_=>?_,λ_=>?_⟩|fail
 refine x_loop1 mixed Lt.tuple_Fits_l0 Lk.tuple_Fits_l0 (λ(i:Nat)=>[.d (eI i)]) (λi=>[]) (λi=>i<=row.length/\((row.zip ks).take i).all (λp=>fitB p.1 p.2)=true) (λi=>row.length-i) 0 rfl rfl rfl rfl (λ_ _=>⟨rfl,rfl⟩) rfl ⟨by omega,rfl⟩ ?_
 repeat' first|refine st ?_|((with_reducible apply go_i);conv=>whnf)|refine⟨λ_=>?_,λ_=>?_⟩|fail
 intro i ⟨h4,h5⟩
 cases hx:row[i]? with
 |some v=>
  have hlt:=(List.getElem?_eq_some_iff.1 hx).1
  obtain⟨k,hkx⟩:∃k,ks[i]?=some k:=⟨_,List.getElem?_eq_getElem (by omega)⟩
  have hz:(row.zip ks)[i]?=some (v,k):=List.getElem?_zip_eq_some.2 ⟨hx,hkx⟩
  have hg:=eVs_get hx
  have hg2:=eIs_get hkx
  have hV:=C.value_Valid v (Nat.le_trans (hrs v (List.mem_of_getElem? hx)) (by omega))
  have hs:=all_take_succ2 (p:=λp=>fitB p.1 p.2) hz
  rw[h5,Bool.true_and] at hs
  dsimp only at hs
  cases hv:vValid v with
  |false=>
   rw[hv] at hV
   have hb:fitB v k=false:=by rw[fitB,hv];rfl
   have hf:=all_none2 (p:=λp=>fitB p.1 p.2) hz hb
   rw[hf] at hq
   repeat' first|refine st ?_|((with_reducible apply go_i);conv=>whnf)|refine⟨λ_=>?_,λ_=>?_⟩|fail
   all_goals (rw[hq])
  |true=>
   rw[hv] at hV
   by_cases hk0:v.k=0
   ·have hb:fitB v k=true:=by rw[fitB,hv,decide_eq_true hk0];rfl
    repeat' first|refine st ?_|((with_reducible apply go_i);conv=>whnf)|refine⟨λ_=>?_,λ_=>?_⟩|fail
    all_goals exact⟨i+1,rfl,rfl,rfl,by omega,by omega,hs.trans hb⟩
   ·by_cases hkk:v.k=k
    ·have hb:fitB v k=true:=by rw[fitB,hv,decide_eq_true hkk];simp
     repeat' first|refine st ?_|((with_reducible apply go_i);conv=>whnf)|refine⟨λ_=>?_,λ_=>?_⟩|fail
     all_goals exact⟨i+1,rfl,rfl,rfl,by omega,by omega,hs.trans hb⟩
    ·have hb:fitB v k=false:=by rw[fitB,hv,decide_eq_false hkk,decide_eq_false hk0];rfl
     have hf:=all_none2 (p:=λp=>fitB p.1 p.2) hz hb
     rw[hf] at hq
     repeat' first|refine st ?_|((with_reducible apply go_i);conv=>whnf)|refine⟨λ_=>?_,λ_=>?_⟩|fail
     all_goals (rw[hq])
 |none=>
  have hge:=List.getElem?_eq_none_iff.1 hx
  rw[List.take_of_length_le (by rw[List.length_zip];omega)] at h5
  rw[h5] at hq
  repeat' first|refine st ?_|((with_reducible apply go_i);conv=>whnf)|refine⟨λ_=>?_,λ_=>?_⟩|fail
  all_goals (rw[hq])
theorem kd3_eq:kd3=kdB:=by
 funext k
 unfold kd3 kdB
 rw[decide_eq_decide]
 omega
theorem C.snapshot_basic(ks:List Int)(hks:ks.length<=4194304)(dk:D)(hdk:SlD dk (eIs ks)):Pure Tryz.prog N.snapshot_basic [.d dk] (.d (.bool (ks.all kdB))):=by
 rw[<- kd3_eq]
 have h1:=eIs_len ks
 have hm:=eIs_mem ks
 have hg0:=λi k=>@eIs_get ks i k
 obtain⟨q,hq⟩:∃q,q=ks.all kd3:=⟨_,rfl⟩
 rw[<- hq]
 obtain⟨es,hes⟩:∃z,z=eIs ks:=⟨_,rfl⟩
 rw[<- hes] at hdk h1 hm hg0
 clear hes
 refine F.snapshot_basic.go mixed rfl ?_
 repeat' first|refine st ?_|((with_reducible apply go_i);conv=>whnf)|refine⟨λ_=>?_,λ_=>?_⟩|fail
 refine x_loop1 mixed Lt.snapshot_basic_l0 Lk.snapshot_basic_l0 (λ(i:Nat)=>[.d (eI i)]) (λi=>[]) (λi=>i<=ks.length/\(ks.take i).all kd3=true) (λi=>ks.length-i) 0 rfl rfl rfl rfl (λ_ _=>⟨rfl,rfl⟩) rfl ⟨by omega,rfl⟩ ?_
 repeat' first|refine st ?_|((with_reducible apply go_i);conv=>whnf)|refine⟨λ_=>?_,λ_=>?_⟩|fail
 intro i ⟨h4,h5⟩
 cases hx:ks[i]? with
 |some k=>
  have hlt:=(List.getElem?_eq_some_iff.1 hx).1
  have hilt:(i:Int)<es.length:=by omega
  have hg:es[((i:Nat):Int).toNat]?=some [eI k]:=hg0 i k hx
  have hs:=all_take_succ2 (p:=kd3) hx
  rw[h5,Bool.true_and] at hs
  by_cases d1:1<=k/\k<=3
  ·have hs:=hs.trans (decide_eq_true d1)
   obtain⟨d2,d3⟩:=d1
   clear hg0 hx hq
   repeat' first|refine st ?_|((with_reducible apply go_i);conv=>whnf)|refine⟨λ_=>?_,λ_=>?_⟩|fail
   all_goals exact⟨i+1,rfl,rfl,rfl,by omega,by omega,hs⟩
  ·have hf:ks.all kd3=false:=all_none2 (p:=kd3) hx (decide_eq_false d1)
   rw[hf] at hq
   subst hq
   clear hg0 hx hs
   by_cases d2:k<1
   ·repeat' first|refine st ?_|((with_reducible apply go_i);conv=>whnf)|refine⟨λ_=>?_,λ_=>?_⟩|fail
    all_goals first|rfl|(exfalso;omega)
   ·have d3:3<k:=by omega
    repeat' first|refine st ?_|((with_reducible apply go_i);conv=>whnf)|refine⟨λ_=>?_,λ_=>?_⟩|fail
    all_goals first|rfl|(exfalso;omega)
 |none=>
  have hge:=List.getElem?_eq_none_iff.1 hx
  have hilt:(es.length:Int)<=i:=by omega
  rw[List.take_of_length_le (by omega)] at h5
  rw[h5] at hq
  subst hq
  clear hg0 hx
  repeat' first|refine st ?_|((with_reducible apply go_i);conv=>whnf)|refine⟨λ_=>?_,λ_=>?_⟩|fail
  all_goals rfl
theorem C.snapshot_inputs(op:Int):Pure Tryz.prog N.snapshot_inputs [.d (eI op)] (.d (eI (inN op))):=by
 obtain⟨q,hq⟩:∃q,q=inN op:=⟨_,rfl⟩
 have h:=inN_case op
 rw[<- hq] at h ⊢
 clear hq
 rcases h with ⟨rfl,rfl⟩|⟨rfl,rfl⟩|⟨rfl,rfl⟩|⟨rfl,rfl⟩|⟨rfl,rfl⟩|⟨rfl,rfl⟩|⟨rfl,rfl⟩|⟨rfl,rfl⟩|⟨rfl,rfl⟩|⟨rfl,rfl⟩|⟨rfl,rfl⟩|⟨⟨o1,o2,o3,o4,o5,o6,o7,o8,o9,o10,o11⟩,rfl⟩
 all_goals refine F.snapshot_inputs.go mixed rfl ?_
 all_goals repeat' first|refine st ?_|((with_reducible apply go_i);conv=>whnf)|refine⟨λ_=>?_,λ_=>?_⟩|fail
 all_goals first|rfl|(exfalso;omega)
theorem C.snapshot_predicate(ks:List Int)(hks:ks.length<=1048576)(dk:D)(hdk:SlD dk (eIs ks))(e:Ex)(he:e.bk<=1048576):Pure Tryz.prog N.snapshot_predicate [e.av,.d dk] (.d (eI (prE ks e))):=by
 have hC:Bi.Pure Tryz.prog N.expr_Check [e.av,.d dk] (.tup [.d (eI (ckT ks e).1),.d (eI (ckT ks e).2)]):=C.expr_Check ks hks dk hdk e he
 obtain⟨q,hq⟩:∃q,q=prE ks e:=⟨_,rfl⟩
 rw[<- hq]
 unfold prE at hq
 obtain⟨⟨k,er⟩,hk⟩:∃z,z=ckT ks e:=⟨_,rfl⟩
 rw[<- hk] at hC hq
 dsimp only at hC hq
 clear hk
 obtain⟨xo,xn,xv,xm,xl,xa⟩:=e
 rw[Ex.av_mk] at hC ⊢
 obtain⟨xd,hxd⟩:∃d,d=ng xl (xL xa):=⟨_,rfl⟩
 rw[<- hxd] at hC ⊢
 clear hxd he
 by_cases h1:er=0
 ·rw[if_pos h1] at hq
  subst h1
  by_cases h2:k=3\/k=0
  ·rw[if_pos h2] at hq
   subst hq
   rcases h2 with rfl|rfl<;>refine F.snapshot_predicate.go mixed rfl ?_
   all_goals repeat' first|refine st ?_|((with_reducible apply go_i);conv=>whnf)|refine⟨λ_=>?_,λ_=>?_⟩|fail
   all_goals rfl
  ·rw[if_neg h2] at hq
   subst hq
   have h3:k≠3:=λh=>h2 (.inl h)
   have h4:k≠0:=λh=>h2 (.inr h)
   refine F.snapshot_predicate.go mixed rfl ?_
   repeat' first|refine st ?_|((with_reducible apply go_i);conv=>whnf)|refine⟨λ_=>?_,λ_=>?_⟩|fail
   all_goals first|rfl|(exfalso;omega)
 ·rw[if_neg h1] at hq
  subst hq
  refine F.snapshot_predicate.go mixed rfl ?_
  repeat' first|refine st ?_|((with_reducible apply go_i);conv=>whnf)|refine⟨λ_=>?_,λ_=>?_⟩|fail
  all_goals first|rfl|(exfalso;omega)
theorem C.slices_EqualI(a b:List Int)(ha:a.length<=4194304)(hb:b.length<=4194304)(da db:D)(hda:SlD da (eIs a))(hdb:SlD db (eIs b)):Pure Tryz.prog N.slices_Equal__int_int [.d da,.d db] (.d (.bool (decide (a=b)))):=by
 have l1:=eIs_len a
 have m1:=eIs_mem a
 have g1:=λi k=>@eIs_get a i k
 have l2:=eIs_len b
 have m2:=eIs_mem b
 have g2:=λi k=>@eIs_get b i k
 obtain⟨q,hq⟩:∃q,q=decide (a=b):=⟨_,rfl⟩
 rw[<- hq]
 obtain⟨es,hes⟩:∃z,z=eIs a:=⟨_,rfl⟩
 rw[<- hes] at hda l1 m1 g1
 obtain⟨fs,hfs⟩:∃z,z=eIs b:=⟨_,rfl⟩
 rw[<- hfs] at hdb l2 m2 g2
 clear hes hfs
 by_cases hl:a.length=b.length
 rotate_left
 ·have h0:¬(es.length:Int)=fs.length:=by omega
  rw[decide_eq_false λh=>hl (by rw[h])] at hq
  subst hq
  clear g1 g2
  refine F.slices_Equal__int_int.go mixed rfl ?_
  repeat' first|refine st ?_|((with_reducible apply go_i);conv=>whnf)|refine⟨λ_=>?_,λ_=>?_⟩|fail
  all_goals first|rfl|(exfalso;omega)
 have h0:(es.length:Int)=fs.length:=by omega
 refine F.slices_Equal__int_int.go mixed rfl ?_
 repeat' first|refine st ?_|((with_reducible apply go_i);conv=>whnf)|refine⟨λ_=>?_,λ_=>?_⟩|fail
 refine x_loop1 mixed Lt.slices_Equal__int_int_l0 Lk.slices_Equal__int_int_l0 (λ(i:Nat)=>[.d (eI i)]) (λi=>[]) (λi=>i<=a.length/\a.take i=b.take i) (λi=>a.length-i) 0 rfl rfl rfl rfl (λ_ _=>⟨rfl,rfl⟩) rfl ⟨by omega,rfl⟩ ?_
 repeat' first|refine st ?_|((with_reducible apply go_i);conv=>whnf)|refine⟨λ_=>?_,λ_=>?_⟩|fail
 intro i ⟨h4,h5⟩
 cases hx:a[i]? with
 |some k=>
  have hlt:=(List.getElem?_eq_some_iff.1 hx).1
  obtain⟨k2,hx2⟩:∃k,b[i]?=some k:=⟨_,List.getElem?_eq_getElem (by omega)⟩
  have hilt:(i:Int)<es.length:=by omega
  have hilt2:(i:Int)<fs.length:=by omega
  have hg:es[((i:Nat):Int).toNat]?=some [eI k]:=g1 i k hx
  have hg2:fs[((i:Nat):Int).toNat]?=some [eI k2]:=g2 i k2 hx2
  by_cases hk:k=k2
  ·have ht:a.take (i+1)=b.take (i+1):=by rw[List.take_add_one,List.take_add_one,hx,hx2,h5,hk]
   subst hk
   clear g1 g2 hx hx2 hq
   repeat' first|refine st ?_|((with_reducible apply go_i);conv=>whnf)|refine⟨λ_=>?_,λ_=>?_⟩|fail
   exact⟨i+1,rfl,rfl,rfl,by omega,by omega,ht⟩
  ·rw[decide_eq_false λh=>hk (by rw[h,hx2] at hx;cases hx;rfl)] at hq
   subst hq
   clear g1 g2 hx hx2
   repeat' first|refine st ?_|((with_reducible apply go_i);conv=>whnf)|refine⟨λ_=>?_,λ_=>?_⟩|fail
   all_goals first|rfl|(exfalso;omega)
 |none=>
  have hge:=List.getElem?_eq_none_iff.1 hx
  have hilt:(es.length:Int)<=i:=by omega
  rw[List.take_of_length_le hge,List.take_of_length_le (by omega)] at h5
  rw[decide_eq_true h5] at hq
  subst hq
  clear g1 g2 hx
  repeat' first|refine st ?_|((with_reducible apply go_i);conv=>whnf)|refine⟨λ_=>?_,λ_=>?_⟩|fail
  all_goals rfl
def eqE(a b:List Int):Int:=if a.length=b.length then (if a=b then 0 else 7) else 13
theorem C.snapshot_equal(a b:List Int)(ha:a.length<=4194304)(hb:b.length<=4194304)(da db:D)(hda:SlD da (eIs a))(hdb:SlD db (eIs b)):Pure Tryz.prog N.snapshot_equal [.d da,.d db] (.d (eI (eqE a b))):=by
 have l1:=eIs_len a
 have m1:=eIs_mem a
 have g1:=λi k=>@eIs_get a i k
 have l2:=eIs_len b
 have m2:=eIs_mem b
 have g2:=λi k=>@eIs_get b i k
 obtain⟨q,hq⟩:∃q,q=eqE a b:=⟨_,rfl⟩
 rw[<- hq]
 obtain⟨es,hes⟩:∃z,z=eIs a:=⟨_,rfl⟩
 rw[<- hes] at hda l1 m1 g1
 obtain⟨fs,hfs⟩:∃z,z=eIs b:=⟨_,rfl⟩
 rw[<- hfs] at hdb l2 m2 g2
 clear hes hfs
 by_cases hl:a.length=b.length
 rotate_left
 ·have h0:¬(es.length:Int)=fs.length:=by omega
  unfold eqE at hq;rw[if_neg hl] at hq
  subst hq
  clear g1 g2
  refine F.snapshot_equal.go mixed rfl ?_
  repeat' first|refine st ?_|((with_reducible apply go_i);conv=>whnf)|refine⟨λ_=>?_,λ_=>?_⟩|fail
  all_goals first|rfl|(exfalso;omega)
 have h0:(es.length:Int)=fs.length:=by omega
 refine F.snapshot_equal.go mixed rfl ?_
 repeat' first|refine st ?_|((with_reducible apply go_i);conv=>whnf)|refine⟨λ_=>?_,λ_=>?_⟩|fail
 refine x_loop1 mixed Lt.snapshot_equal_l0 Lk.snapshot_equal_l0 (λ(i:Nat)=>[.d (eI i)]) (λi=>[]) (λi=>i<=a.length/\a.take i=b.take i) (λi=>a.length-i) 0 rfl rfl rfl rfl (λ_ _=>⟨rfl,rfl⟩) rfl ⟨by omega,rfl⟩ ?_
 repeat' first|refine st ?_|((with_reducible apply go_i);conv=>whnf)|refine⟨λ_=>?_,λ_=>?_⟩|fail
 intro i ⟨h4,h5⟩
 cases hx:a[i]? with
 |some k=>
  have hlt:=(List.getElem?_eq_some_iff.1 hx).1
  obtain⟨k2,hx2⟩:∃k,b[i]?=some k:=⟨_,List.getElem?_eq_getElem (by omega)⟩
  have hilt:(i:Int)<es.length:=by omega
  have hilt2:(i:Int)<fs.length:=by omega
  have hg:es[((i:Nat):Int).toNat]?=some [eI k]:=g1 i k hx
  have hg2:fs[((i:Nat):Int).toNat]?=some [eI k2]:=g2 i k2 hx2
  by_cases hk:k=k2
  ·have ht:a.take (i+1)=b.take (i+1):=by rw[List.take_add_one,List.take_add_one,hx,hx2,h5,hk]
   subst hk
   clear g1 g2 hx hx2 hq
   repeat' first|refine st ?_|((with_reducible apply go_i);conv=>whnf)|refine⟨λ_=>?_,λ_=>?_⟩|fail
   exact⟨i+1,rfl,rfl,rfl,by omega,by omega,ht⟩
  ·unfold eqE at hq;rw[if_pos hl,if_neg λh=>hk (by rw[h,hx2] at hx;cases hx;rfl)] at hq
   subst hq
   clear g1 g2 hx hx2
   repeat' first|refine st ?_|((with_reducible apply go_i);conv=>whnf)|refine⟨λ_=>?_,λ_=>?_⟩|fail
   all_goals first|rfl|(exfalso;omega)
 |none=>
  have hge:=List.getElem?_eq_none_iff.1 hx
  have hilt:(es.length:Int)<=i:=by omega
  rw[List.take_of_length_le hge,List.take_of_length_le (by omega)] at h5
  unfold eqE at hq;rw[if_pos hl,if_pos h5] at hq
  subst hq
  clear g1 g2 hx
  repeat' first|refine st ?_|((with_reducible apply go_i);conv=>whnf)|refine⟨λ_=>?_,λ_=>?_⟩|fail
  all_goals rfl
def vaE(ki:List Int)(rows:List Rw):Int:=if 4096<rows.length then 5 else if ki.all kdB then (if rows.all (λr=>fits r.vs ki) then 0 else 8) else 7
theorem C.snapshot_values(nk:Bool)(ki:List Int)(hki:ki.length<=1048576)(dk:D)(hdk:dk=ng nk (eIs ki))(rows:List Rw)(hrl:rows.length<=1048576)(hrb:∀r∈rows,r.vs.length<=1048576/\∀v∈r.vs,v.s.length<=1048576)(dr:D)(hdr:SlD dr (eRs rows))(op n xo xn:Int)(xv:Vl)(xm:List UInt8)(xd dx dy da di:D) :
  Pure Tryz.prog N.snapshot_values [ePl op n dk dr xo xn xv xm xd dx dy da di] (.d (eI (vaE ki rows))):=by
 have l1:=eRs_len rows
 have m1:=eRs_mem rows
 have g1:=λi r=>@eRs_get rows i r
 obtain⟨es,hes⟩:∃z,z=eRs rows:=⟨_,rfl⟩
 rw[<- hes] at hdr l1 m1 g1
 clear hes
 have hsd:SlD dk (eIs ki):=by rw[hdk];exact sld_ng
 obtain⟨q,hq⟩:∃q,q=vaE ki rows:=⟨_,rfl⟩
 rw[<- hq]
 unfold vaE at hq
 by_cases h1:4096<rows.length
 ·rw[if_pos h1] at hq
  subst hq
  clear g1 hrb hdk hsd
  refine F.snapshot_values.go mixed rfl ?_
  repeat' first|refine st ?_|((with_reducible apply go_i);conv=>whnf)|refine⟨λ_=>?_,λ_=>?_⟩|fail
  all_goals first|rfl|(exfalso;omega)
 rw[if_neg h1] at hq
 have hC:=C.snapshot_basic ki (by omega) dk hsd
 cases hb:ki.all kdB with
 |false=>
  rw[hb] at hC hq
  rw[if_neg (by simp)] at hq
  subst hq
  clear g1 hrb hdk hsd
  refine F.snapshot_values.go mixed rfl ?_
  repeat' first|refine st ?_|((with_reducible apply go_i);conv=>whnf)|refine⟨λ_=>?_,λ_=>?_⟩|fail
  all_goals rfl
 |true=>
  rw[hb] at hC hq
  rw[if_pos rfl] at hq
  have hF:=λ(r:Rw) (h:r∈rows)=>C.tuple_Fits r.vs ki (hrb r h).1 (by omega) (hrb r h).2 r.d sld_ng dk hsd
  obtain⟨b,hbb⟩:∃b,b=rows.all (λr=>fits r.vs ki):=⟨_,rfl⟩
  rw[<- hbb] at hq
  refine F.snapshot_values.go mixed rfl ?_
  repeat' first|refine st ?_|((with_reducible apply go_i);conv=>whnf)|refine⟨λ_=>?_,λ_=>?_⟩|fail
  refine x_loop1 mixed Lt.snapshot_values_l0 Lk.snapshot_values_l0 (λ(i:Nat)=>[.d (eI i)]) (λi=>[.cells [.d (eI op),.d (eI n),.d dk,.d dr,.d (eI xo),.d (eI xn),.d (eI xv.k),.d (eI xv.n),.d (.str xv.s),.d (.str xm),.d xd,.d dx,.d dy,.d da,.d di]]) (λi=>i<=rows.length/\(rows.take i).all (λr=>fits r.vs ki)=true) (λi=>rows.length-i) 0 rfl rfl rfl rfl (λ_ _=>⟨rfl,rfl⟩) rfl ⟨by omega,rfl⟩ ?_
  repeat' first|refine st ?_|((with_reducible apply go_i);conv=>whnf)|refine⟨λ_=>?_,λ_=>?_⟩|fail
  intro i ⟨h4,h5⟩
  cases hx:rows[i]? with
  |some r=>
   have hlt:=(List.getElem?_eq_some_iff.1 hx).1
   have hilt:(i:Int)<es.length:=by omega
   have hg:es[((i:Nat):Int).toNat]?=some [r.d]:=g1 i r hx
   have hV:=hF r (List.mem_of_getElem? hx)
   have hs:=all_take_succ2 (p:=λr:Rw=>fits r.vs ki) hx
   rw[h5,Bool.true_and] at hs
   obtain⟨rd,hrd⟩:∃d,d=r.d:=⟨_,rfl⟩
   rw[<- hrd] at hg hV
   cases hv:fits r.vs ki with
   |false=>
    rw[hv] at hV
    have hf:=all_none2 (p:=λr:Rw=>fits r.vs ki) hx hv
    rw[hf] at hbb
    subst hbb
    rw[if_neg (by simp)] at hq
    subst hq
    clear g1 hrb hF hx hrd hs
    repeat' first|refine st ?_|((with_reducible apply go_i);conv=>whnf)|refine⟨λ_=>?_,λ_=>?_⟩|fail
    all_goals rfl
   |true=>
    rw[hv] at hV
    have hs:=hs.trans hv
    clear g1 hrb hF hx hrd hbb hq
    repeat' first|refine st ?_|((with_reducible apply go_i);conv=>whnf)|refine⟨λ_=>?_,λ_=>?_⟩|fail
    exact⟨i+1,rfl,rfl,rfl,by omega,by omega,hs⟩
  |none=>
   have hge:=List.getElem?_eq_none_iff.1 hx
   have hilt:(es.length:Int)<=i:=by omega
   rw[List.take_of_length_le hge] at h5
   rw[h5] at hbb
   subst hbb
   rw[if_pos rfl] at hq
   subst hq
   clear g1 hrb hF hx hdk
   repeat' first|refine st ?_|((with_reducible apply go_i);conv=>whnf)|refine⟨λ_=>?_,λ_=>?_⟩|fail
   all_goals rfl
theorem C.snapshot_projected(ks:List Int)(hks:ks.length<=1048576)(dk:D)(hdk:SlD dk (eIs ks))(xs:List Ex)(hx:xs.length<=1048576)(hxb:∀e∈xs,e.bk<=1048576)(dx:D)(hdx:SlD dx (xL xs)) :
  Pure Tryz.prog N.snapshot_projected [.d dx,.d dk] (.tup [.d (slD (eIs (prjF ks xs).1).isEmpty (eIs (prjF ks xs).1)),.d (eI (prjF ks xs).2)]):=by
 have hC:=λ(e:Ex) (h:e∈xs)=>C.expr_Check ks hks dk hdk e (hxb e h)
 have l1:=xL_len xs
 have m1:=xL_mem xs
 have g1:=λi e=>@xL_get xs i e
 obtain⟨es,hes⟩:∃z,z=xL xs:=⟨_,rfl⟩
 rw[<- hes] at hdx l1 m1 g1
 clear hes
 obtain⟨q,hq⟩:∃q,q=prjF ks xs:=⟨_,rfl⟩
 rw[<- hq]
 refine F.snapshot_projected.go mixed rfl ?_
 repeat' first|refine st ?_|((with_reducible apply go_i);conv=>whnf)|refine⟨λ_=>?_,λ_=>?_⟩|fail
 refine x_nil 6 1 rfl rfl ?_
 refine x_loop2 mixed Lt.snapshot_projected_l0 Lk.snapshot_projected_l0 (λ(i:Nat) (w:List Int)=>[.arr 0 (eIs w).length,.d (eI i)]) (λi w=>[.arr (eIs w) 1 0 (eIs w).isEmpty]) (λi w=>i<=xs.length/\w.length=i/\q=if (prjF ks (xs.drop i)).2=0 then (w++(prjF ks (xs.drop i)).1,0) else ([],(prjF ks (xs.drop i)).2)) (λi w=>xs.length-i) 0 [] rfl rfl rfl rfl (λ_ _ _=>⟨rfl,rfl⟩) rfl ⟨by omega,rfl,by
  rw[hq]
  show prjF ks xs=if (prjF ks xs).2=0 then ((prjF ks xs).1,0) else ([],(prjF ks xs).2)
  split
  ·rename_i h;exact Prod.ext rfl h
  ·rename_i h
   refine Prod.ext ?_ rfl
   cases xs with
   |nil=>exact absurd rfl h
   |cons e r=>
    rw[prjF] at h ⊢
    split
    ·rename_i h1
     rw[if_pos h1] at h
     split
     ·rfl
     ·rename_i h2
      rw[if_neg h2] at h
      split
      ·rename_i h3
       rw[if_pos h3] at h
       exact absurd rfl h
      ·rfl
    ·rfl⟩ ?_
 repeat' first|refine st ?_|((with_reducible apply go_i);conv=>whnf)|refine⟨λ_=>?_,λ_=>?_⟩|fail
 intro i w ⟨i1,i2,i3⟩
 clear hq
 have hw1:=eIs_len w
 have hwm:=eIs_mem w
 have hbd:((eIs w).length+1)*8<=140737488355328:=by omega
 have happ:=λk:Int=>show eIs (w++[k])=eIs w++[[eI k]] by simp[eIs]
 have hne:=λk:Int=>show(eIs (w++[k])).isEmpty=false by simp[eIs]
 obtain⟨A,hA⟩:∃z,z=eIs w:=⟨_,rfl⟩
 rw[<- hA] at hw1 hwm hbd ⊢
 cases hi:xs[i]? with
 |some e=>
  have hlt:=(List.getElem?_eq_some_iff.1 hi).1
  have hil:(i:Int)<es.length:=by omega
  have hg:=g1 i e hi
  have hC:=hC e (List.mem_of_getElem? hi)
  have dx':xs.drop i=e::xs.drop (i+1):=by rw[List.drop_eq_getElem_cons hlt,(List.getElem?_eq_some_iff.1 hi).2]
  rw[dx',prjF] at i3
  have hC:Bi.Pure Tryz.prog N.expr_Check [e.av,.d dk] (.tup [.d (eI (ckT ks e).1),.d (eI (ckT ks e).2)]):=hC
  obtain⟨⟨k,er⟩,hk⟩:∃z,z=ckT ks e:=⟨_,rfl⟩
  rw[<- hk] at hC i3
  dsimp only at hC i3
  clear hk dx'
  obtain⟨xo,xn,xv,xm,xl,xa⟩:=e
  rw[Ex.ds_mk] at hg
  rw[Ex.av_mk] at hC
  have hg:es[((i:Nat):Int).toNat]?=some (xds xo xn xv xm (ng xl (xL xa))):=hg
  obtain⟨xd,hxd⟩:∃d,d=ng xl (xL xa):=⟨_,rfl⟩
  rw[<- hxd] at hg hC
  by_cases h1:er=0
  ·subst h1
   rw[if_pos rfl] at i3
   by_cases h2:k=0
   ·subst h2
    rw[if_pos rfl] at i3
    have i3:q=([],7):=i3
    subst i3
    clear hi g1 hxd hA happ hne
    repeat' first|refine st ?_|((with_reducible apply go_i);conv=>whnf)|refine⟨λ_=>?_,λ_=>?_⟩|fail
    all_goals rfl
   ·rw[if_neg h2] at i3
    have i4:q=if (prjF ks (xs.drop (i+1))).2=0 then ((w++[k])++(prjF ks (xs.drop (i+1))).1,0) else ([],(prjF ks (xs.drop (i+1))).2):=by
     rw[i3]
     by_cases h3:(prjF ks (xs.drop (i+1))).2=0
     ·rw[if_pos h3,if_pos rfl,if_pos h3,List.append_assoc];rfl
     ·rw[if_neg h3,if_neg h3,if_neg h3]
    have happ:=happ k
    have hne:=hne k
    rw[<- hA] at happ
    clear hi g1 hxd i3
    repeat' first|refine st ?_|((with_reducible apply go_i);conv=>whnf)|refine⟨λ_=>?_,λ_=>?_⟩|fail
    exact⟨i+1,w++[k],by rw[happ];simp,rfl,by rw[hne,happ];simp,by omega,by omega,by simp;omega,i4⟩
  ·rw[if_neg h1,if_neg h1] at i3
   subst i3
   clear hi g1 hxd hA happ hne
   repeat' first|refine st ?_|((with_reducible apply go_i);conv=>whnf)|refine⟨λ_=>?_,λ_=>?_⟩|fail
   all_goals rfl
 |none=>
  have hge:=List.getElem?_eq_none_iff.1 hi
  have hil:(es.length:Int)<=i:=by omega
  rw[List.drop_eq_nil_of_le hge] at i3
  have i3:q=(w,0):=by rw[i3];simp[prjF]
  subst i3
  dsimp only
  rw[<- hA]
  clear hi g1 happ hne hA
  repeat' first|refine st ?_|((with_reducible apply go_i);conv=>whnf)|refine⟨λ_=>?_,λ_=>?_⟩|fail
  all_goals (cases A<;>rfl)
theorem C.snapshot_grouped(ks:List Int)(hks:ks.length<=1048576)(dk:D)(hdk:SlD dk (eIs ks))(keys:List Int)(hkl:keys.length<=1048576)(dy:D)(hdy:SlD dy (eIs keys))(ags:List Ag)(hal:ags.length<=1048576)(da:D)(hda:SlD da (eAs ags)) :
  Pure Tryz.prog N.snapshot_grouped [.d dy,.d da,.d dk] (.tup [.d (slD (eIs (grpF ks keys ags).1).isEmpty (eIs (grpF ks keys ags).1)),.d (eI (grpF ks keys ags).2)]):=by
 have l1:=eIs_len ks
 have m1:=eIs_mem ks
 have g1:=λi r=>@eIs_get ks i r
 obtain⟨es,hes⟩:∃z,z=eIs ks:=⟨_,rfl⟩
 rw[<- hes] at hdk l1 m1 g1
 have l2:=eIs_len keys
 have m2:=eIs_mem keys
 have g2:=λi r=>@eIs_get keys i r
 obtain⟨fs,hfs⟩:∃z,z=eIs keys:=⟨_,rfl⟩
 rw[<- hfs] at hdy l2 m2 g2
 have l3:=eAs_len ags
 have m3:=eAs_mem ags
 have g3:=λi r=>@eAs_get ags i r
 obtain⟨gs,hgs⟩:∃z,z=eAs ags:=⟨_,rfl⟩
 rw[<- hgs] at hda l3 m3 g3
 clear hes hfs hgs
 obtain⟨q,hq⟩:∃q,q=grpF ks keys ags:=⟨_,rfl⟩
 rw[<- hq]
 have hq:q=grpK ks ags [] keys:=hq
 refine F.snapshot_grouped.go mixed rfl ?_
 repeat' first|refine st ?_|((with_reducible apply go_i);conv=>whnf)|refine⟨λ_=>?_,λ_=>?_⟩|fail
 refine x_nil 8 1 rfl rfl ?_
 refine x_loop2 mixed Lt.snapshot_grouped_l0 Lk.snapshot_grouped_l0 (λ(i:Nat) (w:List Int)=>[.arr 0 (eIs w).length,.d (eI i)]) (λi w=>[.arr (eIs w) 1 0 (eIs w).isEmpty]) (λi w=>i<=keys.length/\w.length=i/\q=grpK ks ags w (keys.drop i)) (λi w=>keys.length-i) 0 [] rfl rfl rfl rfl (λ_ _ _=>⟨rfl,rfl⟩) rfl ⟨by omega,rfl,hq⟩ ?_
 repeat' first|refine st ?_|((with_reducible apply go_i);conv=>whnf)|refine⟨λ_=>?_,λ_=>?_⟩|fail
 intro i w ⟨i1,i2,i3⟩
 clear hq
 have hw1:=eIs_len w
 have hwm:=eIs_mem w
 have hbd:((eIs w).length+1)*8<=140737488355328:=by omega
 have happ:=λk:Int=>show eIs (w++[k])=eIs w++[[eI k]] by simp[eIs]
 have hne:=λk:Int=>show(eIs (w++[k])).isEmpty=false by simp[eIs]
 cases hi:keys[i]? with
 |some k=>
  have hlt:=(List.getElem?_eq_some_iff.1 hi).1
  have hil:(i:Int)<fs.length:=by omega
  have hg:fs[((i:Nat):Int).toNat]?=some [eI k]:=g2 i k hi
  have dx':keys.drop i=k::keys.drop (i+1):=by rw[List.drop_eq_getElem_cons hlt,(List.getElem?_eq_some_iff.1 hi).2]
  rw[dx',grpK] at i3
  obtain⟨A,hA⟩:∃z,z=eIs w:=⟨_,rfl⟩
  rw[<- hA] at hw1 hwm hbd ⊢
  by_cases h1:k<0
  ·rw[if_pos (.inl h1)] at i3
   subst i3
   clear hi g2 hA happ hne g1 g3 dx'
   repeat' first|refine st ?_|((with_reducible apply go_i);conv=>whnf)|refine⟨λ_=>?_,λ_=>?_⟩|fail
   all_goals rfl
  by_cases h2:(ks.length:Int)<=k
  ·rw[if_pos (.inr h2)] at i3
   subst i3
   clear hi g2 hA happ hne g1 g3 dx'
   have h2:(es.length:Int)<=k:=by omega
   repeat' first|refine st ?_|((with_reducible apply go_i);conv=>whnf)|refine⟨λ_=>?_,λ_=>?_⟩|fail
   all_goals rfl
  ·rw[if_neg (λh=>h.elim h1 h2)] at i3
   have hk:=g1 _ _ (iAt_get h1 h2)
   have happ:=happ (iAt ks k)
   have hne:=hne (iAt ks k)
   rw[<- hA] at happ
   obtain⟨v,hv⟩:∃z,z=iAt ks k:=⟨_,rfl⟩
   rw[<- hv] at hk happ hne i3
   have h2:¬(es.length:Int)<=k:=by omega
   clear hi g2 g1 g3 dx' hv
   repeat' first|refine st ?_|((with_reducible apply go_i);conv=>whnf)|refine⟨λ_=>?_,λ_=>?_⟩|fail
   exact⟨i+1,w++[v],by rw[happ];simp,rfl,by rw[hne,happ];simp,by omega,by omega,by simp;omega,i3⟩
 |none=>
  have hge:=List.getElem?_eq_none_iff.1 hi
  have hil:(fs.length:Int)<=i:=by omega
  rw[List.drop_eq_nil_of_le hge,grpK] at i3
  clear hi g2 happ hne
  repeat' first|refine st ?_|((with_reducible apply go_i);conv=>whnf)|refine⟨λ_=>?_,λ_=>?_⟩|fail
  refine x_loop2 mixed Lt.snapshot_grouped_l1 Lk.snapshot_grouped_l1 (λ(j:Nat) (u:List Int)=>[.arr 0 (eIs u).length,.d (eI j)]) (λj u=>[.arr (eIs u) 1 0 (eIs u).isEmpty]) (λj u=>j<=ags.length/\u.length=i+j/\q=grpA ks u (ags.drop j)) (λj u=>ags.length-j) 0 w rfl rfl rfl rfl (λ_ _ _=>⟨rfl,rfl⟩) rfl ⟨by omega,by omega,i3⟩ ?_
  repeat' first|refine st ?_|((with_reducible apply go_i);conv=>whnf)|refine⟨λ_=>?_,λ_=>?_⟩|fail
  intro j u ⟨j1,j2,j3⟩
  clear hw1 hwm hbd i3
  have hu1:=eIs_len u
  have hum:=eIs_mem u
  have hbd:((eIs u).length+1)*8<=140737488355328:=by omega
  have happ:=λk:Int=>show eIs (u++[k])=eIs u++[[eI k]] by simp[eIs]
  have hne:=λk:Int=>show(eIs (u++[k])).isEmpty=false by simp[eIs]
  obtain⟨A,hA⟩:∃z,z=eIs u:=⟨_,rfl⟩
  rw[<- hA] at hu1 hum hbd ⊢
  cases hj:ags[j]? with
  |some a=>
   have hlt:=(List.getElem?_eq_some_iff.1 hj).1
   have hjl:(j:Int)<gs.length:=by omega
   have hg:gs[((j:Nat):Int).toNat]?=some [eI a.op,eI a.arg]:=g3 j a hj
   have dx':ags.drop j=a::ags.drop (j+1):=by rw[List.drop_eq_getElem_cons hlt,(List.getElem?_eq_some_iff.1 hj).2]
   rw[dx',grpA] at j3
   have hgk:=λh1 h2=>g1 _ _ (iAt_get (ks:=ks) (k:=a.arg) h1 h2)
   have hak:agK ks a=if a.op=1\/a.op=2\/a.op=3\/a.op=4 then
    if a.arg=-1/\a.op=1 then (1,0)
    else if a.arg<0\/ks.length<=a.arg then (0,6)
    else if a.op=2/\iAt ks a.arg≠1 then (0,7)
    else if a.op=3\/a.op=4 then (iAt ks a.arg,0) else (1,0)
    else (0,7):=rfl
   obtain⟨v,hv⟩:∃z,z=iAt ks a.arg:=⟨_,rfl⟩
   rw[<- hv] at hgk hak
   obtain⟨K,hK⟩:∃z,z=agK ks a:=⟨_,rfl⟩
   rw[<- hK] at hak j3
   obtain⟨op,ar⟩:=a
   dsimp only at hg hgk hak
   rw[<- l1] at hak hgk
   clear hj g1 g3 dx' hv hK
   have err:∀e:Int,e≠0->K=(0,e)->q=([],e):=λe he h=>by rw[j3,h,if_neg he]
   have okk:∀k:Int,K=(k,0)->q=grpA ks (u++[k]) (ags.drop (j+1)):=λk h=>by rw[j3,h,if_pos rfl]
   clear j3
   by_cases c0:op=1\/op=2\/op=3\/op=4
   ·rw[if_pos c0] at hak
    by_cases c1:ar=-1/\op=1
    ·rw[if_pos c1] at hak
     obtain⟨rfl,rfl⟩:=c1
     have okk:=okk _ hak
     have happ:=happ 1
     have hne:=hne 1
     rw[<- hA] at happ
     clear err hak hgk c0
     repeat' first|refine st ?_|((with_reducible apply go_i);conv=>whnf)|refine⟨λ_=>?_,λ_=>?_⟩|fail
     exact⟨j+1,u++[1],by rw[happ];simp,rfl,by rw[hne,happ];simp,by omega,by omega,by simp;omega,okk⟩
    rw[if_neg c1] at hak
    by_cases c2:ar<0\/es.length<=ar
    ·rw[if_pos c2] at hak
     have err:=err 6 (by decide) hak
     subst err
     clear okk hak hgk happ hne hA
     rcases c2 with c2|c2
     ·rcases c0 with rfl|rfl|rfl|rfl
      ·have c1:¬ar=-1:=λh=>c1 ⟨h,rfl⟩
       repeat' first|refine st ?_|((with_reducible apply go_i);conv=>whnf)|refine⟨λ_=>?_,λ_=>?_⟩|fail
       all_goals rfl
      all_goals clear c1
      all_goals skip
      all_goals repeat' first|refine st ?_|((with_reducible apply go_i);conv=>whnf)|refine⟨λ_=>?_,λ_=>?_⟩|fail
      all_goals rfl
     ·have c3:¬ar<0:=by omega
      have c4:¬ar=-1:=by omega
      rcases c0 with rfl|rfl|rfl|rfl
      all_goals clear c1
      all_goals skip
      all_goals repeat' first|refine st ?_|((with_reducible apply go_i);conv=>whnf)|refine⟨λ_=>?_,λ_=>?_⟩|fail
      all_goals rfl
    rw[if_neg c2] at hak
    have c3:¬ar<0:=λh=>c2 (.inl h)
    have c4:¬(es.length:Int)<=ar:=λh=>c2 (.inr h)
    have hg2:=hgk c3 c4
    have c5:¬ar=-1:=by omega
    clear hgk c1 c2
    rcases c0 with rfl|rfl|rfl|rfl
    ·have okk:=okk _ hak
     have happ:=happ 1
     have hne:=hne 1
     rw[<- hA] at happ
     clear err hak
     repeat' first|refine st ?_|((with_reducible apply go_i);conv=>whnf)|refine⟨λ_=>?_,λ_=>?_⟩|fail
     exact⟨j+1,u++[1],by rw[happ];simp,rfl,by rw[hne,happ];simp,by omega,by omega,by simp;omega,okk⟩
    ·by_cases c6:v=1
     ·subst c6
      have okk:=okk 1 (by rw[hak];simp)
      have happ:=happ 1
      have hne:=hne 1
      rw[<- hA] at happ
      clear err hak
      repeat' first|refine st ?_|((with_reducible apply go_i);conv=>whnf)|refine⟨λ_=>?_,λ_=>?_⟩|fail
      exact⟨j+1,u++[1],by rw[happ];simp,rfl,by rw[hne,happ];simp,by omega,by omega,by simp;omega,okk⟩
     ·have err:=err 7 (by decide) (by rw[hak,if_pos ⟨rfl,c6⟩])
      subst err
      clear okk hak happ hne hA
      repeat' first|refine st ?_|((with_reducible apply go_i);conv=>whnf)|refine⟨λ_=>?_,λ_=>?_⟩|fail
      all_goals rfl
    all_goals
     have okk:=okk v (by rw[hak];simp)
     have happ:=happ v
     have hne:=hne v
     rw[<- hA] at happ
     clear err hak
    all_goals skip
    all_goals repeat' first|refine st ?_|((with_reducible apply go_i);conv=>whnf)|refine⟨λ_=>?_,λ_=>?_⟩|fail
    all_goals exact⟨j+1,u++[v],by rw[happ];simp,rfl,by rw[hne,happ];simp,by omega,by omega,by simp;omega,okk⟩
   ·rw[if_neg c0] at hak
    have err:=err 7 (by decide) hak
    subst err
    have d1:¬op=1:=λh=>c0 (.inl h)
    have d2:¬op=2:=λh=>c0 (.inr (.inl h))
    have d3:¬op=3:=λh=>c0 (.inr (.inr (.inl h)))
    have d4:¬op=4:=λh=>c0 (.inr (.inr (.inr h)))
    clear okk hak happ hne hA hgk c0
    repeat' first|refine st ?_|((with_reducible apply go_i);conv=>whnf)|refine⟨λ_=>?_,λ_=>?_⟩|fail
    all_goals rfl
  |none=>
   have hge2:=List.getElem?_eq_none_iff.1 hj
   have hjl:(gs.length:Int)<=j:=by omega
   rw[List.drop_eq_nil_of_le hge2] at j3
   have j3:q=(u,0):=j3
   subst j3
   dsimp only
   rw[<- hA]
   clear hj g1 g3 happ hne hA
   repeat' first|refine st ?_|((with_reducible apply go_i);conv=>whnf)|refine⟨λ_=>?_,λ_=>?_⟩|fail
   all_goals (cases A<;>rfl)
end Go.Proofs
end
