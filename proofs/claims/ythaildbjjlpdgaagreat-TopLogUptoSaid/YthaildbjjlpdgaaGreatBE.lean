/- Soundness of freezing, of loads and of stores. No condition. -/
import Derived.Test.YthaildbjjlpdgaaGreatBD
set_option linter.unusedVariables false
namespace Go.Bi
set_option linter.unusedSectionVars false
variable [Globs]
section
variable {P:Program}{M:Mem}{G:Gh}{os:List AO}{w:World}{ρ:Rho}{a:Act}{K:AV->List AO->Prop}
theorem idx_lt{i j n sz:Nat}(hi:i<n)(hj:j<sz):i*sz+j<n*sz:=by
 have:(i+1)*sz<=n*sz:=Nat.mul_le_mul_right _ hi
 rw[Nat.add_mul] at this
 omega
theorem set_same{os:List AO}{id:Nat}{o:AO}(h:os[id]?=some o):os.set id o=os:=by
 apply List.ext_getElem?
 intro i
 rw[List.getElem?_set]
 split
 ·rename_i hi;subst hi
  rw[h];simp[(List.getElem?_eq_some_iff.1 h).1]
 ·rfl
def Mem.with(M:Mem)(w:World)(b n:Nat):Mem:=λa=>if a.block=b/\a.spot=none/\a.off<n then w.cell? a else M a
theorem freeze_ok(he:Env M G os w){id:Nat}{es:List (List D)}{sz frz:Nat}(ho:os[id]?=some (.arr es sz frz false)) :
  Env (Mem.with M w (G.blk id) (es.length*sz)) G (os.set id (.arr es sz es.length false)) w/\
  Since M G os w (Mem.with M w (G.blk id) (es.length*sz)) G (os.set id (.arr es sz es.length false)) w/\
  Rd (Mem.with M w (G.blk id) (es.length*sz)) (.sl es) (.slice (some ⟨G.blk id,0,none⟩) es.length (G.cap id)):=by
 obtain⟨h1,h2,h3,h4,h5⟩:=he.obj id _ ho
 obtain⟨ca,t,h6,h7,h8,h9,h10,h11⟩:=h5 rfl
 have hlt:=(List.getElem?_eq_some_iff.1 ho).1
 have hgrow:∀x v,M x=some v->Mem.with M w (G.blk id) (es.length*sz) x=some v:=λx v hx=>by
  unfold Mem.with
  split
  ·exact he.mem x v hx
  ·exact hx
 have hnew:∀x v,Mem.with M w (G.blk id) (es.length*sz) x=some v->M x=some v\/x.block=G.blk id:=λx v hx=>by
  unfold Mem.with at hx
  split at hx
  ·rename_i hc;exact .inr hc.1
  ·exact .inl hx
 have hk:Keeps G G id (os.set id (.arr es sz es.length false)) (.arr es sz frz false):=⟨es,es.length,false,by simp[hlt],Nat.le_refl _,λ_=>⟨rfl,rfl,rfl⟩⟩
 have hs:=since_upd he (w':=w) ho rfl rfl rfl rfl rfl (λ_ _=>rfl) hgrow hnew hk
 have hcl:∀o,o<es.length*sz->Mem.with M w (G.blk id) (es.length*sz) ⟨G.blk id,o,none⟩=ca[o]?:=λo ho=>by
  unfold Mem.with
  rw[if_pos ⟨rfl,rfl,ho⟩]
  simp[World.cell?,h6]
 refine⟨env_upd he ho rfl rfl rfl rfl rfl (λ_ _=>rfl) hgrow hnew hk (λx hx=>?_) (λx v hx hb=>?_) (λx v hx hb=>?_) ?_,hs,?_⟩
 ·unfold Mem.with
  rw[if_neg (λhc=>hx hc.1)]
 ·unfold Mem.with at hx
  split at hx
  ·exact hx
  ·exact he.mem x v hx
 ·refine⟨_,_,_,_,rfl,?_⟩
  unfold Mem.with at hx
  split at hx
  ·rename_i hc;exact hc.2.2
  ·obtain⟨es',sz',frz',nl',h12,h13⟩:=he.sep id x v (Live.arr ho) hx hb
   rw[ho] at h12
   cases h12
   exact Nat.lt_of_lt_of_le h13 (Nat.mul_le_mul_right _ h3)
 ·refine⟨h1,h2,Nat.le_refl _,λh=>(by cases h),λ_=>⟨ca,t,h6,h7,h8,h9,λi j e x hi hj=>?_,hcl⟩⟩
  obtain⟨u,hu,hr⟩:=h10 i j e x hi hj
  exact⟨u,hu,hr.mono hgrow⟩
 ·refine Rd.sl es (G.blk id) 0 (G.cap id) sz (λi j=>(ca[i*sz+j]?).getD undef) h8 h2 (λi j hi hj=>?_) (λi j e d hi hj=>?_)
  ·rw[Nat.zero_add,hcl _ (idx_lt hi hj)]
   have hsz:i*sz+j<ca.size:=by
    rw[h7]
    exact Nat.lt_of_lt_of_le (idx_lt hi hj) (Nat.mul_le_mul_right _ h8)
   simp[hsz]
  ·obtain⟨u,hu,hr⟩:=h10 i j e d hi hj
   simp only[hu,Option.getD_some]
   exact hr.mono hgrow
theorem freezeP_ok(he:Env M G os w){id:Nat}{es:List (List D)}{sz frz:Nat}(ho:os[id]?=some (.arr es sz frz false))(k:Nat)(hfk:frz<=k)(hke:k<=es.length) :
  Env (Mem.with M w (G.blk id) (k*sz)) G (os.set id (.arr es sz k false)) w/\
  Since M G os w (Mem.with M w (G.blk id) (k*sz)) G (os.set id (.arr es sz k false)) w/\
  ∀lo n o,lo+n<=k->(0<n->o=lo*sz)->Rd (Mem.with M w (G.blk id) (k*sz)) (.sl ((es.drop lo).take n)) (.slice (some ⟨G.blk id,o,none⟩) n (G.cap id-lo)):=by
 obtain⟨h1,h2,h3,h4,h5⟩:=he.obj id _ ho
 obtain⟨ca,t,h6,h7,h8,h9,h10,h11⟩:=h5 rfl
 have hlt:=(List.getElem?_eq_some_iff.1 ho).1
 have hgrow:∀x v,M x=some v->Mem.with M w (G.blk id) (k*sz) x=some v:=λx v hx=>by
  unfold Mem.with
  split
  ·exact he.mem x v hx
  ·exact hx
 have hnew:∀x v,Mem.with M w (G.blk id) (k*sz) x=some v->M x=some v\/x.block=G.blk id:=λx v hx=>by
  unfold Mem.with at hx
  split at hx
  ·rename_i hc;exact .inr hc.1
  ·exact .inl hx
 have hk:Keeps G G id (os.set id (.arr es sz k false)) (.arr es sz frz false):=⟨es,k,false,by simp[hlt],Nat.le_refl _,λ_=>⟨rfl,rfl,rfl⟩⟩
 have hs:=since_upd he (w':=w) ho rfl rfl rfl rfl rfl (λ_ _=>rfl) hgrow hnew hk
 have hcl:∀o,o<k*sz->Mem.with M w (G.blk id) (k*sz) ⟨G.blk id,o,none⟩=ca[o]?:=λo ho=>by
  unfold Mem.with
  rw[if_pos ⟨rfl,rfl,ho⟩]
  simp[World.cell?,h6]
 refine⟨env_upd he ho rfl rfl rfl rfl rfl (λ_ _=>rfl) hgrow hnew hk (λx hx=>?_) (λx v hx hb=>?_) (λx v hx hb=>?_) ?_,hs,λlo n o hln ho'=>?_⟩
 ·unfold Mem.with
  rw[if_neg (λhc=>hx hc.1)]
 ·unfold Mem.with at hx
  split at hx
  ·exact hx
  ·exact he.mem x v hx
 ·refine⟨_,_,_,_,rfl,?_⟩
  unfold Mem.with at hx
  split at hx
  ·rename_i hc;exact hc.2.2
  ·obtain⟨es',sz',frz',nl',h12,h13⟩:=he.sep id x v (Live.arr ho) hx hb
   rw[ho] at h12
   cases h12
   exact Nat.lt_of_lt_of_le h13 (Nat.mul_le_mul_right _ hfk)
 ·refine⟨h1,h2,hke,λh=>(by cases h),λ_=>⟨ca,t,h6,h7,h8,h9,λi j e x hi hj=>?_,hcl⟩⟩
  obtain⟨u,hu,hr⟩:=h10 i j e x hi hj
  exact⟨u,hu,hr.mono hgrow⟩
 ·have hlen:((es.drop lo).take n).length=n:=by rw[List.length_take,List.length_drop];omega
  cases Nat.eq_zero_or_pos n with
  |inl h0=>
   subst h0
   rw[List.take_zero]
   exact Rd.sle _ _
  |inr hpos=>
   have ho2:=ho' hpos
   subst ho2
   have:=Rd.sl (M:=Mem.with M w (G.blk id) (k*sz)) ((es.drop lo).take n) (G.blk id) (lo*sz) (G.cap id-lo) sz (λi j=>(ca[(lo+i)*sz+j]?).getD undef) (by omega) (λe he=>h2 e (List.mem_of_mem_drop (List.mem_of_mem_take he))) (λi j hi hj=>?_) (λi j e d hi hj=>?_)
   ·rw[hlen] at this
    exact this
   ·rw[hlen] at hi
    have e1:lo*sz+(i*sz+j)=(lo+i)*sz+j:=by rw[Nat.add_mul];omega
    rw[e1,hcl _ (idx_lt (by omega) hj)]
    have hsz:(lo+i)*sz+j<ca.size:=by
     rw[h7]
     exact Nat.lt_of_lt_of_le (idx_lt (show lo+i<es.length by omega) hj) (Nat.mul_le_mul_right _ h8)
    simp[hsz]
   ·have hi2:es[lo+i]?=some e:=by
     rw[List.getElem?_take] at hi
     split at hi
     ·rw[List.getElem?_drop] at hi;exact hi
     ·cases hi
    obtain⟨u,hu,hr⟩:=h10 (lo+i) j e d hi2 hj
    simp only[hu,Option.getD_some]
    exact hr.mono hgrow
theorem frzC_ok(he:Env M G os w){c:AV}{x:D}{os1:List AO}(h:frzC os c=some (x,os1)){v:Value}(hv:VC M G os c v) :
  ∃M1,Env M1 G os1 w/\Since M G os w M1 G os1 w/\Rd M1 x v:=by
 unfold frzC at h
 split at h
 ·cases h;exact⟨M,he,Since.refl ..,hv⟩
 ·rename_i id len
  obtain⟨_,es',sz',frz',nl',h1,h2,h3⟩:=hv
  rw[h1] at h
  dsimp only at h
  split at h
  ·rename_i hlen
   cases h
   have h4:=h3 hlen
   cases nl' with
   |true=>
    obtain⟨g1,g2,g3,g4,g5⟩:=he.obj id _ h1
    have:es'=[]:=g4 rfl
    subst this
    have h0:frz'=0:=by simpa using g3
    subst h0
    have hset:os.set id (.arr [] sz' ([]:List (List D)).length true)=os:=set_same h1
    rw[hset]
    simp only[Gh.slv,if_true] at h4
    subst h4
    exact⟨M,he,Since.refl ..,Rd.nil⟩
   |false=>
    simp only[Gh.slv] at h4
    rw[h4]
    obtain⟨e1,e2,e3⟩:=freeze_ok he h1
    exact⟨_,e1,e2,e3⟩
  ·cases h
 ·cases h
  exact⟨M,he,Since.refl ..,hv.1⟩
 ·rename_i id tot lo n
  obtain⟨_,es',sz',frz',nl',h1,h2,hln,h3⟩:=hv
  rw[h1] at h
  dsimp only at h
  split at h
  ·rename_i hlen
   cases h
   have h4:=h3 hlen
   obtain⟨g1,g2,g3,g4,g5⟩:=he.obj id _ h1
   cases nl' with
   |true=>
    have:es'=[]:=g4 rfl
    subst this
    have h0:frz'=0:=by simpa using g3
    subst h0
    have hl0:lo+n=0:=by simp at hlen;omega
    have hset:os.set id (.arr [] sz' (max 0 (lo+n)) true)=os:=by rw[hl0];exact set_same h1
    rw[hset]
    simp only[Gh.sbv,if_true] at h4
    subst h4
    exact⟨M,he,Since.refl ..,Rd.nil⟩
   |false=>
    unfold Gh.sbv at h4
    rw[if_neg (by simp)] at h4
    obtain⟨o,rfl,h5⟩:=h4
    obtain⟨e1,e2,e3⟩:=freezeP_ok he h1 (max frz' (lo+n)) (Nat.le_max_left ..) (by omega)
    exact⟨_,e1,e2,e3 lo n o (Nat.le_max_right ..) h5⟩
  ·cases h
 ·cases h
theorem frzCs_ok:∀(cs:List AV) {M:Mem} {os:List AO} (he:Env M G os w) {xs:List D} {os1:List AO} (h:frzCs os cs=some (xs,os1)) {vs:List Value} (hl:vs.length=cs.length)
  (hv:∀(j:Nat) c u,cs[j]?=some c->vs[j]?=some u->VC M G os c u),
  ∃M1,Env M1 G os1 w/\Since M G os w M1 G os1 w/\xs.length=cs.length/\∀(j:Nat) x u,xs[j]?=some x->vs[j]?=some u->Rd M1 x u
 |[],M,os,he,xs,os1,h,vs,hl,hv=>by
  simp only[frzCs] at h
  cases h
  exact⟨M,he,Since.refl ..,rfl,λj x u hj=>by simp at hj⟩
 |c::cs,M,os,he,xs,os1,h,vs,hl,hv=>by
  simp only[frzCs] at h
  split at h
  ·rename_i x os2 h1
   split at h
   ·rename_i ys os3 h2
    cases h
    cases vs with
    |nil=>simp at hl
    |cons v vs=>
     obtain⟨M1,e1,s1,r1⟩:=frzC_ok he h1 (hv 0 c v rfl rfl)
     obtain⟨M2,e2,s2,l2,r2⟩:=frzCs_ok cs e1 h2 (by simpa using hl) (λj c' u hj hu=>(hv (j+1) c' u (by simpa using hj) (by simpa using hu)).since s1)
     refine⟨M2,e2,s1.trans s2,by simp[l2],λj y u hj hu=>?_⟩
     cases j with
     |zero=>simp at hj hu;subst hj;subst hu;exact r1.mono s2.grow
     |succ j=>exact r2 j y u (by simpa using hj) (by simpa using hu)
   ·cases h
  ·cases h
theorem VG_of_VC{c:AV}{v:Value}(h:VC M G os c v):VG M G os c v:=by
 cases c with
 |agg cs=>exact h.elim
 |_=>exact h
def AV.isD:AV->Prop
 |.d _=>True
 |.agg cs=>∃xs:List D,cs=xs.map .d
 |_=>False
theorem agg_data{xs:List D}{vs:Array Value}(hl:vs.size=xs.length)(h:∀(j:Nat) x u,xs[j]?=some x->vs[j]?=some u->Rd M x u):VG M G os (.agg (xs.map .d)) (.agg vs):=by
 refine⟨vs,rfl,by simp[hl],λj c u hc hu=>?_⟩
 rw[List.getElem?_map] at hc
 obtain⟨x,hx,rfl⟩:=Option.map_eq_some_iff.1 hc
 exact h j x u hx hu
theorem frzG_ok(he:Env M G os w){c:AV}{x:AV}{os1:List AO}(h:frzG os c=some (x,os1)){v:Value}(hv:VG M G os c v) :
  ∃M1,Env M1 G os1 w/\Since M G os w M1 G os1 w/\VG M1 G os1 x v/\x.isD:=by
 unfold frzG at h
 split at h
 ·rename_i cs
  obtain⟨vs,rfl,h2,h3⟩:=hv
  split at h
  ·rename_i xs os2 h1
   cases h
   obtain⟨M1,e1,s1,l1,r1⟩:=frzCs_ok cs he h1 (vs:=vs.toList) (by simpa using h2) (λj c u hc hu=>h3 j c u hc (by simpa using hu))
   exact⟨M1,e1,s1,agg_data (by rw[h2,l1]) (λj x u hx hu=>r1 j x u hx (by simpa using hu)),xs,rfl⟩
  ·cases h
 ·rename_i hna
  split at h
  ·rename_i y os2 h1
   cases h
   have hv':VC M G os c v:=by
    cases c with
    |agg cs=>exact absurd rfl (hna cs)
    |_=>exact hv
   obtain⟨M1,e1,s1,r1⟩:=frzC_ok he h1 hv'
   exact⟨M1,e1,s1,r1,trivial⟩
  ·cases h
theorem VG.data{M':Mem}{G':Gh}{os':List AO}{x:AV}{v:Value}(hd:x.isD)(hg:∀a v,M a=some v->M' a=some v)(h:VG M G os x v):VG M' G' os' x v:=by
 cases x with
 |d y=>exact Rd.mono hg h
 |agg cs=>
  obtain⟨xs,rfl⟩:=hd
  obtain⟨vs,rfl,h2,h3⟩:=h
  refine⟨vs,rfl,h2,λj c u hc hu=>?_⟩
  have h4:=h3 j c u hc hu
  rw[List.getElem?_map] at hc
  obtain⟨x,hx,rfl⟩:=Option.map_eq_some_iff.1 hc
  exact Rd.mono hg h4
 |_=>exact hd.elim
theorem frzGs_ok:∀(cs:List AV) {M:Mem} {os:List AO} (he:Env M G os w) {xs:List AV} {os1:List AO} (h:frzGs os cs=some (xs,os1)) {vs:List Value} (hl:vs.length=cs.length)
  (hv:∀(j:Nat) c u,cs[j]?=some c->vs[j]?=some u->VG M G os c u),
  ∃M1,Env M1 G os1 w/\Since M G os w M1 G os1 w/\xs.length=cs.length/\(∀x∈xs,x.isD)/\∀(j:Nat) x u,xs[j]?=some x->vs[j]?=some u->VG M1 G os1 x u
 |[],M,os,he,xs,os1,h,vs,hl,hv=>by
  simp only[frzGs] at h
  cases h
  exact⟨M,he,Since.refl ..,rfl,(λ_ h=>by cases h),λj x u hj=>by simp at hj⟩
 |c::cs,M,os,he,xs,os1,h,vs,hl,hv=>by
  simp only[frzGs] at h
  split at h
  ·rename_i x os2 h1
   split at h
   ·rename_i ys os3 h2
    cases h
    cases vs with
    |nil=>simp at hl
    |cons v vs=>
     obtain⟨M1,e1,s1,r1,d1⟩:=frzG_ok he h1 (hv 0 c v rfl rfl)
     obtain⟨M2,e2,s2,l2,d2,r2⟩:=frzGs_ok cs e1 h2 (by simpa using hl) (λj c' u hj hu=>(hv (j+1) c' u (by simpa using hj) (by simpa using hu)).since s1)
     refine⟨M2,e2,s1.trans s2,by simp[l2],λy hy=>?_,λj y u hj hu=>?_⟩
     ·cases hy with
      |head=>exact d1
      |tail _ hy=>exact d2 y hy
     ·cases j with
      |zero=>simp at hj hu;subst hj;subst hu;exact r1.data d1 s2.grow
      |succ j=>exact r2 j y u (by simpa using hj) (by simpa using hu)
   ·cases h
  ·cases h
theorem add_none(b o n:Nat):(⟨b,o,none⟩:Addr).add n=⟨b,o+n,none⟩:=by unfold Addr.add;split<;>simp_all
theorem run_isAgg{t:TypeId}{g:Bool}(h:tagg P t=some g)(w:World):(isAgg t).run P w=.ok g w:=by
 unfold tagg at h
 cases hu:P.underlying t with
 |none=>rw[hu] at h;cases h
 |some d=>
  rw[hu] at h
  unfold isAgg
  cases d<;>simp at h<;>subst h<;>simp[run_underlying hu]
theorem run_size{t:TypeId}{n:Nat}(h:tsz P t=some n)(w:World):(sizeOf t).run P w=.ok n w:=by
 obtain⟨i,hi,rfl⟩:=Option.map_eq_some_iff.1 h
 simp[sizeOf,typeInfo,hi]
theorem run_loadVar_cells{t:TypeId}{g:Bool}{n:Nat}(hg:tagg P t=some g)(hn:tsz P t=some n)(b o:Nat)(cs:List Value)(hl:cs.length=if g then n else 1)
  (hc:∀(j:Nat) v,cs[j]?=some v->w.cell? ⟨b,o+j,none⟩=some v) :
  (Instr.loadAt t (.pointer (some ⟨b,o,none⟩))).run P w=.ok (if g then .agg cs.toArray else cs.headD undef) w:=by
 cases g with
 |true=>
  have hl':cs.length=n:=by simpa using hl
  have:=run_loadCells_list (P:=P) w ⟨b,o,none⟩ cs (λj v hj=>by rw[add_none];exact hc j v hj)
  rw[hl'] at this
  simp[Instr.loadAt,Instr.sureAddr,loadVar,run_isAgg hg,run_size hn,this]
 |false=>
  match cs,hl with
  |[v],_=>
   have h0:=hc 0 v rfl
   simp only[Nat.add_zero] at h0
   simp[Instr.loadAt,Instr.sureAddr,loadVar,run_isAgg hg,h0]
end
end Go.Bi
