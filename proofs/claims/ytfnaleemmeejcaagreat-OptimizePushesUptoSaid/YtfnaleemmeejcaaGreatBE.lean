/- Soundness of freezing, of loads and of stores. No condition. -/
import Derived.Test.YtfnaleemmeejcaaGreatBD
set_option linter.unusedVariables false
namespace Go.Bi
set_option linter.unusedSectionVars false
variable [N0]
section
variable {P:Program}{M:D4}{G:Gh}{os:List AO}{w:World}{ρ:D5}{a:Act}{K:AV->List AO->Prop}
theorem j4{i j n sz:Nat}(hi:i<n)(hj:j<sz):i*sz+j<n*sz:=by
 have:(i+1)*sz<=n*sz:=i6 _ hi
 rw[V8] at this
 omega
theorem C3G{os:List AO}{id:Nat}{o:AO}(h:os[id]?=some o):os.set id o=os:=by
 apply List.ext_getElem?
 intro i
 rw[A4M]
 split
 ·rename_i hi;subst hi
  rw[h];simp[(B4.1 h).1]
 ·rfl
def D4.with(M:D4)(w:World)(b n:Nat):D4:=λa=>if a.block=b/\a.spot=none/\a.off<n then w.cell? a else M a
theorem D6u(he:C9 M G os w){id:Nat}{es:List (List D)}{sz frz:Nat}(ho:os[id]?=some (.arr es sz frz false)) :
  C9 (D4.with M w (G.blk id) (es.length*sz)) G (os.set id (.arr es sz es.length false)) w/\
  G7 M G os w (D4.with M w (G.blk id) (es.length*sz)) G (os.set id (.arr es sz es.length false)) w/\
  Rd (D4.with M w (G.blk id) (es.length*sz)) (.sl es) (.slice (some ⟨G.blk id,0,none⟩) es.length (G.cap id)):=by
 obtain⟨h1,h2,h3,h4,h5⟩:=he.obj id _ ho
 obtain⟨ca,t,h6,h7,h8,h9,h10,h11⟩:=h5 rfl
 have hlt:=(B4.1 ho).1
 have hgrow:∀x v,M x=some v->D4.with M w (G.blk id) (es.length*sz) x=some v:=λx v hx=>by
  unfold D4.with
  split
  ·exact he.mem x v hx
  ·exact hx
 have hnew:∀x v,D4.with M w (G.blk id) (es.length*sz) x=some v->M x=some v\/x.block=G.blk id:=λx v hx=>by
  unfold D4.with at hx
  split at hx
  ·rename_i hc;exact .inr hc.1
  ·exact .inl hx
 have hk:P4 G G id (os.set id (.arr es sz es.length false)) (.arr es sz frz false):=⟨es,es.length,false,by simp[hlt],D3 _,λ_=>⟨rfl,rfl,rfl⟩⟩
 have hs:=A0B he (w':=w) ho rfl rfl rfl rfl rfl (λ_ _=>rfl) hgrow hnew hk
 have hcl:∀o,o<es.length*sz->D4.with M w (G.blk id) (es.length*sz) ⟨G.blk id,o,none⟩=ca[o]?:=λo ho=>by
  unfold D4.with
  rw[if_pos ⟨rfl,rfl,ho⟩]
  simp[World.cell?,h6]
 refine⟨A1B he ho rfl rfl rfl rfl rfl (λ_ _=>rfl) hgrow hnew hk (λx hx=>?_) (λx v hx hb=>?_) (λx v hx hb=>?_) ?_,hs,?_⟩
 ·unfold D4.with
  rw[if_neg (λhc=>hx hc.1)]
 ·unfold D4.with at hx
  split at hx
  ·exact hx
  ·exact he.mem x v hx
 ·refine⟨_,_,_,_,rfl,?_⟩
  unfold D4.with at hx
  split at hx
  ·rename_i hc;exact hc.2.2
  ·obtain⟨es',sz',frz',nl',h12,h13⟩:=he.sep id x v (H6.arr ho) hx hb
   rw[ho] at h12
   cases h12
   exact A3e h13 (i6 _ h3)
 ·refine⟨h1,h2,D3 _,λh=>(by cases h),λ_=>⟨ca,t,h6,h7,h8,h9,λi j e x hi hj=>?_,hcl⟩⟩
  obtain⟨u,hu,hr⟩:=h10 i j e x hi hj
  exact⟨u,hu,hr.mono hgrow⟩
 ·refine Rd.sl es (G.blk id) 0 (G.cap id) sz (λi j=>(ca[i*sz+j]?).getD undef) h8 h2 (λi j hi hj=>?_) (λi j e d hi hj=>?_)
  ·rw[A0Q,hcl _ (j4 hi hj)]
   have hsz:i*sz+j<ca.size:=by
    rw[h7]
    exact A3e (j4 hi hj) (i6 _ h8)
   simp[hsz]
  ·obtain⟨u,hu,hr⟩:=h10 i j e d hi hj
   simp only[hu,A04]
   exact hr.mono hgrow
theorem A6U(he:C9 M G os w){c:AV}{x:D}{os1:List AO}(h:A0Y os c=some (x,os1)){v:Value}(hv:VC M G os c v) :
  ∃M1,C9 M1 G os1 w/\G7 M G os w M1 G os1 w/\Rd M1 x v:=by
 unfold A0Y at h
 split at h
 ·cases h;exact⟨M,he,G7.refl ..,hv⟩
 ·rename_i id len
  obtain⟨_,es',sz',frz',nl',h1,h2,h3⟩:=hv
  rw[h1] at h
  dsimp only at h
  split at h
  ·rename_i hlen
   cases h
   have h4:=h3 hlen
   cases nl' with
   |true=>
    obtain⟨g1,g2,g3,g4,g5⟩:=he.obj id _ h1
    have:es'=[]:=g4 rfl
    subst this
    have h0:frz'=0:=by simpa using g3
    subst h0
    have hset:os.set id (.arr [] sz' ([]:List (List D)).length true)=os:=C3G h1
    rw[hset]
    simp only[Gh.slv,if_true] at h4
    subst h4
    exact⟨M,he,G7.refl ..,Rd.nil⟩
   |false=>
    simp only[Gh.slv] at h4
    rw[h4]
    obtain⟨e1,e2,e3⟩:=D6u he h1
    exact⟨_,e1,e2,e3⟩
  ·cases h
 ·cases h
theorem A6W:∀(cs:List AV){M:D4}{os:List AO}(he:C9 M G os w){xs:List D}{os1:List AO}(h:n5 os cs=some (xs,os1)){vs:List Value}(hl:vs.length=cs.length)
  (hv:∀(j:Nat) c u,cs[j]?=some c->vs[j]?=some u->VC M G os c u),
  ∃M1,C9 M1 G os1 w/\G7 M G os w M1 G os1 w/\xs.length=cs.length/\∀(j:Nat) x u,xs[j]?=some x->vs[j]?=some u->Rd M1 x u
 |[],M,os,he,xs,os1,h,vs,hl,hv=>by
  simp only[n5] at h
  cases h
  exact⟨M,he,G7.refl ..,rfl,λj x u hj=>by simp at hj⟩
 |c::cs,M,os,he,xs,os1,h,vs,hl,hv=>by
  simp only[n5] at h
  split at h
  ·rename_i x os2 h1
   split at h
   ·rename_i ys os3 h2
    cases h
    cases vs with
    |nil=>simp at hl
    |cons v vs=>
     obtain⟨M1,e1,s1,r1⟩:=A6U he h1 (hv 0 c v rfl rfl)
     obtain⟨M2,e2,s2,l2,r2⟩:=A6W cs e1 h2 (by simpa using hl) (λj c' u hj hu=>(hv (j+1) c' u (by simpa using hj) (by simpa using hu)).since s1)
     refine⟨M2,e2,s1.trans s2,by simp[l2],λj y u hj hu=>?_⟩
     cases j with
     |zero=>simp at hj hu;subst hj;subst hu;exact r1.mono s2.grow
     |succ j=>exact r2 j y u (by simpa using hj) (by simpa using hu)
   ·cases h
  ·cases h
theorem D4o{c:AV}{v:Value}(h:VC M G os c v):VG M G os c v:=by
 cases c with
 |agg cs=>exact h.elim
 |_=>exact h
def AV.isD:AV->Prop
 |.d _=>True
 |.agg cs=>∃xs:List D,cs=xs.map .d
 |_=>False
theorem C01{xs:List D}{vs:Array Value}(hl:vs.size=xs.length)(h:∀(j:Nat) x u,xs[j]?=some x->vs[j]?=some u->Rd M x u):VG M G os (.agg (xs.map .d)) (.agg vs):=by
 refine⟨vs,rfl,by simp[hl],λj c u hc hu=>?_⟩
 rw[J1] at hc
 obtain⟨x,hx,rfl⟩:=J7.1 hc
 exact h j x u hx hu
theorem C1V(he:C9 M G os w){c:AV}{x:AV}{os1:List AO}(h:A0Z os c=some (x,os1)){v:Value}(hv:VG M G os c v) :
  ∃M1,C9 M1 G os1 w/\G7 M G os w M1 G os1 w/\VG M1 G os1 x v/\x.isD:=by
 unfold A0Z at h
 split at h
 ·rename_i cs
  obtain⟨vs,rfl,h2,h3⟩:=hv
  split at h
  ·rename_i xs os2 h1
   cases h
   obtain⟨M1,e1,s1,l1,r1⟩:=A6W cs he h1 (vs:=vs.toList) (by simpa using h2) (λj c u hc hu=>h3 j c u hc (by simpa using hu))
   exact⟨M1,e1,s1,C01 (by rw[h2,l1]) (λj x u hx hu=>r1 j x u hx (by simpa using hu)),xs,rfl⟩
  ·cases h
 ·rename_i hna
  split at h
  ·rename_i y os2 h1
   cases h
   have hv':VC M G os c v:=by
    cases c with
    |agg cs=>exact absurd rfl (hna cs)
    |_=>exact hv
   obtain⟨M1,e1,s1,r1⟩:=A6U he h1 hv'
   exact⟨M1,e1,s1,r1,trivial⟩
  ·cases h
theorem VG.data{M':D4}{G':Gh}{os':List AO}{x:AV}{v:Value}(hd:x.isD)(hg:∀a v,M a=some v->M' a=some v)(h:VG M G os x v):VG M' G' os' x v:=by
 cases x with
 |d y=>exact Rd.mono hg h
 |agg cs=>
  obtain⟨xs,rfl⟩:=hd
  obtain⟨vs,rfl,h2,h3⟩:=h
  refine⟨vs,rfl,h2,λj c u hc hu=>?_⟩
  have h4:=h3 j c u hc hu
  rw[J1] at hc
  obtain⟨x,hx,rfl⟩:=J7.1 hc
  exact Rd.mono hg h4
 |_=>exact hd.elim
theorem A96:∀(cs:List AV){M:D4}{os:List AO}(he:C9 M G os w){xs:List AV}{os1:List AO}(h:Z5 os cs=some (xs,os1)){vs:List Value}(hl:vs.length=cs.length)
  (hv:∀(j:Nat) c u,cs[j]?=some c->vs[j]?=some u->VG M G os c u),
  ∃M1,C9 M1 G os1 w/\G7 M G os w M1 G os1 w/\xs.length=cs.length/\(∀x∈xs,x.isD)/\∀(j:Nat) x u,xs[j]?=some x->vs[j]?=some u->VG M1 G os1 x u
 |[],M,os,he,xs,os1,h,vs,hl,hv=>by
  simp only[Z5] at h
  cases h
  exact⟨M,he,G7.refl ..,rfl,(λ_ h=>by cases h),λj x u hj=>by simp at hj⟩
 |c::cs,M,os,he,xs,os1,h,vs,hl,hv=>by
  simp only[Z5] at h
  split at h
  ·rename_i x os2 h1
   split at h
   ·rename_i ys os3 h2
    cases h
    cases vs with
    |nil=>simp at hl
    |cons v vs=>
     obtain⟨M1,e1,s1,r1,d1⟩:=C1V he h1 (hv 0 c v rfl rfl)
     obtain⟨M2,e2,s2,l2,d2,r2⟩:=A96 cs e1 h2 (by simpa using hl) (λj c' u hj hu=>(hv (j+1) c' u (by simpa using hj) (by simpa using hu)).since s1)
     refine⟨M2,e2,s1.trans s2,by simp[l2],λy hy=>?_,λj y u hj hu=>?_⟩
     ·cases hy with
      |head=>exact d1
      |tail _ hy=>exact d2 y hy
     ·cases j with
      |zero=>simp at hj hu;subst hj;subst hu;exact r1.data d1 s2.grow
      |succ j=>exact r2 j y u (by simpa using hj) (by simpa using hu)
   ·cases h
  ·cases h
theorem A1o(b o n:Nat):(⟨b,o,none⟩:Addr).add n=⟨b,o+n,none⟩:=by unfold Addr.add;split<;>simp_all
theorem A7u{t:TypeId}{g:Bool}(h:P1 P t=some g)(w:World):(isAgg t).run P w=.ok g w:=by
 unfold P1 at h
 cases hu:P.underlying t with
 |none=>rw[hu] at h;cases h
 |some d=>
  rw[hu] at h
  unfold isAgg
  cases d<;>simp at h<;>subst h<;>simp[run_underlying hu]
theorem j9{t:TypeId}{n:Nat}(h:M3 P t=some n)(w:World):(sizeOf t).run P w=.ok n w:=by
 obtain⟨i,hi,rfl⟩:=J7.1 h
 simp[sizeOf,typeInfo,hi]
theorem D9a{t:TypeId}{g:Bool}{n:Nat}(hg:P1 P t=some g)(hn:M3 P t=some n)(b o:Nat)(cs:List Value)(hl:cs.length=if g then n else 1)
  (hc:∀(j:Nat) v,cs[j]?=some v->w.cell? ⟨b,o+j,none⟩=some v) :
  (Instr.loadAt t (.pointer (some ⟨b,o,none⟩))).run P w=.ok (if g then .agg cs.toArray else cs.headD undef) w:=by
 cases g with
 |true=>
  have hl':cs.length=n:=by simpa using hl
  have:=run_loadCells_list (P:=P) w ⟨b,o,none⟩ cs (λj v hj=>by rw[A1o];exact hc j v hj)
  rw[hl'] at this
  simp[Instr.loadAt,Instr.sureAddr,loadVar,A7u hg,j9 hn,this]
 |false=>
  match cs,hl with
  |[v],_=>
   have h0:=hc 0 v rfl
   simp only[A3d] at h0
   simp[Instr.loadAt,Instr.sureAddr,loadVar,A7u hg,h0]
end
end Go.Bi
