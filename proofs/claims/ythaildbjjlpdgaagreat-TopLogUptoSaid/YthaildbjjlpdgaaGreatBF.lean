/- Soundness of loads and stores. No condition. -/
import Derived.Test.YthaildbjjlpdgaaGreatBE
set_option linter.unusedVariables false
namespace Go.Bi
set_option linter.unusedSectionVars false
variable [Globs]
section
variable {P:Program}{M:Mem}{G:Gh}{os:List AO}{w:World}{ρ:Rho}{a:Act}{K:AV->List AO->Prop}
theorem seg_get{α:Type}(l:List α)(o n j:Nat):((l.drop o).take n)[j]?=if j<n then l[o+j]? else none:=by
 rw[List.getElem?_take]
 split<;>simp[List.getElem?_drop]
theorem setR_length{α:Type}(l:List α)(o:Nat)(ps:List α)(h:o+ps.length<=l.length):(setR l o ps).length=l.length:=by
 simp[setR];omega
theorem setR_get{α:Type}(l:List α)(o:Nat)(ps:List α)(h:o+ps.length<=l.length)(j:Nat) :
  (setR l o ps)[j]?=if j<o then l[j]? else if j<o+ps.length then ps[j-o]? else l[j]?:=by
 unfold setR
 have h1:(l.take o).length=o:=by simp;omega
 rw[List.append_assoc]
 by_cases hj:j<o
 ·rw[List.getElem?_append_left (by omega),if_pos hj,List.getElem?_take,if_pos hj]
 ·rw[List.getElem?_append_right (by omega),if_neg hj,h1]
  by_cases hj2:j<o+ps.length
  ·rw[List.getElem?_append_left (by omega),if_pos hj2]
  ·rw[List.getElem?_append_right (by omega),if_neg hj2,List.getElem?_drop]
   congr 1;omega
theorem getD_some{α:Type}{l:List α}{j:Nat}{d:α}(h:j<l.length):l[j]?=some (l.getD j d):=by
 rw[List.getD_eq_getElem?_getD,List.getElem?_eq_getElem h,Option.getD_some]
theorem load_ok(he:Env M G os w){t:TypeId}{g:Bool}{n:Nat}(hg:tagg P t=some g)(hn:tsz P t=some n){v0:Value}{Goal:Prop}(hgoal:∀u r,(Instr.loadAt t v0).run P w=.ok u w->VA M G os r u->K r os->Goal){b off:Nat}
  (hx:v0=.pointer (some ⟨b,off,none⟩)) (cs:List AV) (hl:cs.length=if g then n else 1)
  (hc:∀(j:Nat) c,cs[j]?=some c->∃u,w.cell? ⟨b,off+j,none⟩=some u/\VC M G os c u) (r:AV) (hr:r=if g then .agg cs else cs.headD .junk) (h:K r os) :
  Goal:=by
 let vs:List Value:=(List.range cs.length).map λj=>(w.cell? ⟨b,off+j,none⟩).getD undef
 have hvl:vs.length=cs.length:=by simp[vs]
 have hvg:∀(j:Nat) v,vs[j]?=some v->w.cell? ⟨b,off+j,none⟩=some v:=λj v hj=>by
  simp only[vs,List.getElem?_map] at hj
  obtain⟨k,hk,hv⟩:=Option.map_eq_some_iff.1 hj
  obtain⟨hk1,hk2⟩:=List.getElem?_eq_some_iff.1 hk
  simp at hk1 hk2
  subst hk2
  obtain⟨u,hu,_⟩:=hc j cs[j] (List.getElem?_eq_getElem hk1)
  rw[hu] at hv ⊢
  simpa using hv
 have hrun:=run_loadVar_cells (P:=P) (w:=w) hg hn b off vs (by rw[hvl,hl]) hvg
 refine hgoal (if g then .agg vs.toArray else vs.headD undef) r (by rw[hx,hrun]) ?_ h
 subst hr
 cases g with
 |true=>
  refine VA_agg_mk (by simp[hvl]) λj c u hcj hu=>?_
  obtain⟨u',hu',hv⟩:=hc j c hcj
  have:=hvg j u (by simpa using hu)
  rw[hu'] at this
  cases this
  exact hv
 |false=>
  simp only[Bool.false_eq_true,if_false] at hl ⊢
  match cs,hl with
  |[c],_=>
   obtain⟨u',hu',hv⟩:=hc 0 c rfl
   have:vs.headD undef=u':=by
    cases hvs:vs with
    |nil=>rw[hvs] at hvl;simp at hvl
    |cons y ys=>
     have:=hvg 0 y (by rw[hvs];rfl)
     rw[hu'] at this
     cases this
     rfl
   rw[this]
   simp only[List.headD_cons]
   have:=VG_of_VC hv
   cases c with
   |tup cs=>exact hv.elim
   |junk=>trivial
   |_=>exact this
theorem rd_cells{es:List (List D)}{sz:Nat}{i:Nat}(hi:i<es.length):es[i]?=some (es.getD i []):=by
 simp[List.getElem?_eq_getElem hi]
theorem mem_getD{es:List (List D)}{i:Nat}(hi:i<es.length):es.getD i []∈es:=by
 simp[hi]
theorem mem_getDA{es:List (List AV)}{i:Nat}(hi:i<es.length):es.getD i []∈es:=by
 simp[hi]
theorem loadI_run(he:Env M G os w){t:TypeId}{g:Bool}{n:Nat}(hg:tagg P t=some g)(hn:tsz P t=some n){x:AV}{v0:Value}(e1:VA M G os x v0){Goal:Prop}(ho:∀u r,(Instr.loadAt t v0).run P w=.ok u w->VA M G os r u->K r os->Goal)
  (h:loadI os g n x λr=>K r os):Goal:=by
 simp only[loadI] at h
 split at h
 ·rename_i id off
  obtain⟨hv,_⟩:=va_ptr e1
  split at h
  ·rename_i cs h2
   obtain⟨ca,t',h3,h4,h5⟩:=he.obj id _ h2
   have hcell:∀k,w.cell? ⟨G.blk id,k,none⟩=ca[k]?:=λk=>by simp[World.cell?,h3]
   cases g with
   |true=>
    simp only[if_true] at h
    refine load_ok he hg hn ho hv ((cs.drop off).take n) (by simp;omega) (λj c hc=>?_) _ rfl (by simpa using h.2)
    rw[seg_get] at hc
    split at hc
    ·have hlt:off+j<ca.size:=by
      have:=(List.getElem?_eq_some_iff.1 hc).1
      omega
     refine⟨ca[off+j],by rw[hcell];exact Array.getElem?_eq_getElem hlt,h5 _ c _ hc (Array.getElem?_eq_getElem hlt)⟩
    ·cases hc
   |false=>
    simp only[Bool.false_eq_true,if_false] at h
    refine load_ok he hg hn ho hv [cs.getD off .junk] rfl (λj c hc=>?_) _ rfl (by simpa using h.2)
    cases j with
    |succ j=>simp at hc
    |zero=>
     have hlt:off<ca.size:=by omega
     simp at hc
     refine⟨ca[off],by rw[hcell];exact Array.getElem?_eq_getElem hlt,h5 off c _ ?_ (Array.getElem?_eq_getElem hlt)⟩
     rw[<- hc,List.getElem?_eq_getElem h.1];simp
  ·exact h.elim
 ·rename_i id len i off
  split at h
  ·rename_i es sz frz nl h2
   obtain⟨hlen,hi,rfl,h⟩:=h
   obtain⟨_,es',sz',frz',nl',h3,h4,h5⟩:=e1
   rw[h2] at h3
   cases h3
   have hv:=h5 hlen
   obtain⟨g1,g2,g3,g4,g5⟩:=he.obj id _ h2
   obtain⟨ca,t',h6,h7,h8,h9,h10,h11⟩:=g5 rfl
   have hsz:(es.getD i []).length=sz:=g2 _ (mem_getD hi)
   have key:∀(j:Nat) x,(es.getD i [])[off+j]?=some x->∃u,w.cell? ⟨G.blk id,i*sz+off+j,none⟩=some u/\VC M G os (.d x) u:=λj x hj=>by
    obtain⟨u,hu,hr⟩:=h10 i (off+j) _ x (rd_cells (sz:=sz) hi) hj
    refine⟨u,?_,hr⟩
    rw[Nat.add_assoc]
    simpa[World.cell?,h6] using hu
   cases g with
   |true=>
    simp only[if_true] at h
    refine load_ok he hg hn ho hv ((((es.getD i []).drop off).take n).map .d) (by simp[List.length_take,List.length_drop] at *;omega) (λj c hc=>?_) _ rfl (by simpa using h.2)
    rw[List.getElem?_map] at hc
    obtain⟨x,hx,rfl⟩:=Option.map_eq_some_iff.1 hc
    rw[seg_get] at hx
    split at hx
    ·exact key j x hx
    ·cases hx
   |false=>
    simp only[Bool.false_eq_true,if_false] at h
    refine load_ok he hg hn ho hv [.d ((es.getD i []).getD off .nil)] rfl (λj c hc=>?_) _ rfl (by simpa using h.2)
    cases j with
    |succ j=>simp at hc
    |zero=>
     simp only[List.getElem?_cons_zero,Option.some.injEq] at hc
     subst hc
     refine key 0 _ ?_
     rw[Nat.add_zero]
     exact getD_some (by omega)
  ·exact h.elim
 ·rename_i id len i off
  split at h
  ·rename_i es sz nl h2
   obtain⟨hlen,hi,rfl,h⟩:=h
   obtain⟨_,es',sz',nl',h3,h4,h5⟩:=e1
   rw[h2] at h3
   cases h3
   have hv:=h5 hlen
   obtain⟨g1,g2,g4,g5⟩:=he.obj id _ h2
   obtain⟨ca,t',h6,h7,h8,h9,h10⟩:=g5 rfl
   have hsz:(es.getD i []).length=sz:=g2 _ (mem_getDA hi)
   have key:∀(j:Nat) x,(es.getD i [])[off+j]?=some x->∃u,w.cell? ⟨G.blk id,i*sz+off+j,none⟩=some u/\VC M G os x u:=λj x hj=>by
    obtain⟨u,hu,hr⟩:=h10 i (off+j) _ x (getD_some hi) hj
    refine⟨u,?_,hr⟩
    rw[Nat.add_assoc]
    simpa[World.cell?,h6] using hu
   cases g with
   |true=>
    simp only[if_true] at h
    refine load_ok he hg hn ho hv (((es.getD i []).drop off).take n) (by simp[List.length_take,List.length_drop] at *;omega) (λj c hc=>?_) _ rfl (by simpa using h.2)
    rw[seg_get] at hc
    split at hc
    ·exact key j c hc
    ·cases hc
   |false=>
    simp only[Bool.false_eq_true,if_false] at h
    refine load_ok he hg hn ho hv [(es.getD i []).getD off .junk] rfl (λj c hc=>?_) _ rfl (by simpa using h.2)
    cases j with
    |succ j=>simp at hc
    |zero=>
     simp only[List.getElem?_cons_zero,Option.some.injEq] at hc
     subst hc
     refine key 0 _ ?_
     rw[Nat.add_zero]
     exact getD_some (by omega)
  ·exact h.elim
 ·rename_i es i off
  obtain⟨b,ob,cap,sz,h2,h3,h4,h5,hv⟩:=e1
  obtain⟨hi,h⟩:=h
  have key:∀(j:Nat) x,(es.getD i [])[off+j]?=some x->∃u,w.cell? ⟨b,ob+(i*sz+off)+j,none⟩=some u/\VC M G os (.d x) u:=λj x hj=>by
   obtain⟨u,hu,hr⟩:=h5 i (off+j) _ x (rd_cells (sz:=sz) hi) hj
   refine⟨u,?_,hr⟩
   rw[show ob+(i*sz+off)+j=ob+(i*sz+(off+j)) by omega]
   exact he.mem _ _ hu
  cases g with
  |true=>
   simp only[if_true] at h
   refine load_ok he hg hn ho hv ((((es.getD i []).drop off).take n).map .d) (by simp[List.length_take,List.length_drop] at *;omega) (λj c hc=>?_) _ rfl (by simpa using h.2)
   rw[List.getElem?_map] at hc
   obtain⟨x,hx,rfl⟩:=Option.map_eq_some_iff.1 hc
   rw[seg_get] at hx
   split at hx
   ·exact key j x hx
   ·cases hx
  |false=>
   simp only[Bool.false_eq_true,if_false] at h
   refine load_ok he hg hn ho hv [.d ((es.getD i []).getD off .nil)] rfl (λj c hc=>?_) _ rfl (by simpa using h.2)
   cases j with
   |succ j=>simp at hc
   |zero=>
    simp only[List.getElem?_cons_zero,Option.some.injEq] at hc
    subst hc
    refine key 0 _ ?_
    rw[Nat.add_zero]
    exact getD_some (by omega)
 ·exact h.elim
theorem ok_load(he:Env M G os w)(ht:Tmps M G os ρ a){t:TypeId}{g:Bool}{n:Nat}(hg:tagg P t=some g)(hn:tsz P t=some n){o:Oper}{x:Operand}{x':Opd}(ho:o.op=.load t x)
  (hx:cO x=some x') (h:opI P ρ os K (.load g n x')):OpOK P M G os w K (execOp a.eval o):=
 loadI_run (K:=K) he hg hn (cO_ev ht hx) (λu r hr hv hk=>ok_value he (v:=u) (by simp[execOp,ho,hr]) hv hk) h
theorem cells_of{c:AV}{cs:List AV}{v:Value}(hc:c.cells=some cs)(hv:VA M G os c v) :
  v.cells.size=cs.length/\∀(j:Nat) x u,cs[j]?=some x->v.cells[j]?=some u->VC M G os x u:=by
 have key:∀c:AV,VC M G os c v->cs=[c]->v.cells.size=cs.length/\∀(j:Nat) x u,cs[j]?=some x->v.cells[j]?=some u->VC M G os x u:=by
  intro c hv hcs
  subst hcs
  have hone:v.oneCell'=true:=VC.oneCell hv
  have:v.cells=#[v]:=by cases v<;>first|rfl|cases hone
  rw[this]
  refine⟨rfl,λj x u hx hu=>?_⟩
  cases j with
  |succ j=>simp at hx
  |zero=>simp at hx hu;subst hx;subst hu;exact hv
 cases c with
 |agg xs=>
  cases hc
  obtain⟨vs,rfl,h2,h3⟩:=hv
  exact⟨h2,h3⟩
 |tup xs=>cases hc
 |junk=>cases hc
 |d x=>cases hc;exact key (.d x) hv rfl
 |ptr id off=>cases hc;exact key (.ptr id off) hv rfl
 |aptr id len i off=>cases hc;exact key (.aptr id len i off) hv rfl
 |dptr es i off=>cases hc;exact key (.dptr es i off) hv rfl
 |arr id len=>cases hc;exact key (.arr id len) hv rfl
 |clo f caps=>cases hc;exact key (.clo f caps) hv rfl
 |bcl f id=>cases hc;exact key (.bcl f id) hv rfl
 |iter id=>cases hc;exact key (.iter id) hv rfl
 |mp id=>cases hc;exact key (.mp id) hv rfl
 |mit id=>cases hc;exact key (.mit id) hv rfl
 |rs id len=>cases hc;exact key (.rs id len) hv rfl
 |rp id len i off=>cases hc;exact key (.rp id len i off) hv rfl
 |full es=>cases hc;exact key (.full es) hv rfl
 |sub id tot lo n=>cases hc;exact key (.sub id tot lo n) hv rfl
theorem run_storeAt{t:TypeId}{n:Nat}(hn:tsz P t=some n)(b off:Nat)(v:Value)(hs:v.cells.size=n)(ca:Array Value)(t':TypeId)(hh:w.heap[b]?=some (.cells ca t' (0,0)))
  (hfit:off+n<=ca.size) (h1:∀u∈v.cells.toList,u.oneCell'=true) :
  (Instr.storeAt t (.pointer (some ⟨b,off,none⟩)) v).run P w=.ok () (w.setRow b (setR ca.toList off v.cells.toList).toArray):=by
 have:=run_storeCells_at P b off t' v.cells.toList 0 ca w hh (by simpa[hs] using hfit) h1
 simp only[Nat.add_zero] at this
 simp[Instr.storeAt,Instr.sureAddr,storeVar,run_size hn,hs,this,setR]
theorem list_get{α:Type}{l:Array α}{j:Nat}:l.toList[j]?=l[j]?:=by simp
theorem ok_store(he:Env M G os w)(ht:Tmps M G os ρ a){t:TypeId}{n:Nat}(hn:tsz P t=some n){o:Oper}{x v:Operand}{x' v':Opd}(ho:o.op=.store t x v)
  (hx:cO x=some x') (hv:cO v=some v') (h:opI P ρ os K (.store n x' v')):OpOK P M G os w K (execOp a.eval o):=by
 have e1:=cO_ev ht hx
 have e2:=cO_ev ht hv
 simp only[opI,storeI] at h
 split at h
 ·exact h.elim
 rename_i vc hvc
 obtain⟨c1,c2⟩:=cells_of hvc e2
 have hone:∀u∈(a.eval v).cells.toList,u.oneCell'=true:=λu hu=>by
  obtain⟨j,hj,rfl⟩:=List.mem_iff_getElem.1 hu
  have hj':j<vc.length:=by simpa[c1] using hj
  exact VC.oneCell (c2 j vc[j] _ (List.getElem?_eq_getElem hj') (by rw[<- list_get,List.getElem?_eq_getElem hj]))
 split at h
 ·rename_i id off h1
  rw[h1] at e1
  obtain⟨hpv,_⟩:=va_ptr e1
  split at h
  ·rename_i cs h2
   obtain⟨g1,g2,g3⟩:=h
   obtain⟨ca,t',h3,h4,h5⟩:=he.obj id _ h2
   have hlt:=(List.getElem?_eq_some_iff.1 h2).1
   have hrun:=run_storeAt (P:=P) (w:=w) hn (G.blk id) off (a.eval v) (by omega) ca t' h3 (by omega) hone
   have hk:Keeps G G id (os.set id (.cells (setR cs off vc))) (.cells cs):=⟨rfl,_,by simp[hlt];rfl⟩
   have hoth:∀b,b≠G.blk id->(w.setRow (G.blk id) (setR ca.toList off (a.eval v).cells.toList).toArray).heap[b]?=w.heap[b]?:=λb hb=>setRow_other w _ b _ hb
   have hnoM:∀y u,M y=some u->y.block=G.blk id->False:=λy u hy hb=>by
    obtain⟨es,sz,frz,nl,h6,_⟩:=he.sep id y u (Live.cells h2) hy hb
    rw[h2] at h6;cases h6
   have hs:=since_upd he h2 rfl (w':=w.setRow (G.blk id) (setR ca.toList off (a.eval v).cells.toList).toArray) rfl rfl rfl (by simp) hoth (λ_ _ h=>h) (λ_ _ h=>.inl h) hk
   refine ok_skip (w':=w.setRow (G.blk id) (setR ca.toList off (a.eval v).cells.toList).toArray) (by simp[execOp,ho,hpv,hrun]) ?_ hs g3
   refine env_upd he h2 rfl rfl rfl rfl (by simp) hoth (λ_ _ h=>h) (λ_ _ h=>.inl h) hk (λ_ _=>rfl) (λy u hy hb=>(hnoM y u hy hb).elim) (λy u hy hb=>(hnoM y u hy hb).elim) ?_
   refine⟨_,t',setRow_heap w _ ca _ t' _ h3,?_,λj c u hc hu=>?_⟩
   ·simp only[List.size_toArray]
    rw[setR_length _ _ _ (by simp;omega),setR_length _ _ _ (by omega)]
    simpa using h4
   ·rw[List.getElem?_toArray,setR_get _ _ _ (by simp;omega)] at hu
    rw[setR_get _ _ _ (by omega)] at hc
    split at hc
    ·rw[if_pos ‹_›] at hu
     exact(h5 j c u hc (by simpa using hu)).since hs
    ·rename_i hno
     rw[if_neg hno] at hu
     split at hc
     ·rename_i hin
      rw[if_pos (by simp;omega)] at hu
      exact(c2 (j-off) c u hc (by simpa using hu)).since hs
     ·rename_i hin
      rw[if_neg (by simp;omega)] at hu
      exact(h5 j c u hc (by simpa using hu)).since hs
  ·exact h.elim
 ·rename_i id len i off h1
  rw[h1] at e1
  split at h
  ·rename_i xs os1 hf
   obtain⟨M1,e3,s3,l3,r3⟩:=frzCs_ok vc he hf (vs:=(a.eval v).cells.toList) (by simpa using c1) (λj c u hc hu=>c2 j c u hc (by simpa using hu))
   have e1':=VA.since s3 e1
   split at h
   ·rename_i es sz frz nl h2
    obtain⟨q1,q2,q3,rfl,q5,q6,q7⟩:=h
    obtain⟨_,es',sz',frz',nl',h3,h4,h5⟩:=e1'
    rw[h2] at h3
    cases h3
    have hpv:=h5 q1
    obtain⟨g1,g2,g3,g4,g5⟩:=e3.obj id _ h2
    obtain⟨ca,t',h6,h7,h8,h9,h10,h11⟩:=g5 rfl
    have hlt:=(List.getElem?_eq_some_iff.1 h2).1
    have hei:(es.getD i []).length=sz:=g2 _ (mem_getD q3)
    have hfit:i*sz+off+n<=ca.size:=by
     have:(i+1)*sz<=G.cap id*sz:=Nat.mul_le_mul_right _ (by omega)
     rw[Nat.add_mul] at this
     omega
    have hrun:=run_storeAt (P:=P) (w:=w) hn (G.blk id) (i*sz+off) (a.eval v) (by omega) ca t' h6 hfit hone
    have hxl:xs.length=(a.eval v).cells.toList.length:=by simp;omega
    have hsl:(setR (es.getD i []) off xs).length=sz:=by rw[setR_length _ _ _ (by omega),hei]
    have hk:Keeps G G id (os1.set id (.arr (es.set i (setR (es.getD i []) off xs)) sz frz false)) (.arr es sz frz false):=⟨_,frz,false,by simp[hlt];rfl,by simp,λ_=>⟨rfl,rfl,rfl⟩⟩
    have hoth:∀b,b≠G.blk id->(w.setRow (G.blk id) (setR ca.toList (i*sz+off) (a.eval v).cells.toList).toArray).heap[b]?=w.heap[b]?:=λb hb=>setRow_other w _ b _ hb
    have hMin:∀y u,M1 y=some u->y.block=G.blk id->y.off<frz*sz:=λy u hy hb=>by
     obtain⟨es',sz',frz',nl',h12,h13⟩:=e3.sep id y u (Live.arr h2) hy hb
     rw[h2] at h12;cases h12
     exact h13
    have hfi:frz*sz<=i*sz:=Nat.mul_le_mul_right _ q2
    have hget:∀k,(setR ca.toList (i*sz+off) (a.eval v).cells.toList).toArray[k]?=if k<i*sz+off then ca[k]? else if k<i*sz+off+n then (a.eval v).cells[k-(i*sz+off)]? else ca[k]?:=λk=>by
     rw[List.getElem?_toArray,setR_get _ _ _ (by simp;omega)]
     simp only[list_get,Array.length_toList]
     rw[show(a.eval v).cells.size=n by omega]
    have hs:=since_upd e3 h2 rfl (w':=w.setRow (G.blk id) (setR ca.toList (i*sz+off) (a.eval v).cells.toList).toArray) rfl rfl rfl (by simp) hoth (λ_ _ h=>h) (λ_ _ h=>.inl h) hk
    refine ok_skip (w':=w.setRow (G.blk id) (setR ca.toList (i*sz+off) (a.eval v).cells.toList).toArray) (by simp[execOp,ho,hpv,hrun]) ?_ (s3.trans hs) q7
    refine env_upd e3 h2 rfl rfl rfl rfl (by simp) hoth (λ_ _ h=>h) (λ_ _ h=>.inl h) hk (λ_ _=>rfl) (λy u hy hb=>?_) (λy u hy hb=>⟨_,_,_,_,rfl,hMin y u hy hb⟩) ?_
    ·have hold:=e3.mem y u hy
     have:=hMin y u hy hb
     simp only[World.cell?,hb,h6,setRow_heap w _ ca _ t' _ h6] at hold ⊢
     rw[hget,if_pos (show y.off<i*sz+off by omega)]
     exact hold
    ·refine⟨g1,λe he'=>?_,by simpa using g3,λh=>(by cases h),λ_=>⟨_,t',setRow_heap w _ ca _ t' _ h6,?_,by simpa using h8,h9,λi' j e x hi' hj=>?_,λk hk'=>?_⟩⟩
     ·rcases List.mem_or_eq_of_mem_set he' with h|rfl
      ·exact g2 e h
      ·exact hsl
     ·simp only[List.size_toArray]
      rw[setR_length _ _ _ (by simp;omega)]
      simpa using h7
     ·rw[hget]
      rw[List.getElem?_set] at hi'
      split at hi'
      ·rename_i hii
       subst hii
       cases hi'
       rw[setR_get _ _ _ (by omega)] at hj
       split at hj
       ·rename_i hjo
        rw[if_pos (by omega)]
        exact(h10 i j _ x (rd_cells (sz:=sz) q3) hj)
       ·rename_i hjo
        rw[if_neg (by omega)]
        split at hj
        ·rename_i hjn
         rw[if_pos (by omega)]
         have hjl:=(List.getElem?_eq_some_iff.1 hj).1
         have hvl:j-off<(a.eval v).cells.size:=by omega
         refine⟨(a.eval v).cells[j-off],?_,r3 (j-off) x _ hj ?_⟩
         ·rw[show i*sz+j-(i*sz+off)=j-off by omega]
          exact Array.getElem?_eq_getElem hvl
         ·rw[list_get];exact Array.getElem?_eq_getElem hvl
        ·rename_i hjn
         rw[if_neg (by omega)]
         exact(h10 i j _ x (rd_cells (sz:=sz) q3) hj)
      ·rename_i hne
       obtain⟨u,hu,hr⟩:=h10 i' j e x hi' hj
       have hjs:j<sz:=by
        have:=g2 e (List.mem_of_getElem? hi')
        have:=(List.getElem?_eq_some_iff.1 hj).1
        omega
       refine⟨u,?_,hr⟩
       rcases Nat.lt_or_gt_of_ne (λh=>hne h:i≠i') with hlt'|hlt'
       ·have:(i+1)*sz<=i'*sz:=Nat.mul_le_mul_right _ hlt'
        rw[Nat.add_mul] at this
        rw[if_neg (by omega),if_neg (by omega)]
        exact hu
       ·have:(i'+1)*sz<=i*sz:=Nat.mul_le_mul_right _ hlt'
        rw[Nat.add_mul] at this
        rw[if_pos (by omega)]
        exact hu
     ·rw[h11 k hk',hget,if_pos (by omega)]
   ·exact h.elim
  ·exact h.elim
 ·exact h.elim
end
end Go.Bi
