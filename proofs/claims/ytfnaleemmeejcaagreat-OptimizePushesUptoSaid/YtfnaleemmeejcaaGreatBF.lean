/- Soundness of loads and stores. No condition. -/
import Derived.Test.YtfnaleemmeejcaaGreatBE
set_option linter.unusedVariables false
namespace Go.Bi
set_option linter.unusedSectionVars false
variable [N0]
section
variable {P:Program}{M:D4}{G:Gh}{os:List AO}{w:World}{ρ:D5}{a:Act}{K:AV->List AO->Prop}
theorem A3P{α:Type}(l:List α)(o n j:Nat):((l.drop o).take n)[j]?=if j<n then l[o+j]? else none:=by
 rw[A02]
 split<;>simp[List.getElem?_drop]
theorem A2Y{α:Type}(l:List α)(o:Nat)(ps:List α)(h:o+ps.length<=l.length):(I6 l o ps).length=l.length:=by
 simp[I6];omega
theorem A2k{α:Type}(l:List α)(o:Nat)(ps:List α)(h:o+ps.length<=l.length)(j:Nat) :
  (I6 l o ps)[j]?=if j<o then l[j]? else if j<o+ps.length then ps[j-o]? else l[j]?:=by
 unfold I6
 have h1:(l.take o).length=o:=by simp;omega
 rw[S6]
 by_cases hj:j<o
 ·rw[P8 (by omega),if_pos hj,A02,if_pos hj]
 ·rw[W4 (by omega),if_neg hj,h1]
  by_cases hj2:j<o+ps.length
  ·rw[P8 (by omega),if_pos hj2]
  ·rw[W4 (by omega),if_neg hj2,List.getElem?_drop]
   congr 1;omega
theorem getD_some{α:Type}{l:List α}{j:Nat}{d:α}(h:j<l.length):l[j]?=some (l.getD j d):=by
 rw[I4,F4 h,A04]
theorem A3E(he:C9 M G os w){t:TypeId}{g:Bool}{n:Nat}(hg:P1 P t=some g)(hn:M3 P t=some n){v0:Value}{Goal:Prop}(hgoal:∀u r,(Instr.loadAt t v0).run P w=.ok u w->VA M G os r u->K r os->Goal){b off:Nat}
  (hx:v0=.pointer (some ⟨b,off,none⟩)) (cs:List AV) (hl:cs.length=if g then n else 1)
  (hc:∀(j:Nat) c,cs[j]?=some c->∃u,w.cell? ⟨b,off+j,none⟩=some u/\VC M G os c u) (r:AV) (hr:r=if g then .agg cs else cs.headD .junk) (h:K r os) :
  Goal:=by
 let vs:List Value:=(List.range cs.length).map λj=>(w.cell? ⟨b,off+j,none⟩).getD undef
 have hvl:vs.length=cs.length:=by simp[vs]
 have hvg:∀(j:Nat) v,vs[j]?=some v->w.cell? ⟨b,off+j,none⟩=some v:=λj v hj=>by
  simp only[vs,J1] at hj
  obtain⟨k,hk,hv⟩:=J7.1 hj
  obtain⟨hk1,hk2⟩:=B4.1 hk
  simp at hk1 hk2
  subst hk2
  obtain⟨u,hu,_⟩:=hc j cs[j] (F4 hk1)
  rw[hu] at hv ⊢
  simpa using hv
 have hrun:=D9a (P:=P) (w:=w) hg hn b off vs (by rw[hvl,hl]) hvg
 refine hgoal (if g then .agg vs.toArray else vs.headD undef) r (by rw[hx,hrun]) ?_ h
 subst hr
 cases g with
 |true=>
  refine B1p (by simp[hvl]) λj c u hcj hu=>?_
  obtain⟨u',hu',hv⟩:=hc j c hcj
  have:=hvg j u (by simpa using hu)
  rw[hu'] at this
  cases this
  exact hv
 |false=>
  simp only[O2,if_false] at hl ⊢
  match cs,hl with
  |[c],_=>
   obtain⟨u',hu',hv⟩:=hc 0 c rfl
   have:vs.headD undef=u':=by
    cases hvs:vs with
    |nil=>rw[hvs] at hvl;simp at hvl
    |cons y ys=>
     have:=hvg 0 y (by rw[hvs];rfl)
     rw[hu'] at this
     cases this
     rfl
   rw[this]
   simp only[List.headD_cons]
   have:=D4o hv
   cases c with
   |tup cs=>exact hv.elim
   |junk=>trivial
   |_=>exact this
theorem A9x{es:List (List D)}{sz:Nat}{i:Nat}(hi:i<es.length):es[i]?=some (es.getD i []):=by
 simp[F4 hi]
theorem A5w{es:List (List D)}{i:Nat}(hi:i<es.length):es.getD i []∈es:=by
 simp[hi]
theorem D7z{es:List (List AV)}{i:Nat}(hi:i<es.length):es.getD i []∈es:=by
 simp[hi]
theorem C2q(he:C9 M G os w){t:TypeId}{g:Bool}{n:Nat}(hg:P1 P t=some g)(hn:M3 P t=some n){x:AV}{v0:Value}(e1:VA M G os x v0){Goal:Prop}(ho:∀u r,(Instr.loadAt t v0).run P w=.ok u w->VA M G os r u->K r os->Goal)
  (h:Y5 os g n x λr=>K r os):Goal:=by
 simp only[Y5] at h
 split at h
 ·rename_i id off
  obtain⟨hv,_⟩:=A7L e1
  split at h
  ·rename_i cs h2
   obtain⟨ca,t',h3,h4,h5⟩:=he.obj id _ h2
   have hcell:∀k,w.cell? ⟨G.blk id,k,none⟩=ca[k]?:=λk=>by simp[World.cell?,h3]
   cases g with
   |true=>
    simp only[if_true] at h
    refine A3E he hg hn ho hv ((cs.drop off).take n) (by simp;omega) (λj c hc=>?_) _ rfl (by simpa using h.2)
    rw[A3P] at hc
    split at hc
    ·have hlt:off+j<ca.size:=by
      have:=(B4.1 hc).1
      omega
     refine⟨ca[off+j],by rw[hcell];exact O0 hlt,h5 _ c _ hc (O0 hlt)⟩
    ·cases hc
   |false=>
    simp only[O2,if_false] at h
    refine A3E he hg hn ho hv [cs.getD off .junk] rfl (λj c hc=>?_) _ rfl (by simpa using h.2)
    cases j with
    |succ j=>simp at hc
    |zero=>
     have hlt:off<ca.size:=by omega
     simp at hc
     refine⟨ca[off],by rw[hcell];exact O0 hlt,h5 off c _ ?_ (O0 hlt)⟩
     rw[<- hc,F4 h.1];simp
  ·exact h.elim
 ·rename_i id len i off
  split at h
  ·rename_i es sz frz nl h2
   obtain⟨hlen,hi,rfl,h⟩:=h
   obtain⟨_,es',sz',frz',nl',h3,h4,h5⟩:=e1
   rw[h2] at h3
   cases h3
   have hv:=h5 hlen
   obtain⟨g1,g2,g3,g4,g5⟩:=he.obj id _ h2
   obtain⟨ca,t',h6,h7,h8,h9,h10,h11⟩:=g5 rfl
   have hsz:(es.getD i []).length=sz:=g2 _ (A5w hi)
   have key:∀(j:Nat) x,(es.getD i [])[off+j]?=some x->∃u,w.cell? ⟨G.blk id,i*sz+off+j,none⟩=some u/\VC M G os (.d x) u:=λj x hj=>by
    obtain⟨u,hu,hr⟩:=h10 i (off+j) _ x (A9x (sz:=sz) hi) hj
    refine⟨u,?_,hr⟩
    rw[Nat.add_assoc]
    simpa[World.cell?,h6] using hu
   cases g with
   |true=>
    simp only[if_true] at h
    refine A3E he hg hn ho hv ((((es.getD i []).drop off).take n).map .d) (by simp[M4,Y2] at *;omega) (λj c hc=>?_) _ rfl (by simpa using h.2)
    rw[J1] at hc
    obtain⟨x,hx,rfl⟩:=J7.1 hc
    rw[A3P] at hx
    split at hx
    ·exact key j x hx
    ·cases hx
   |false=>
    simp only[O2,if_false] at h
    refine A3E he hg hn ho hv [.d ((es.getD i []).getD off .nil)] rfl (λj c hc=>?_) _ rfl (by simpa using h.2)
    cases j with
    |succ j=>simp at hc
    |zero=>
     simp only[A2y,A4U] at hc
     subst hc
     refine key 0 _ ?_
     rw[A3d]
     exact getD_some (by omega)
  ·exact h.elim
 ·rename_i id len i off
  split at h
  ·rename_i es sz nl h2
   obtain⟨hlen,hi,rfl,h⟩:=h
   obtain⟨_,es',sz',nl',h3,h4,h5⟩:=e1
   rw[h2] at h3
   cases h3
   have hv:=h5 hlen
   obtain⟨g1,g2,g4,g5⟩:=he.obj id _ h2
   obtain⟨ca,t',h6,h7,h8,h9,h10⟩:=g5 rfl
   have hsz:(es.getD i []).length=sz:=g2 _ (D7z hi)
   have key:∀(j:Nat) x,(es.getD i [])[off+j]?=some x->∃u,w.cell? ⟨G.blk id,i*sz+off+j,none⟩=some u/\VC M G os x u:=λj x hj=>by
    obtain⟨u,hu,hr⟩:=h10 i (off+j) _ x (getD_some hi) hj
    refine⟨u,?_,hr⟩
    rw[Nat.add_assoc]
    simpa[World.cell?,h6] using hu
   cases g with
   |true=>
    simp only[if_true] at h
    refine A3E he hg hn ho hv (((es.getD i []).drop off).take n) (by simp[M4,Y2] at *;omega) (λj c hc=>?_) _ rfl (by simpa using h.2)
    rw[A3P] at hc
    split at hc
    ·exact key j c hc
    ·cases hc
   |false=>
    simp only[O2,if_false] at h
    refine A3E he hg hn ho hv [(es.getD i []).getD off .junk] rfl (λj c hc=>?_) _ rfl (by simpa using h.2)
    cases j with
    |succ j=>simp at hc
    |zero=>
     simp only[A2y,A4U] at hc
     subst hc
     refine key 0 _ ?_
     rw[A3d]
     exact getD_some (by omega)
  ·exact h.elim
 ·rename_i es i off
  obtain⟨b,ob,cap,sz,h2,h3,h4,h5,hv⟩:=e1
  obtain⟨hi,h⟩:=h
  have key:∀(j:Nat) x,(es.getD i [])[off+j]?=some x->∃u,w.cell? ⟨b,ob+(i*sz+off)+j,none⟩=some u/\VC M G os (.d x) u:=λj x hj=>by
   obtain⟨u,hu,hr⟩:=h5 i (off+j) _ x (A9x (sz:=sz) hi) hj
   refine⟨u,?_,hr⟩
   rw[show ob+(i*sz+off)+j=ob+(i*sz+(off+j)) by omega]
   exact he.mem _ _ hu
  cases g with
  |true=>
   simp only[if_true] at h
   refine A3E he hg hn ho hv ((((es.getD i []).drop off).take n).map .d) (by simp[M4,Y2] at *;omega) (λj c hc=>?_) _ rfl (by simpa using h.2)
   rw[J1] at hc
   obtain⟨x,hx,rfl⟩:=J7.1 hc
   rw[A3P] at hx
   split at hx
   ·exact key j x hx
   ·cases hx
  |false=>
   simp only[O2,if_false] at h
   refine A3E he hg hn ho hv [.d ((es.getD i []).getD off .nil)] rfl (λj c hc=>?_) _ rfl (by simpa using h.2)
   cases j with
   |succ j=>simp at hc
   |zero=>
    simp only[A2y,A4U] at hc
    subst hc
    refine key 0 _ ?_
    rw[A3d]
    exact getD_some (by omega)
 ·exact h.elim
theorem D8c(he:C9 M G os w)(ht:J3 M G os ρ a){t:TypeId}{g:Bool}{n:Nat}(hg:P1 P t=some g)(hn:M3 P t=some n){o:Oper}{x:Operand}{x':C1}(ho:o.op=.load t x)
  (hx:cO x=some x') (h:A7 P ρ os K (.load g n x')):G6 P M G os w K (execOp a.eval o):=
 C2q (K:=K) he hg hn (I8 ht hx) (λu r hr hv hk=>L4 he (v:=u) (by simp[execOp,ho,hr]) hv hk) h
theorem A8E{c:AV}{cs:List AV}{v:Value}(hc:c.cells=some cs)(hv:VA M G os c v) :
  v.cells.size=cs.length/\∀(j:Nat) x u,cs[j]?=some x->v.cells[j]?=some u->VC M G os x u:=by
 have key:∀c:AV,VC M G os c v->cs=[c]->v.cells.size=cs.length/\∀(j:Nat) x u,cs[j]?=some x->v.cells[j]?=some u->VC M G os x u:=by
  intro c hv hcs
  subst hcs
  have hone:v.oneCell'=true:=VC.oneCell hv
  have:v.cells=#[v]:=by cases v<;>first|rfl|cases hone
  rw[this]
  refine⟨rfl,λj x u hx hu=>?_⟩
  cases j with
  |succ j=>simp at hx
  |zero=>simp at hx hu;subst hx;subst hu;exact hv
 cases c with
 |agg xs=>
  cases hc
  obtain⟨vs,rfl,h2,h3⟩:=hv
  exact⟨h2,h3⟩
 |tup xs=>cases hc
 |junk=>cases hc
 |d x=>cases hc;exact key (.d x) hv rfl
 |ptr id off=>cases hc;exact key (.ptr id off) hv rfl
 |aptr id len i off=>cases hc;exact key (.aptr id len i off) hv rfl
 |dptr es i off=>cases hc;exact key (.dptr es i off) hv rfl
 |arr id len=>cases hc;exact key (.arr id len) hv rfl
 |clo f caps=>cases hc;exact key (.clo f caps) hv rfl
 |bcl f id=>cases hc;exact key (.bcl f id) hv rfl
 |iter id=>cases hc;exact key (.iter id) hv rfl
 |mp id=>cases hc;exact key (.mp id) hv rfl
 |mit id=>cases hc;exact key (.mit id) hv rfl
 |rs id len=>cases hc;exact key (.rs id len) hv rfl
 |rp id len i off=>cases hc;exact key (.rp id len i off) hv rfl
theorem C3z{t:TypeId}{n:Nat}(hn:M3 P t=some n)(b off:Nat)(v:Value)(hs:v.cells.size=n)(ca:Array Value)(t':TypeId)(hh:w.heap[b]?=some (.cells ca t' (0,0)))
  (hfit:off+n<=ca.size) (h1:∀u∈v.cells.toList,u.oneCell'=true) :
  (Instr.storeAt t (.pointer (some ⟨b,off,none⟩)) v).run P w=.ok () (w.setRow b (I6 ca.toList off v.cells.toList).toArray):=by
 have:=run_storeCells_at P b off t' v.cells.toList 0 ca w hh (by simpa[hs] using hfit) h1
 simp only[A3d] at this
 simp[Instr.storeAt,Instr.sureAddr,storeVar,j9 hn,hs,this,I6]
theorem A11{α:Type}{l:Array α}{j:Nat}:l.toList[j]?=l[j]?:=by simp
theorem D8p(he:C9 M G os w)(ht:J3 M G os ρ a){t:TypeId}{n:Nat}(hn:M3 P t=some n){o:Oper}{x v:Operand}{x' v':C1}(ho:o.op=.store t x v)
  (hx:cO x=some x') (hv:cO v=some v') (h:A7 P ρ os K (.store n x' v')):G6 P M G os w K (execOp a.eval o):=by
 have e1:=I8 ht hx
 have e2:=I8 ht hv
 simp only[A7,A1O] at h
 split at h
 ·exact h.elim
 rename_i vc hvc
 obtain⟨c1,c2⟩:=A8E hvc e2
 have hone:∀u∈(a.eval v).cells.toList,u.oneCell'=true:=λu hu=>by
  obtain⟨j,hj,rfl⟩:=A1n.1 hu
  have hj':j<vc.length:=by simpa[c1] using hj
  exact VC.oneCell (c2 j vc[j] _ (F4 hj') (by rw[<- A11,F4 hj]))
 split at h
 ·rename_i id off h1
  rw[h1] at e1
  obtain⟨hpv,_⟩:=A7L e1
  split at h
  ·rename_i cs h2
   obtain⟨g1,g2,g3⟩:=h
   obtain⟨ca,t',h3,h4,h5⟩:=he.obj id _ h2
   have hlt:=(B4.1 h2).1
   have hrun:=C3z (P:=P) (w:=w) hn (G.blk id) off (a.eval v) (by omega) ca t' h3 (by omega) hone
   have hk:P4 G G id (os.set id (.cells (I6 cs off vc))) (.cells cs):=⟨rfl,_,by simp[hlt];rfl⟩
   have hoth:∀b,b≠G.blk id->(w.setRow (G.blk id) (I6 ca.toList off (a.eval v).cells.toList).toArray).heap[b]?=w.heap[b]?:=λb hb=>setRow_other w _ b _ hb
   have hnoM:∀y u,M y=some u->y.block=G.blk id->False:=λy u hy hb=>by
    obtain⟨es,sz,frz,nl,h6,_⟩:=he.sep id y u (H6.cells h2) hy hb
    rw[h2] at h6;cases h6
   have hs:=A0B he h2 rfl (w':=w.setRow (G.blk id) (I6 ca.toList off (a.eval v).cells.toList).toArray) rfl rfl rfl (by simp) hoth (λ_ _ h=>h) (λ_ _ h=>.inl h) hk
   refine B2A (w':=w.setRow (G.blk id) (I6 ca.toList off (a.eval v).cells.toList).toArray) (by simp[execOp,ho,hpv,hrun]) ?_ hs g3
   refine A1B he h2 rfl rfl rfl rfl (by simp) hoth (λ_ _ h=>h) (λ_ _ h=>.inl h) hk (λ_ _=>rfl) (λy u hy hb=>(hnoM y u hy hb).elim) (λy u hy hb=>(hnoM y u hy hb).elim) ?_
   refine⟨_,t',setRow_heap w _ ca _ t' _ h3,?_,λj c u hc hu=>?_⟩
   ·simp only[A3a]
    rw[A2Y _ _ _ (by simp;omega),A2Y _ _ _ (by omega)]
    simpa using h4
   ·rw[A4N,A2k _ _ _ (by simp;omega)] at hu
    rw[A2k _ _ _ (by omega)] at hc
    split at hc
    ·rw[if_pos ‹_›] at hu
     exact(h5 j c u hc (by simpa using hu)).since hs
    ·rename_i hno
     rw[if_neg hno] at hu
     split at hc
     ·rename_i hin
      rw[if_pos (by simp;omega)] at hu
      exact(c2 (j-off) c u hc (by simpa using hu)).since hs
     ·rename_i hin
      rw[if_neg (by simp;omega)] at hu
      exact(h5 j c u hc (by simpa using hu)).since hs
  ·exact h.elim
 ·rename_i id len i off h1
  rw[h1] at e1
  split at h
  ·rename_i xs os1 hf
   obtain⟨M1,e3,s3,l3,r3⟩:=A6W vc he hf (vs:=(a.eval v).cells.toList) (by simpa using c1) (λj c u hc hu=>c2 j c u hc (by simpa using hu))
   have e1':=VA.since s3 e1
   split at h
   ·rename_i es sz frz nl h2
    obtain⟨q1,q2,q3,rfl,q5,q6,q7⟩:=h
    obtain⟨_,es',sz',frz',nl',h3,h4,h5⟩:=e1'
    rw[h2] at h3
    cases h3
    have hpv:=h5 q1
    obtain⟨g1,g2,g3,g4,g5⟩:=e3.obj id _ h2
    obtain⟨ca,t',h6,h7,h8,h9,h10,h11⟩:=g5 rfl
    have hlt:=(B4.1 h2).1
    have hei:(es.getD i []).length=sz:=g2 _ (A5w q3)
    have hfit:i*sz+off+n<=ca.size:=by
     have:(i+1)*sz<=G.cap id*sz:=i6 _ (by omega)
     rw[V8] at this
     omega
    have hrun:=C3z (P:=P) (w:=w) hn (G.blk id) (i*sz+off) (a.eval v) (by omega) ca t' h6 hfit hone
    have hxl:xs.length=(a.eval v).cells.toList.length:=by simp;omega
    have hsl:(I6 (es.getD i []) off xs).length=sz:=by rw[A2Y _ _ _ (by omega),hei]
    have hk:P4 G G id (os1.set id (.arr (es.set i (I6 (es.getD i []) off xs)) sz frz false)) (.arr es sz frz false):=⟨_,frz,false,by simp[hlt];rfl,by simp,λ_=>⟨rfl,rfl,rfl⟩⟩
    have hoth:∀b,b≠G.blk id->(w.setRow (G.blk id) (I6 ca.toList (i*sz+off) (a.eval v).cells.toList).toArray).heap[b]?=w.heap[b]?:=λb hb=>setRow_other w _ b _ hb
    have hMin:∀y u,M1 y=some u->y.block=G.blk id->y.off<frz*sz:=λy u hy hb=>by
     obtain⟨es',sz',frz',nl',h12,h13⟩:=e3.sep id y u (H6.arr h2) hy hb
     rw[h2] at h12;cases h12
     exact h13
    have hfi:frz*sz<=i*sz:=i6 _ q2
    have hget:∀k,(I6 ca.toList (i*sz+off) (a.eval v).cells.toList).toArray[k]?=if k<i*sz+off then ca[k]? else if k<i*sz+off+n then (a.eval v).cells[k-(i*sz+off)]? else ca[k]?:=λk=>by
     rw[A4N,A2k _ _ _ (by simp;omega)]
     simp only[A11,Array.length_toList]
     rw[show(a.eval v).cells.size=n by omega]
    have hs:=A0B e3 h2 rfl (w':=w.setRow (G.blk id) (I6 ca.toList (i*sz+off) (a.eval v).cells.toList).toArray) rfl rfl rfl (by simp) hoth (λ_ _ h=>h) (λ_ _ h=>.inl h) hk
    refine B2A (w':=w.setRow (G.blk id) (I6 ca.toList (i*sz+off) (a.eval v).cells.toList).toArray) (by simp[execOp,ho,hpv,hrun]) ?_ (s3.trans hs) q7
    refine A1B e3 h2 rfl rfl rfl rfl (by simp) hoth (λ_ _ h=>h) (λ_ _ h=>.inl h) hk (λ_ _=>rfl) (λy u hy hb=>?_) (λy u hy hb=>⟨_,_,_,_,rfl,hMin y u hy hb⟩) ?_
    ·have hold:=e3.mem y u hy
     have:=hMin y u hy hb
     simp only[World.cell?,hb,h6,setRow_heap w _ ca _ t' _ h6] at hold ⊢
     rw[hget,if_pos (show y.off<i*sz+off by omega)]
     exact hold
    ·refine⟨g1,λe he'=>?_,by simpa using g3,λh=>(by cases h),λ_=>⟨_,t',setRow_heap w _ ca _ t' _ h6,?_,by simpa using h8,h9,λi' j e x hi' hj=>?_,λk hk'=>?_⟩⟩
     ·rcases List.mem_or_eq_of_mem_set he' with h|rfl
      ·exact g2 e h
      ·exact hsl
     ·simp only[A3a]
      rw[A2Y _ _ _ (by simp;omega)]
      simpa using h7
     ·rw[hget]
      rw[A4M] at hi'
      split at hi'
      ·rename_i hii
       subst hii
       cases hi'
       rw[A2k _ _ _ (by omega)] at hj
       split at hj
       ·rename_i hjo
        rw[if_pos (by omega)]
        exact(h10 i j _ x (A9x (sz:=sz) q3) hj)
       ·rename_i hjo
        rw[if_neg (by omega)]
        split at hj
        ·rename_i hjn
         rw[if_pos (by omega)]
         have hjl:=(B4.1 hj).1
         have hvl:j-off<(a.eval v).cells.size:=by omega
         refine⟨(a.eval v).cells[j-off],?_,r3 (j-off) x _ hj ?_⟩
         ·rw[show i*sz+j-(i*sz+off)=j-off by omega]
          exact O0 hvl
         ·rw[A11];exact O0 hvl
        ·rename_i hjn
         rw[if_neg (by omega)]
         exact(h10 i j _ x (A9x (sz:=sz) q3) hj)
      ·rename_i hne
       obtain⟨u,hu,hr⟩:=h10 i' j e x hi' hj
       have hjs:j<sz:=by
        have:=g2 e (C3 hi')
        have:=(B4.1 hj).1
        omega
       refine⟨u,?_,hr⟩
       rcases Nat.lt_or_gt_of_ne (λh=>hne h:i≠i') with hlt'|hlt'
       ·have:(i+1)*sz<=i'*sz:=i6 _ hlt'
        rw[V8] at this
        rw[if_neg (by omega),if_neg (by omega)]
        exact hu
       ·have:(i'+1)*sz<=i*sz:=i6 _ hlt'
        rw[V8] at this
        rw[if_pos (by omega)]
        exact hu
     ·rw[h11 k hk',hget,if_pos (by omega)]
   ·exact h.elim
  ·exact h.elim
 ·exact h.elim
end
end Go.Bi
