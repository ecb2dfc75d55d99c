/- Soundness of addresses, parts, slices, lengths. No condition. -/
import Derived.Test.YtfnaleemmeejcaaGreatBF
set_option linter.unusedVariables false
namespace Go.Bi
set_option linter.unusedSectionVars false
variable [N0]
section
variable {P:Program}{M:D4}{G:Gh}{os:List AO}{w:World}{ρ:D5}{a:Act}{K:AV->List AO->Prop}
theorem B36{x:AV}{v:Value}{d:Nat}{K:AV->Prop}(hv:VA M G os x v)(h:k8 os d x K) :
  ∃b o r,v=.pointer (some ⟨b,o,none⟩)/\K r/\VA M G os r (.pointer (some ⟨b,o+d,none⟩)):=by
 cases x with
 |ptr id o=>
  obtain⟨rfl,cs,hc⟩:=A7L hv
  exact⟨_,_,_,rfl,h,rfl,cs,hc⟩
 |aptr id l i o=>
  obtain⟨_,es,sz,frz,nl,h1,h2,h3⟩:=hv
  simp only[k8,h1] at h
  refine⟨_,_,_,h3 h.1,h.2,rfl,es,sz,frz,nl,h1,h2,λ_=>by rw[Nat.add_assoc]⟩
 |dptr es i o=>
  obtain⟨b,ob,cap,sz,h1,h2,h3,h4,rfl⟩:=hv
  exact⟨_,_,_,rfl,h,b,ob,cap,sz,h1,h2,h3,h4,by simp only[Nat.add_assoc]⟩
 |_=>exact h.elim
theorem D82(he:C9 M G os w)(ht:J3 M G os ρ a){o:Oper}{s:TypeId}{x:Operand}{f:Nat}{x':C1}{fs:Array Field}{fd:Field}{m:Nat}(ho:o.op=.fieldAddr s x f)(hx:cO x=some x')
  (hs:P.underlying s=some (.struct fs)) (hf:fs[f]?=some fd) (hm:M3 P fd.type=some (m+1)) (h:A7 P ρ os K (.faddr fd.offset x')):G6 P M G os w K (execOp a.eval o):=by
 have e1:=I8 ht hx
 obtain⟨b,ob,r,hv,hk,hr⟩:=B36 e1 (show k8 os fd.offset (C0 ρ x') λr=>K r os from h)
 refine L4 he ?_ hr hk
 simp[execOp,ho,hv,Instr.fieldAt,run_underlying hs,hf,Instr.sureAddr,fieldPlace,j9 hm,A1o]
theorem D8h(he:C9 M G os w)(ht:J3 M G os ρ a){o:Oper}{x:Operand}{x':C1}(ho:o.op=.nilCheck x)(hx:cO x=some x')
  (h:A7 P ρ os K (.nilck x')):G6 P M G os w K (execOp a.eval o):=by
 have e1:=I8 ht hx
 obtain⟨b,ob,r,hv,hk,hr⟩:=B36 e1 (show k8 os 0 (C0 ρ x') λr=>K r os from h)
 refine L4 he ?_ hr hk
 simp[execOp,ho,hv]
theorem D84(he:C9 M G os w)(ht:J3 M G os ρ a){o:Oper}{t e:TypeId}{x i:Operand}{x' i':C1}{n sz:Nat}(ho:o.op=.indexAddr t x i)(hx:cO x=some x')(hi:cO i=some i')
  (hu:P.underlying t=some (.array n e)) (hs:M3 P e=some sz) (h:A7 P ρ os K (.ixarr n sz x' i')):G6 P M G os w K (execOp a.eval o):=by
 have e1:=I8 ht hx
 have e2:=I8 ht hi
 simp only[A7] at h
 split at h
 ·rename_i k m h1
  rw[h1] at e2
  obtain⟨g1,g2,g3⟩:=h
  obtain⟨b,ob,r,hv,hk,hr⟩:=B36 e1 g3
  refine L4 he ?_ hr hk
  simp[execOp,ho,hv,b7 e2,Instr.indexAt,asIntOf,run_underlying hu,Instr.sureAddr,g1,g2,j9 hs,A1o]
 ·exact h.elim
theorem D85(he:C9 M G os w)(ht:J3 M G os ρ a){o:Oper}{t e:TypeId}{x i:Operand}{x' i':C1}{sz:Nat}(ho:o.op=.indexAddr t x i)(hx:cO x=some x')(hi:cO i=some i')
  (hu:P.underlying t=some (.slice e)) (hs:M3 P e=some sz) (h:A7 P ρ os K (.ixsl sz x' i')):G6 P M G os w K (execOp a.eval o):=by
 have e1:=I8 ht hx
 have e2:=I8 ht hi
 simp only[A7] at h
 split at h
 ·rename_i k m h1
  rw[h1] at e2
  split at h
  ·rename_i es h2
   rw[h2] at e1
   obtain⟨g1,g2,g3,g4⟩:=h
   have hr:=A2p e1
   cases hav:a.eval x with
   |slice sa n c=>
    rw[hav] at hr
    cases hr with
    |sl _ b ob cap sz' cv hcap hsz hc hr=>
     have hpos:m.toNat<es.length:=by omega
     have hse:sz'=sz:=by
      have h5:=hsz _ (A5w hpos)
      have h6:=g3 _ (A5w hpos)
      omega
     subst hse
     refine L4 he (v:=.pointer (some ⟨b,ob+m.toNat*sz',none⟩)) (r:=.dptr es m.toNat 0) ?_ ?_ g4
     ·simp[execOp,ho,hav,b7 e2,Instr.indexAt,asIntOf,run_underlying hu,g1,g2,j9 hs,A1o]
     ·refine⟨b,ob,_,sz',Rd.sl es b ob _ sz' cv hcap hsz hc hr,hsz,hpos,λk j e x hk hj=>?_,by simp⟩
      have hk':=(B4.1 hk).1
      have hj':=(B4.1 hj).1
      rw[hsz e (C3 hk)] at hj'
      exact⟨_,hc k j hk' hj',hr k j e x hk hj⟩
    |sle sa cap=>simp at g2;omega
   |_=>rw[hav] at hr;cases hr
  ·rename_i id len h2
   rw[h2] at e1
   split at h
   ·rename_i es sz' frz nl h3
    obtain⟨g1,rfl,g2,g3,rfl,g4⟩:=h
    obtain⟨_,es',sz'',frz',nl',h4,h5,h6⟩:=e1
    rw[h3] at h4
    cases h4
    have hv:=h6 g1
    simp only[Gh.slv] at hv
    refine L4 he (v:=.pointer (some ⟨G.blk id,m.toNat*sz',none⟩)) (r:=.aptr id len m.toNat 0) ?_ ⟨rfl,es,sz',frz,false,h3,h5,λ_=>by simp⟩ g4
    simp[execOp,ho,hv,b7 e2,Instr.indexAt,asIntOf,run_underlying hu,g2,g3,j9 hs,A1o]
   ·exact h.elim
  ·rename_i id len h2
   rw[h2] at e1
   split at h
   ·rename_i es sz' nl h3
    obtain⟨g1,rfl,g2,g3,rfl,g4⟩:=h
    obtain⟨_,es',sz'',nl',h4,h5,h6⟩:=e1
    rw[h3] at h4
    cases h4
    have hv:=h6 g1
    simp only[Gh.slv] at hv
    refine L4 he (v:=.pointer (some ⟨G.blk id,m.toNat*sz',none⟩)) (r:=.rp id len m.toNat 0) ?_ ⟨rfl,es,sz',false,h3,h5,λ_=>by simp⟩ g4
    simp[execOp,ho,hv,b7 e2,Instr.indexAt,asIntOf,run_underlying hu,g2,g3,j9 hs,A1o]
   ·exact h.elim
  ·exact h.elim
 ·exact h.elim
theorem D86(he:C9 M G os w)(ht:J3 M G os ρ a){o:Oper}{t:TypeId}{x i:Operand}{x' i':C1}(ho:o.op=.index t x i)(hx:cO x=some x')(hi:cO i=some i')
  (hu:P.underlying t=some .string) (h:A7 P ρ os K (.ixstr x' i')):G6 P M G os w K (execOp a.eval o):=by
 have e1:=I8 ht hx
 have e2:=I8 ht hi
 simp only[A7] at h
 split at h
 ·rename_i s k m h1 h2
  rw[h1] at e1
  rw[h2] at e2
  obtain⟨g1,g2,g3⟩:=h
  have hlt:m.toNat<s.length:=by omega
  have hg:(ByteArray.mk ⟨s⟩)[m.toNat]?=some (s.getD m.toNat 0):=by
   show(ByteArray.mk ⟨s⟩)[m.toNat]?=_
   rw[getElem?_pos (ByteArray.mk ⟨s⟩) m.toNat (show m.toNat<(ByteArray.mk ⟨s⟩).size from hlt)]
   simp only[I4,F4 hlt,A04]
   rfl
  refine L4 he (v:=.int .u8 (s.getD m.toNat 0).toNat) ?_ (Rd.int' ..) g3
  simp[execOp,ho,A4E e1,b7 e2,Instr.index,asIntOf,run_underlying hu,g1,hg]
 ·exact h.elim
theorem B2Z{t:TypeId}{g:Bool}{n:Nat}(hg:P1 P t=some g)(hn:M3 P t=some n)(vs:Array Value)(off:Nat)(h:off<vs.size)(w:World) :
  (part t vs off).run P w=.ok (if g then .agg (vs.extract off (off+n)) else vs[off]) w:=by
 cases g with
 |true=>simp[part,A7u hg,j9 hn]
 |false=>simp[part,A7u hg,h]
theorem B30{t:TypeId}{n:Nat}(hg:P1 P t=some true)(hn:M3 P t=some n)(vs:Array Value)(off:Nat)(w:World) :
  (part t vs off).run P w=.ok (.agg (vs.extract off (off+n))) w:=by
 simp[part,A7u hg,j9 hn]
theorem C39{cs:List AV}{vs:Array Value}(h2:vs.size=cs.length)(h3:∀(j:Nat) c u,cs[j]?=some c->vs[j]?=some u->VC M G os c u){off n:Nat}(h:off+n<=cs.length) :
  VA M G os (.agg ((cs.drop off).take n)) (.agg (vs.extract off (off+n))):=by
 refine B1p (by simp;omega) λj c u hc hu=>?_
 rw[A3P] at hc
 split at hc
 ·rename_i hj
  rw[Array.getElem?_extract,if_pos (by omega)] at hu
  exact h3 _ c u hc hu
 ·cases hc
theorem C49{c:AV}{v:Value}(h:VC M G os c v):VA M G os c v:=by
 cases c with
 |agg cs=>exact h.elim
 |tup cs=>exact h.elim
 |junk=>trivial
 |_=>exact h
theorem D83(he:C9 M G os w)(ht:J3 M G os ρ a){o:Oper}{s:TypeId}{x:Operand}{f:Nat}{x':C1}{fs:Array Field}{fd:Field}{n:Nat}{g:Bool}(ho:o.op=.field s x f)(hx:cO x=some x')
  (hs:P.underlying s=some (.struct fs)) (hf:fs[f]?=some fd) (hm:M3 P fd.type=some n) (hg:P1 P fd.type=some g) (h:A7 P ρ os K (.field fd.offset n g x')):G6 P M G os w K (execOp a.eval o):=by
 have e1:=I8 ht hx
 simp only[A7] at h
 split at h
 ·rename_i cs h1
  rw[h1] at e1
  obtain⟨vs,hv,h2,h3⟩:=B03 e1
  cases g with
  |true=>
   simp only[if_true] at h
   refine L4 he (v:=.agg (vs.extract fd.offset (fd.offset+n))) ?_ (C39 h2 h3 h.1) h.2
   simp[execOp,ho,hv,Instr.field,run_underlying hs,hf,asAgg,B30 hg hm]
  |false=>
   simp only[O2,if_false] at h
   have hlt:fd.offset<vs.size:=by omega
   refine L4 he (v:=vs[fd.offset]) ?_ (C49 (h3 fd.offset _ _ (getD_some h.1) (O0 hlt))) h.2
   simp[execOp,ho,hv,Instr.field,run_underlying hs,hf,asAgg,B2Z hg hm vs _ hlt]
 ·exact h.elim
theorem D87(he:C9 M G os w)(ht:J3 M G os ρ a){o:Oper}{t e:TypeId}{x i:Operand}{x' i':C1}{n sz:Nat}{g:Bool}(ho:o.op=.index t x i)(hx:cO x=some x')(hi:cO i=some i')
  (hu:P.underlying t=some (.array n e)) (hs:M3 P e=some sz) (hg:P1 P e=some g) (h:A7 P ρ os K (.ixval n sz g x' i')):G6 P M G os w K (execOp a.eval o):=by
 have e1:=I8 ht hx
 have e2:=I8 ht hi
 simp only[A7] at h
 split at h
 ·rename_i cs k m h1 h2
  rw[h1] at e1
  rw[h2] at e2
  obtain⟨vs,hv,h3,h4⟩:=B03 e1
  obtain⟨g1,g2,h⟩:=h
  cases g with
  |true=>
   simp only[if_true] at h
   refine L4 he (v:=.agg (vs.extract (m.toNat*sz) (m.toNat*sz+sz))) ?_ (C39 h3 h4 h.1) h.2
   simp[execOp,ho,hv,b7 e2,Instr.index,asIntOf,run_underlying hu,g1,g2,j9 hs,B30 hg hs]
  |false=>
   simp only[O2,if_false] at h
   obtain⟨rfl,h5,h6⟩:=h
   have hlt:m.toNat<vs.size:=by omega
   refine L4 he (v:=vs[m.toNat]) ?_ (C49 (h4 m.toNat _ _ (getD_some h5) (O0 hlt))) h6
   simp[execOp,ho,hv,b7 e2,Instr.index,asIntOf,run_underlying hu,g1,g2,j9 hs,B2Z hg hs vs _ hlt]
 ·exact h.elim
theorem D81(he:C9 M G os w)(ht:J3 M G os ρ a){o:Oper}{x:Operand}{x':C1}{i:Nat}(ho:o.op=.extract x i)(hx:cO x=some x')
  (h:A7 P ρ os K (.ext i x')):G6 P M G os w K (execOp a.eval o):=by
 have e1:=I8 ht hx
 simp only[A7] at h
 split at h
 ·rename_i cs h1
  rw[h1] at e1
  obtain⟨vs,hv,h3,h4⟩:=D9Z e1
  have hlt:i<vs.size:=by omega
  refine L4 he (v:=vs[i]) ?_ ?_ h.2
  ·simp[execOp,ho,hv,Instr.extract,hlt]
  ·have:=h4 i _ _ (getD_some (d:=.junk) h.1) (O0 hlt)
   revert this
   generalize cs.getD i .junk=c
   cases c with
   |tup c=>exact λh=>h.elim
   |junk=>exact λ_=>trivial
   |_=>exact λh=>h
 ·exact h.elim
theorem D8a(he:C9 M G os w)(ht:J3 M G os ρ a){o:Oper}{x:Operand}{x':C1}{t:TypeId}{c:Call}(ho:o.op=.call c)(hb:c.callee=.builtin .len)(hargs:c.args=#[x])(hts:c.argTypes=#[t])(hx:cO x=some x')
  (hu:P.underlying t=some .string) (h:A7 P ρ os K (.lens x')):G6 P M G os w K (execOp a.eval o):=by
 have e1:=I8 ht hx
 simp only[A7] at h
 split at h
 ·rename_i s h1
  rw[h1] at e1
  refine L4 he (v:=.int .i64 s.length) ?_ (Rd.int' ..) h
  simp[execOp,ho,hb,hargs,hts,resolve,invoke,builtin,Builtin.len_,run_underlying hu,A4E e1,goInt,A7y]
 ·exact h.elim
theorem D88(he:C9 M G os w)(ht:J3 M G os ρ a){o:Oper}{x:Operand}{x':C1}{t e:TypeId}{c:Call}(ho:o.op=.call c)(hb:c.callee=.builtin .len)(hargs:c.args=#[x])(hts:c.argTypes=#[t])(hx:cO x=some x')
  (hu:P.underlying t=some (.slice e)) (h:A7 P ρ os K (.len x')):G6 P M G os w K (execOp a.eval o):=by
 have e1:=I8 ht hx
 have ksl:∀s n c',a.eval x=.slice s n c'->K (.d (.int .i64 n)) os->G6 P M G os w K (execOp a.eval o):=λs n c' hv hk=>by
  refine L4 he (v:=.int .i64 n) ?_ (Rd.int' ..) hk
  simp[execOp,ho,hb,hargs,hts,resolve,invoke,builtin,Builtin.len_,run_underlying hu,hv,goInt]
 simp only[A7] at h
 split at h
 ·rename_i h1
  rw[h1] at e1
  exact ksl _ _ _ (A1R e1) h
 ·rename_i es h1
  rw[h1] at e1
  obtain⟨sa,cap,hv⟩:=B3r e1
  exact ksl _ _ _ hv h
 ·rename_i id len h1
  rw[h1] at e1
  split at h
  ·rename_i es sz frz nl h2
   obtain⟨_,es',sz',frz',nl',h3,h4,h5⟩:=e1
   rw[h2] at h3
   cases h3
   have hv:=h5 h.1
   cases nl with
   |true=>
    have hn:es=[]:=(he.obj id _ h2).2.2.2.1 rfl
    subst hn
    exact ksl _ _ _ (by simpa[Gh.slv] using hv) h.2
   |false=>exact ksl _ _ _ (by simpa[Gh.slv] using hv) h.2
  ·exact h.elim
 ·rename_i id len h1
  rw[h1] at e1
  split at h
  ·rename_i es sz nl h2
   obtain⟨_,es',sz',nl',h3,h4,h5⟩:=e1
   rw[h2] at h3
   cases h3
   have hv:=h5 h.1
   cases nl with
   |true=>
    have hn:es=[]:=(he.obj id _ h2).2.2.1 rfl
    subst hn
    exact ksl _ _ _ (by simpa[Gh.slv] using hv) h.2
   |false=>exact ksl _ _ _ (by simpa[Gh.slv] using hv) h.2
  ·exact h.elim
 ·exact h.elim
theorem D89(he:C9 M G os w){o:Oper}{x:Operand}{t e:TypeId}{c:Call}{n:Nat}(ho:o.op=.call c)(hb:c.callee=.builtin .len)(hargs:c.args=#[x])(hts:c.argTypes=#[t])
  (hu:P.underlying t=some (.array n e)) (h:A7 P ρ os K (.lenk n)):G6 P M G os w K (execOp a.eval o):=by
 refine L4 he (v:=.int .i64 n) ?_ (Rd.int' ..) h
 simp[execOp,ho,hb,hargs,hts,resolve,invoke,builtin,Builtin.len_,run_underlying hu,goInt]
theorem A53(ht:J3 M G os ρ a){x:Option Operand}{x':Option C1}(hx:A1u x=some x'){d:Nat}{K:Int->Prop}(h:V1 ρ x' d K) :
  ∃n,K n/\((x=none/\n=d)\/∃y k,x=some y/\a.eval y=.int k n):=by
 cases x with
 |none=>
  simp only[A1u] at hx
  cases hx
  exact⟨d,h,.inl ⟨rfl,rfl⟩⟩
 |some y=>
  simp only[A1u] at hx
  obtain⟨z,hz,rfl⟩:=J7.1 hx
  simp only[V1] at h
  have e1:=I8 ht hz
  split at h
  ·rename_i k n h1
   rw[h1] at e1
   exact⟨n,h,.inr ⟨y,k,rfl,b7 e1⟩⟩
  ·exact h.elim
theorem B2Y(s:Bool)(len cap:Nat)(lo hi:Option Value)(l h:Int)(hlo:(lo=none/\l=0)\/∃k,lo=some (.int k l))(hhi:(hi=none/\h=len)\/∃k,hi=some (.int k h))
  (h0:0<=l) (h1:l<=h) (h2:h<=len) (h3:len<=cap) (w:World):(Instr.sliceBounds s len cap lo hi none).run P w=.ok (l.toNat,h.toNat,cap) w:=by
 have hc:h<=cap:=by omega
 have h0':0<=h:=by omega
 have e1:((h.toNat:Nat):Int)=h:=by omega
 rcases hlo with ⟨rfl,rfl⟩|⟨k,rfl⟩<;>rcases hhi with ⟨rfl,rfl⟩|⟨k',rfl⟩<;>
  simp[Instr.sliceBounds,Instr.sliceBound,asIntOf,h0,h0',hc,e1,h1]
theorem A5h{x:Option Operand}{n:Int}{d:Nat}(h:(x=none/\n=d)\/∃y k,x=some y/\a.eval y=.int k n):(x.map a.eval=none/\n=d)\/∃k,x.map a.eval=some (.int k n):=by
 rcases h with ⟨rfl,rfl⟩|⟨y,k,rfl,hk⟩
 ·exact .inl ⟨rfl,rfl⟩
 ·exact .inr ⟨k,by simp[hk]⟩
theorem D8o(he:C9 M G os w)(ht:J3 M G os ρ a){o:Oper}{x:Operand}{x':C1}{lo hi:Option Operand}{lo' hi':Option C1}{t:TypeId}(ho:o.op=.slice t x lo hi none)(hx:cO x=some x')(hlo:A1u lo=some lo')(hhi:A1u hi=some hi')
  (hu:P.underlying t=some .string) (h:A7 P ρ os K (.slstr x' lo' hi')):G6 P M G os w K (execOp a.eval o):=by
 have e1:=I8 ht hx
 simp only[A7] at h
 split at h
 ·rename_i s h1
  rw[h1] at e1
  obtain⟨m,h,q1⟩:=A53 ht hhi h
  obtain⟨l,h,q2⟩:=A53 ht hlo h
  obtain⟨g1,g2,g3,g4⟩:=h
  have hb:=B2Y (P:=P) false s.length s.length _ _ l m (A5h (d:=0) q2) (A5h q1) g1 g2 g3 (D3 _)
  have hex:(ByteArray.mk ⟨s⟩).extract l.toNat m.toNat=ByteArray.mk ⟨(s.drop l.toNat).take (m.toNat-l.toNat)⟩:=by
   apply ByteArray.ext
   apply A2s
   simp only[ByteArray.data_extract,Array.toList_extract,List.extract_eq_take_drop]
  refine L4 he ?_ (Rd.str' _) g4
  simp[execOp,ho,Instr.sliceAt,Instr.slice,run_underlying hu,A4E e1,A7y,hb,hex]
 ·exact h.elim
theorem Rd.sub{es:List (List D)}{b o cap sz:Nat}(hr:Rd M (.sl es) (.slice (some ⟨b,o,none⟩) es.length cap))(hsz:∀e∈es,e.length=sz)(l h m:Nat)(hl:l<=h)(hh:h<=es.length)(hm:h-l<=m)(o':Nat)
  (ho:es.length=0\/l=es.length\/o'=o+l*sz):Rd M (.sl ((es.drop l).take (h-l))) (.slice (some ⟨b,o',none⟩) (h-l) m):=by
 cases hr with
 |sle _ _=>
  obtain rfl:l=0:=by simp at hh;omega
  obtain rfl:h=0:=by simp at hh;omega
  exact .sle _ _
 |sl _ _ _ _ sz' cv hcap hsz' hc hr=>
  have hlen:((es.drop l).take (h-l)).length=h-l:=by simp;omega
  have hmem:∀e,e∈(es.drop l).take (h-l)->e∈es:=λe he=>A2A (A39 he)
  have key:∀i,i<h-l->o'=o+l*sz/\sz'=sz:=λi hi=>by
   have hp:0<es.length:=by omega
   have e1:=hsz' _ (A5w hp)
   have e2:=hsz _ (A5w hp)
   rcases ho with ho|ho|ho
   ·omega
   ·omega
   ·exact⟨ho,by omega⟩
  have:=Rd.sl (M:=M) ((es.drop l).take (h-l)) b o' m sz (λi j=>cv (l+i) j) (by omega) (λe he=>hsz e (hmem e he)) (λi j hi hj=>?_) (λi j e d hi hj=>?_)
  ·rw[hlen] at this;exact this
  ·rw[hlen] at hi
   obtain⟨k1,k2⟩:=key i hi
   subst k2
   have:=hc (l+i) j (by omega) hj
   rw[V8] at this
   rw[k1,<- this]
   congr 2
   omega
  ·rw[A3P] at hi
   split at hi
   ·exact hr (l+i) j e d hi hj
   ·cases hi
theorem D8n(he:C9 M G os w)(ht:J3 M G os ρ a){o:Oper}{x:Operand}{x':C1}{lo hi:Option Operand}{lo' hi':Option C1}{t e:TypeId}{sz:Nat}(ho:o.op=.slice t x lo hi none)(hx:cO x=some x')(hlo:A1u lo=some lo')(hhi:A1u hi=some hi')
  (hu:P.underlying t=some (.slice e)) (hs:M3 P e=some sz) (h:A7 P ρ os K (.slsl sz x' lo' hi')):G6 P M G os w K (execOp a.eval o):=by
 have e1:=I8 ht hx
 simp only[A7,slI] at h
 have hvc:∀y os1,A0Y os (C0 ρ x')=some (y,os1)->VC M G os (C0 ρ x') (a.eval x):=λy os1 hf=>by
  revert hf e1
  generalize C0 ρ x'=c
  intro e1 hf
  cases c with
  |d y=>exact e1
  |arr id len=>exact e1
  |_=>cases hf
 split at h
 ·rename_i es os1 hf
  obtain⟨M1,f1,f2,f3⟩:=A6U he hf (hvc _ _ hf)
  obtain⟨m,h,q1⟩:=A53 ht hhi h
  obtain⟨l,h,q2⟩:=A53 ht hlo h
  obtain⟨g1,g2,g3,g4,g5⟩:=h
  obtain⟨sa,cap,hv⟩:=B3r (M:=M1) (G:=G) (os:=os1) (show VA M1 G os1 (.d (.sl es)) (a.eval x) from f3)
  rw[hv] at f3
  have hcap:es.length<=cap:=by
   rcases(show Rd M1 (.sl es) (.slice (some sa) es.length cap) from f3) with _|_|_|_|_|_|⟨_,_,_,_,_,_,hc,_,_,_⟩|_
   ·exact hc
   ·exact N1 _
  have hsa:(∃b ob,sa=⟨b,ob,none⟩)\/es=[]:=by
   rcases(show Rd M1 (.sl es) (.slice (some sa) es.length cap) from f3) with _|_|_|_|_|_|⟨_,_,_,_,_,_,hc,_,_,_⟩|_
   ·exact .inl ⟨_,_,rfl⟩
   ·exact .inr rfl
  have hb:=B2Y (P:=P) true es.length cap _ _ l m (A5h (d:=0) q2) (A5h q1) g1 g2 g3 hcap
  rcases hsa with ⟨b,ob,rfl⟩|rfl
  ·refine W1 (r:=.d (.sl ((es.drop l.toNat).take (m.toNat-l.toNat)))) (v:=.slice (some ⟨b,if cap=l.toNat then ob else ob+l.toNat*sz,none⟩) (m.toNat-l.toNat) (cap-l.toNat)) ?_ f1 f2
    (show Rd M1 _ _ from Rd.sub f3 g4 l.toNat m.toNat (cap-l.toNat) (by omega) (by omega) (by omega) _ ?_) g5
   ·simp only[execOp,ho,Instr.sliceAt,Instr.slice,Sem.run_bind,run_underlying hu,Result.andThen_ok,Option.map_none,hv,hb,j9 hs,A0R]
    split<;>simp[A1o]
   ·split
    ·exact .inr (.inl (by omega))
    ·exact .inr (.inr rfl)
  ·simp only[l9,Int.ofNat_zero] at g3
   obtain rfl:m=0:=by omega
   obtain rfl:l=0:=by omega
   refine W1 (r:=.d (.sl [])) (v:=.slice (some sa) 0 cap) ?_ f1 f2 (show Rd M1 _ _ from Rd.sle _ _) (by simpa using g5)
   simp only[execOp,ho,Instr.sliceAt,Instr.slice,Sem.run_bind,run_underlying hu,Result.andThen_ok,Option.map_none,hv,hb,j9 hs,A0R]
   split<;>simp[Addr.add]
 ·rename_i os1 hf
  obtain⟨M1,f1,f2,f3⟩:=A6U he hf (hvc _ _ hf)
  obtain⟨m,h,q1⟩:=A53 ht hhi h
  obtain⟨l,h,q2⟩:=A53 ht hlo h
  obtain⟨rfl,rfl,g5⟩:=h
  have hv:=A1R (M:=M1) (G:=G) (os:=os1) (show VA M1 G os1 (.d .nil) (a.eval x) from f3)
  have hb:=B2Y (P:=P) true 0 0 _ _ 0 0 (A5h (d:=0) q2) (A5h (d:=0) q1) (by omega) (by omega) (by omega) (D3 _)
  refine W1 (r:=.d .nil) (v:=.slice none 0 0) ?_ f1 f2 (show Rd M1 .nil _ from Rd.nil) g5
  simp[execOp,ho,Instr.sliceAt,Instr.slice,run_underlying hu,hv,hb,j9 hs]
 ·exact h.elim
theorem A76(mx:Bool)(ht:J3 M G os ρ a)(k:IntKind):∀(xs:List Operand)(xs':List C1),xs.mapM cO=some xs'->∀(m:Int){K:AV->Prop},t8 mx k m (xs'.map (C0 ρ)) K->
  ∃n,K (.d (.int k n))/\∀w,(List.foldlM (if mx then Builtin.max2 else Builtin.min2) (Value.int k m) (xs.map a.eval)).run P w=.ok (.int k n) w
 |[],xs',hxs,m,K,h=>by
  simp at hxs
  subst hxs
  exact⟨m,h,λw=>rfl⟩
 |x::xs,xs',hxs,m,K,h=>by
  simp only[A0L,A3g,i7] at hxs
  obtain⟨y,hy,ys,hys,hp⟩:=hxs
  simp at hp
  subst hp
  have e1:=I8 ht hy
  simp only[H5] at h ⊢
  unfold t8 at h
  split at h
  ·rename_i hc;cases hc
  ·rename_i k' n rest hc
   injection hc with hc1 hc2
   rw[hc1] at e1
   subst hc2
   cases mx with
   |true=>
    simp only[if_true] at h
    rcases Int.lt_or_le m n with hlt|hle
    ·obtain⟨r,hr,hrun⟩:=A76 true ht k xs ys hys n (h.2 hlt)
     refine⟨r,hr,λw=>?_⟩
     simp only[if_true] at hrun
     simp[List.foldlM_cons,b7 e1,Builtin.max2,hlt,hrun]
    ·obtain⟨r,hr,hrun⟩:=A76 true ht k xs ys hys m (h.1 hle)
     refine⟨r,hr,λw=>?_⟩
     simp only[if_true] at hrun
     have:¬m<n:=by omega
     simp[List.foldlM_cons,b7 e1,Builtin.max2,this,hrun]
   |false=>
    simp only[O2,if_false] at h
    rcases Int.lt_or_le n m with hlt|hle
    ·obtain⟨r,hr,hrun⟩:=A76 false ht k xs ys hys n (h.2 hlt)
     refine⟨r,hr,λw=>?_⟩
     simp only[O2,if_false] at hrun
     simp[List.foldlM_cons,b7 e1,Builtin.min2,hlt,hrun]
    ·obtain⟨r,hr,hrun⟩:=A76 false ht k xs ys hys m (h.1 hle)
     refine⟨r,hr,λw=>?_⟩
     simp only[O2,if_false] at hrun
     have:¬n<m:=by omega
     simp[List.foldlM_cons,b7 e1,Builtin.min2,this,hrun]
  ·exact h.elim
theorem C2R(he:C9 M G os w)(ht:J3 M G os ρ a){o:Oper}{mx:Bool}{x:Operand}{x':C1}{xs:List Operand}{xs':List C1}{c:Call}(ho:o.op=.call c)(hb:c.callee=.builtin (if mx then .max else .min))(hargs:c.args.toList=x::xs)(hx:cO x=some x')(hxs:xs.mapM cO=some xs')
  (h:A7 P ρ os K (.minmax mx x' xs')):G6 P M G os w K (execOp a.eval o):=by
 have e1:=I8 ht hx
 simp only[A7] at h
 split at h
 ·rename_i k m h1
  rw[h1] at e1
  obtain⟨n,hn,hrun⟩:=A76 (P:=P) mx ht k xs xs' hxs m h
  refine L4 he (v:=.int k n) ?_ (Rd.int' ..) hn
  have hm:List.map a.eval c.args.toList=.int k m::xs.map a.eval:=by simp[hargs,b7 e1]
  cases mx with
  |true=>
   simp only[if_true] at hb hrun
   simp[execOp,ho,hb,resolve,invoke,builtin,Builtin.max_,hm,hrun]
  |false=>
   simp only[O2,if_false] at hb hrun
   simp[execOp,ho,hb,resolve,invoke,builtin,Builtin.min_,hm,hrun]
 ·exact h.elim
end
end Go.Bi
