/- Soundness of addresses, parts, slices, lengths. No condition. -/
import Derived.Test.YthaildbjjlpdgaaGreatBF
set_option linter.unusedVariables false
namespace Go.Bi
set_option linter.unusedSectionVars false
variable [Globs]
section
variable {P:Program}{M:Mem}{G:Gh}{os:List AO}{w:World}{ρ:Rho}{a:Act}{K:AV->List AO->Prop}
theorem shI_ok{x:AV}{v:Value}{d:Nat}{K:AV->Prop}(hv:VA M G os x v)(h:shI os d x K) :
  ∃b o r,v=.pointer (some ⟨b,o,none⟩)/\K r/\VA M G os r (.pointer (some ⟨b,o+d,none⟩)):=by
 cases x with
 |ptr id o=>
  obtain⟨rfl,cs,hc⟩:=va_ptr hv
  exact⟨_,_,_,rfl,h,rfl,cs,hc⟩
 |aptr id l i o=>
  obtain⟨_,es,sz,frz,nl,h1,h2,h3⟩:=hv
  simp only[shI,h1] at h
  refine⟨_,_,_,h3 h.1,h.2,rfl,es,sz,frz,nl,h1,h2,λ_=>by rw[Nat.add_assoc]⟩
 |dptr es i o=>
  obtain⟨b,ob,cap,sz,h1,h2,h3,h4,rfl⟩:=hv
  exact⟨_,_,_,rfl,h,b,ob,cap,sz,h1,h2,h3,h4,by simp only[Nat.add_assoc]⟩
 |_=>exact h.elim
theorem ok_faddr(he:Env M G os w)(ht:Tmps M G os ρ a){o:Oper}{s:TypeId}{x:Operand}{f:Nat}{x':Opd}{fs:Array Field}{fd:Field}{m:Nat}(ho:o.op=.fieldAddr s x f)(hx:cO x=some x')
  (hs:P.underlying s=some (.struct fs)) (hf:fs[f]?=some fd) (hm:tsz P fd.type=some (m+1)) (h:opI P ρ os K (.faddr fd.offset x')):OpOK P M G os w K (execOp a.eval o):=by
 have e1:=cO_ev ht hx
 obtain⟨b,ob,r,hv,hk,hr⟩:=shI_ok e1 (show shI os fd.offset (evO ρ x') λr=>K r os from h)
 refine ok_value he ?_ hr hk
 simp[execOp,ho,hv,Instr.fieldAt,run_underlying hs,hf,Instr.sureAddr,fieldPlace,run_size hm,add_none]
theorem ok_nilck(he:Env M G os w)(ht:Tmps M G os ρ a){o:Oper}{x:Operand}{x':Opd}(ho:o.op=.nilCheck x)(hx:cO x=some x')
  (h:opI P ρ os K (.nilck x')):OpOK P M G os w K (execOp a.eval o):=by
 have e1:=cO_ev ht hx
 obtain⟨b,ob,r,hv,hk,hr⟩:=shI_ok e1 (show shI os 0 (evO ρ x') λr=>K r os from h)
 refine ok_value he ?_ hr hk
 simp[execOp,ho,hv]
theorem ok_ixarr(he:Env M G os w)(ht:Tmps M G os ρ a){o:Oper}{t e:TypeId}{x i:Operand}{x' i':Opd}{n sz:Nat}(ho:o.op=.indexAddr t x i)(hx:cO x=some x')(hi:cO i=some i')
  (hu:P.underlying t=some (.array n e)) (hs:tsz P e=some sz) (h:opI P ρ os K (.ixarr n sz x' i')):OpOK P M G os w K (execOp a.eval o):=by
 have e1:=cO_ev ht hx
 have e2:=cO_ev ht hi
 simp only[opI] at h
 split at h
 ·rename_i k m h1
  rw[h1] at e2
  obtain⟨g1,g2,g3⟩:=h
  obtain⟨b,ob,r,hv,hk,hr⟩:=shI_ok e1 g3
  refine ok_value he ?_ hr hk
  simp[execOp,ho,hv,va_int e2,Instr.indexAt,asIntOf,run_underlying hu,Instr.sureAddr,g1,g2,run_size hs,add_none]
 ·exact h.elim
theorem ok_ixsl(he:Env M G os w)(ht:Tmps M G os ρ a){o:Oper}{t e:TypeId}{x i:Operand}{x' i':Opd}{sz:Nat}(ho:o.op=.indexAddr t x i)(hx:cO x=some x')(hi:cO i=some i')
  (hu:P.underlying t=some (.slice e)) (hs:tsz P e=some sz) (h:opI P ρ os K (.ixsl sz x' i')):OpOK P M G os w K (execOp a.eval o):=by
 have e1:=cO_ev ht hx
 have e2:=cO_ev ht hi
 simp only[opI] at h
 split at h
 ·rename_i k m h1
  rw[h1] at e2
  split at h
  ·rename_i es h2
   rw[h2] at e1
   obtain⟨g1,g2,g3,g4⟩:=h
   have hr:=va_d e1
   cases hav:a.eval x with
   |slice sa n c=>
    rw[hav] at hr
    cases hr with
    |sl _ b ob cap sz' cv hcap hsz hc hr=>
     have hpos:m.toNat<es.length:=by omega
     have hse:sz'=sz:=by
      have h5:=hsz _ (mem_getD hpos)
      have h6:=g3 _ (mem_getD hpos)
      omega
     subst hse
     refine ok_value he (v:=.pointer (some ⟨b,ob+m.toNat*sz',none⟩)) (r:=.dptr es m.toNat 0) ?_ ?_ g4
     ·simp[execOp,ho,hav,va_int e2,Instr.indexAt,asIntOf,run_underlying hu,g1,g2,run_size hs,add_none]
     ·refine⟨b,ob,_,sz',Rd.sl es b ob _ sz' cv hcap hsz hc hr,hsz,hpos,λk j e x hk hj=>?_,by simp⟩
      have hk':=(List.getElem?_eq_some_iff.1 hk).1
      have hj':=(List.getElem?_eq_some_iff.1 hj).1
      rw[hsz e (List.mem_of_getElem? hk)] at hj'
      exact⟨_,hc k j hk' hj',hr k j e x hk hj⟩
    |sle sa cap=>simp at g2;omega
   |_=>rw[hav] at hr;cases hr
  ·rename_i id len h2
   rw[h2] at e1
   split at h
   ·rename_i es sz' frz nl h3
    obtain⟨g1,rfl,g2,g3,rfl,g4⟩:=h
    obtain⟨_,es',sz'',frz',nl',h4,h5,h6⟩:=e1
    rw[h3] at h4
    cases h4
    have hv:=h6 g1
    simp only[Gh.slv] at hv
    refine ok_value he (v:=.pointer (some ⟨G.blk id,m.toNat*sz',none⟩)) (r:=.aptr id len m.toNat 0) ?_ ⟨rfl,es,sz',frz,false,h3,h5,λ_=>by simp⟩ g4
    simp[execOp,ho,hv,va_int e2,Instr.indexAt,asIntOf,run_underlying hu,g2,g3,run_size hs,add_none]
   ·exact h.elim
  ·rename_i id len h2
   rw[h2] at e1
   split at h
   ·rename_i es sz' nl h3
    obtain⟨g1,rfl,g2,g3,rfl,g4⟩:=h
    obtain⟨_,es',sz'',nl',h4,h5,h6⟩:=e1
    rw[h3] at h4
    cases h4
    have hv:=h6 g1
    simp only[Gh.slv] at hv
    refine ok_value he (v:=.pointer (some ⟨G.blk id,m.toNat*sz',none⟩)) (r:=.rp id len m.toNat 0) ?_ ⟨rfl,es,sz',false,h3,h5,λ_=>by simp⟩ g4
    simp[execOp,ho,hv,va_int e2,Instr.indexAt,asIntOf,run_underlying hu,g2,g3,run_size hs,add_none]
   ·exact h.elim
  ·rename_i id tot lo k h2
   rw[h2] at e1
   split at h
   ·rename_i es sz' frz nl h3
    obtain⟨g1,rfl,g2,g3,rfl,g4⟩:=h
    obtain⟨_,es',sz'',frz',nl',h4,h5,hln,h6⟩:=e1
    rw[h3] at h4
    cases h4
    have hv:=h6 g1
    unfold Gh.sbv at hv
    rw[if_neg (by simp)] at hv
    obtain⟨ob,hv,h7⟩:=hv
    have h7:=h7 (by omega)
    subst h7
    refine ok_value he (v:=.pointer (some ⟨G.blk id,lo*sz'+m.toNat*sz',none⟩)) (r:=.aptr id tot (lo+m.toNat) 0) ?_ ⟨rfl,es,sz',frz,false,h3,h5,λ_=>by rw[Nat.add_mul];rfl⟩ g4
    simp[execOp,ho,hv,va_int e2,Instr.indexAt,asIntOf,run_underlying hu,g2,g3,run_size hs,add_none]
   ·exact h.elim
  ·exact h.elim
 ·exact h.elim
theorem ok_ixstr(he:Env M G os w)(ht:Tmps M G os ρ a){o:Oper}{t:TypeId}{x i:Operand}{x' i':Opd}(ho:o.op=.index t x i)(hx:cO x=some x')(hi:cO i=some i')
  (hu:P.underlying t=some .string) (h:opI P ρ os K (.ixstr x' i')):OpOK P M G os w K (execOp a.eval o):=by
 have e1:=cO_ev ht hx
 have e2:=cO_ev ht hi
 simp only[opI] at h
 split at h
 ·rename_i s k m h1 h2
  rw[h1] at e1
  rw[h2] at e2
  obtain⟨g1,g2,g3⟩:=h
  have hlt:m.toNat<s.length:=by omega
  have hg:(ByteArray.mk ⟨s⟩)[m.toNat]?=some (s.getD m.toNat 0):=by
   show(ByteArray.mk ⟨s⟩)[m.toNat]?=_
   rw[getElem?_pos (ByteArray.mk ⟨s⟩) m.toNat (show m.toNat<(ByteArray.mk ⟨s⟩).size from hlt)]
   simp only[List.getD_eq_getElem?_getD,List.getElem?_eq_getElem hlt,Option.getD_some]
   rfl
  refine ok_value he (v:=.int .u8 (s.getD m.toNat 0).toNat) ?_ (Rd.int' ..) g3
  simp[execOp,ho,va_str e1,va_int e2,Instr.index,asIntOf,run_underlying hu,g1,hg]
 ·exact h.elim
theorem run_part{t:TypeId}{g:Bool}{n:Nat}(hg:tagg P t=some g)(hn:tsz P t=some n)(vs:Array Value)(off:Nat)(h:off<vs.size)(w:World) :
  (part t vs off).run P w=.ok (if g then .agg (vs.extract off (off+n)) else vs[off]) w:=by
 cases g with
 |true=>simp[part,run_isAgg hg,run_size hn]
 |false=>simp[part,run_isAgg hg,h]
theorem run_part_agg{t:TypeId}{n:Nat}(hg:tagg P t=some true)(hn:tsz P t=some n)(vs:Array Value)(off:Nat)(w:World) :
  (part t vs off).run P w=.ok (.agg (vs.extract off (off+n))) w:=by
 simp[part,run_isAgg hg,run_size hn]
theorem part_va{cs:List AV}{vs:Array Value}(h2:vs.size=cs.length)(h3:∀(j:Nat) c u,cs[j]?=some c->vs[j]?=some u->VC M G os c u){off n:Nat}(h:off+n<=cs.length) :
  VA M G os (.agg ((cs.drop off).take n)) (.agg (vs.extract off (off+n))):=by
 refine VA_agg_mk (by simp;omega) λj c u hc hu=>?_
 rw[seg_get] at hc
 split at hc
 ·rename_i hj
  rw[Array.getElem?_extract,if_pos (by omega)] at hu
  exact h3 _ c u hc hu
 ·cases hc
theorem va_of_vc{c:AV}{v:Value}(h:VC M G os c v):VA M G os c v:=by
 cases c with
 |agg cs=>exact h.elim
 |tup cs=>exact h.elim
 |junk=>trivial
 |_=>exact h
theorem ok_field(he:Env M G os w)(ht:Tmps M G os ρ a){o:Oper}{s:TypeId}{x:Operand}{f:Nat}{x':Opd}{fs:Array Field}{fd:Field}{n:Nat}{g:Bool}(ho:o.op=.field s x f)(hx:cO x=some x')
  (hs:P.underlying s=some (.struct fs)) (hf:fs[f]?=some fd) (hm:tsz P fd.type=some n) (hg:tagg P fd.type=some g) (h:opI P ρ os K (.field fd.offset n g x')):OpOK P M G os w K (execOp a.eval o):=by
 have e1:=cO_ev ht hx
 simp only[opI] at h
 split at h
 ·rename_i cs h1
  rw[h1] at e1
  obtain⟨vs,hv,h2,h3⟩:=va_agg e1
  cases g with
  |true=>
   simp only[if_true] at h
   refine ok_value he (v:=.agg (vs.extract fd.offset (fd.offset+n))) ?_ (part_va h2 h3 h.1) h.2
   simp[execOp,ho,hv,Instr.field,run_underlying hs,hf,asAgg,run_part_agg hg hm]
  |false=>
   simp only[Bool.false_eq_true,if_false] at h
   have hlt:fd.offset<vs.size:=by omega
   refine ok_value he (v:=vs[fd.offset]) ?_ (va_of_vc (h3 fd.offset _ _ (getD_some h.1) (Array.getElem?_eq_getElem hlt))) h.2
   simp[execOp,ho,hv,Instr.field,run_underlying hs,hf,asAgg,run_part hg hm vs _ hlt]
 ·exact h.elim
theorem ok_ixval(he:Env M G os w)(ht:Tmps M G os ρ a){o:Oper}{t e:TypeId}{x i:Operand}{x' i':Opd}{n sz:Nat}{g:Bool}(ho:o.op=.index t x i)(hx:cO x=some x')(hi:cO i=some i')
  (hu:P.underlying t=some (.array n e)) (hs:tsz P e=some sz) (hg:tagg P e=some g) (h:opI P ρ os K (.ixval n sz g x' i')):OpOK P M G os w K (execOp a.eval o):=by
 have e1:=cO_ev ht hx
 have e2:=cO_ev ht hi
 simp only[opI] at h
 split at h
 ·rename_i cs k m h1 h2
  rw[h1] at e1
  rw[h2] at e2
  obtain⟨vs,hv,h3,h4⟩:=va_agg e1
  obtain⟨g1,g2,h⟩:=h
  cases g with
  |true=>
   simp only[if_true] at h
   refine ok_value he (v:=.agg (vs.extract (m.toNat*sz) (m.toNat*sz+sz))) ?_ (part_va h3 h4 h.1) h.2
   simp[execOp,ho,hv,va_int e2,Instr.index,asIntOf,run_underlying hu,g1,g2,run_size hs,run_part_agg hg hs]
  |false=>
   simp only[Bool.false_eq_true,if_false] at h
   obtain⟨rfl,h5,h6⟩:=h
   have hlt:m.toNat<vs.size:=by omega
   refine ok_value he (v:=vs[m.toNat]) ?_ (va_of_vc (h4 m.toNat _ _ (getD_some h5) (Array.getElem?_eq_getElem hlt))) h6
   simp[execOp,ho,hv,va_int e2,Instr.index,asIntOf,run_underlying hu,g1,g2,run_size hs,run_part hg hs vs _ hlt]
 ·exact h.elim
theorem ok_ext(he:Env M G os w)(ht:Tmps M G os ρ a){o:Oper}{x:Operand}{x':Opd}{i:Nat}(ho:o.op=.extract x i)(hx:cO x=some x')
  (h:opI P ρ os K (.ext i x')):OpOK P M G os w K (execOp a.eval o):=by
 have e1:=cO_ev ht hx
 simp only[opI] at h
 split at h
 ·rename_i cs h1
  rw[h1] at e1
  obtain⟨vs,hv,h3,h4⟩:=va_tup e1
  have hlt:i<vs.size:=by omega
  refine ok_value he (v:=vs[i]) ?_ ?_ h.2
  ·simp[execOp,ho,hv,Instr.extract,hlt]
  ·have:=h4 i _ _ (getD_some (d:=.junk) h.1) (Array.getElem?_eq_getElem hlt)
   revert this
   generalize cs.getD i .junk=c
   cases c with
   |tup c=>exact λh=>h.elim
   |junk=>exact λ_=>trivial
   |_=>exact λh=>h
 ·exact h.elim
theorem ok_lens(he:Env M G os w)(ht:Tmps M G os ρ a){o:Oper}{x:Operand}{x':Opd}{t:TypeId}{c:Call}(ho:o.op=.call c)(hb:c.callee=.builtin .len)(hargs:c.args=#[x])(hts:c.argTypes=#[t])(hx:cO x=some x')
  (hu:P.underlying t=some .string) (h:opI P ρ os K (.lens x')):OpOK P M G os w K (execOp a.eval o):=by
 have e1:=cO_ev ht hx
 simp only[opI] at h
 split at h
 ·rename_i s h1
  rw[h1] at e1
  refine ok_value he (v:=.int .i64 s.length) ?_ (Rd.int' ..) h
  simp[execOp,ho,hb,hargs,hts,resolve,invoke,builtin,Builtin.len_,run_underlying hu,va_str e1,goInt,size_mk]
 ·exact h.elim
theorem ok_len(he:Env M G os w)(ht:Tmps M G os ρ a){o:Oper}{x:Operand}{x':Opd}{t e:TypeId}{c:Call}(ho:o.op=.call c)(hb:c.callee=.builtin .len)(hargs:c.args=#[x])(hts:c.argTypes=#[t])(hx:cO x=some x')
  (hu:P.underlying t=some (.slice e)) (h:opI P ρ os K (.len x')):OpOK P M G os w K (execOp a.eval o):=by
 have e1:=cO_ev ht hx
 have ksl:∀s n c',a.eval x=.slice s n c'->K (.d (.int .i64 n)) os->OpOK P M G os w K (execOp a.eval o):=λs n c' hv hk=>by
  refine ok_value he (v:=.int .i64 n) ?_ (Rd.int' ..) hk
  simp[execOp,ho,hb,hargs,hts,resolve,invoke,builtin,Builtin.len_,run_underlying hu,hv,goInt]
 simp only[opI] at h
 split at h
 ·rename_i h1
  rw[h1] at e1
  exact ksl _ _ _ (va_nil e1) h
 ·rename_i es h1
  rw[h1] at e1
  obtain⟨sa,cap,hv⟩:=va_sl e1
  exact ksl _ _ _ hv h
 ·rename_i id len h1
  rw[h1] at e1
  split at h
  ·rename_i es sz frz nl h2
   obtain⟨_,es',sz',frz',nl',h3,h4,h5⟩:=e1
   rw[h2] at h3
   cases h3
   have hv:=h5 h.1
   cases nl with
   |true=>
    have hn:es=[]:=(he.obj id _ h2).2.2.2.1 rfl
    subst hn
    exact ksl _ _ _ (by simpa[Gh.slv] using hv) h.2
   |false=>exact ksl _ _ _ (by simpa[Gh.slv] using hv) h.2
  ·exact h.elim
 ·rename_i id len h1
  rw[h1] at e1
  split at h
  ·rename_i es sz nl h2
   obtain⟨_,es',sz',nl',h3,h4,h5⟩:=e1
   rw[h2] at h3
   cases h3
   have hv:=h5 h.1
   cases nl with
   |true=>
    have hn:es=[]:=(he.obj id _ h2).2.2.1 rfl
    subst hn
    exact ksl _ _ _ (by simpa[Gh.slv] using hv) h.2
   |false=>exact ksl _ _ _ (by simpa[Gh.slv] using hv) h.2
  ·exact h.elim
 ·rename_i id tot lo k h1
  rw[h1] at e1
  split at h
  ·rename_i es sz frz nl h2
   obtain⟨_,es',sz',frz',nl',h3,h4,hln,h5⟩:=e1
   rw[h2] at h3
   cases h3
   obtain⟨g1,rfl,g2⟩:=h
   have hv:=h5 g1
   unfold Gh.sbv at hv
   rw[if_neg (by simp)] at hv
   obtain⟨ob,hv,_⟩:=hv
   exact ksl _ _ _ hv g2
  ·exact h.elim
 ·rename_i es h1
  rw[h1] at e1
  obtain⟨_,sa,hv⟩:=e1
  exact ksl _ _ _ hv h
 ·exact h.elim
theorem ok_lenk(he:Env M G os w){o:Oper}{x:Operand}{t e:TypeId}{c:Call}{n:Nat}(ho:o.op=.call c)(hb:c.callee=.builtin .len)(hargs:c.args=#[x])(hts:c.argTypes=#[t])
  (hu:P.underlying t=some (.array n e)) (h:opI P ρ os K (.lenk n)):OpOK P M G os w K (execOp a.eval o):=by
 refine ok_value he (v:=.int .i64 n) ?_ (Rd.int' ..) h
 simp[execOp,ho,hb,hargs,hts,resolve,invoke,builtin,Builtin.len_,run_underlying hu,goInt]
theorem bndI_ok(ht:Tmps M G os ρ a){x:Option Operand}{x':Option Opd}(hx:cOpt x=some x'){d:Nat}{K:Int->Prop}(h:bndI ρ x' d K) :
  ∃n,K n/\((x=none/\n=d)\/∃y k,x=some y/\a.eval y=.int k n):=by
 cases x with
 |none=>
  simp only[cOpt] at hx
  cases hx
  exact⟨d,h,.inl ⟨rfl,rfl⟩⟩
 |some y=>
  simp only[cOpt] at hx
  obtain⟨z,hz,rfl⟩:=Option.map_eq_some_iff.1 hx
  simp only[bndI] at h
  have e1:=cO_ev ht hz
  split at h
  ·rename_i k n h1
   rw[h1] at e1
   exact⟨n,h,.inr ⟨y,k,rfl,va_int e1⟩⟩
  ·exact h.elim
theorem run_bounds(s:Bool)(len cap:Nat)(lo hi:Option Value)(l h:Int)(hlo:(lo=none/\l=0)\/∃k,lo=some (.int k l))(hhi:(hi=none/\h=len)\/∃k,hi=some (.int k h))
  (h0:0<=l) (h1:l<=h) (h2:h<=len) (h3:len<=cap) (w:World):(Instr.sliceBounds s len cap lo hi none).run P w=.ok (l.toNat,h.toNat,cap) w:=by
 have hc:h<=cap:=by omega
 have h0':0<=h:=by omega
 have e1:((h.toNat:Nat):Int)=h:=by omega
 rcases hlo with ⟨rfl,rfl⟩|⟨k,rfl⟩<;>rcases hhi with ⟨rfl,rfl⟩|⟨k',rfl⟩<;>
  simp[Instr.sliceBounds,Instr.sliceBound,asIntOf,h0,h0',hc,e1,h1]
theorem eval_opt{x:Option Operand}{n:Int}{d:Nat}(h:(x=none/\n=d)\/∃y k,x=some y/\a.eval y=.int k n):(x.map a.eval=none/\n=d)\/∃k,x.map a.eval=some (.int k n):=by
 rcases h with ⟨rfl,rfl⟩|⟨y,k,rfl,hk⟩
 ·exact .inl ⟨rfl,rfl⟩
 ·exact .inr ⟨k,by simp[hk]⟩
theorem ok_slstr(he:Env M G os w)(ht:Tmps M G os ρ a){o:Oper}{x:Operand}{x':Opd}{lo hi:Option Operand}{lo' hi':Option Opd}{t:TypeId}(ho:o.op=.slice t x lo hi none)(hx:cO x=some x')(hlo:cOpt lo=some lo')(hhi:cOpt hi=some hi')
  (hu:P.underlying t=some .string) (h:opI P ρ os K (.slstr x' lo' hi')):OpOK P M G os w K (execOp a.eval o):=by
 have e1:=cO_ev ht hx
 simp only[opI] at h
 split at h
 ·rename_i s h1
  rw[h1] at e1
  obtain⟨m,h,q1⟩:=bndI_ok ht hhi h
  obtain⟨l,h,q2⟩:=bndI_ok ht hlo h
  obtain⟨g1,g2,g3,g4⟩:=h
  have hb:=run_bounds (P:=P) false s.length s.length _ _ l m (eval_opt (d:=0) q2) (eval_opt q1) g1 g2 g3 (Nat.le_refl _)
  have hex:(ByteArray.mk ⟨s⟩).extract l.toNat m.toNat=ByteArray.mk ⟨(s.drop l.toNat).take (m.toNat-l.toNat)⟩:=by
   apply ByteArray.ext
   apply Array.ext'
   simp only[ByteArray.data_extract,Array.toList_extract,List.extract_eq_take_drop]
  refine ok_value he ?_ (Rd.str' _) g4
  simp[execOp,ho,Instr.sliceAt,Instr.slice,run_underlying hu,va_str e1,size_mk,hb,hex]
 ·exact h.elim
theorem Rd.sub{es:List (List D)}{b o cap sz:Nat}(hr:Rd M (.sl es) (.slice (some ⟨b,o,none⟩) es.length cap))(hsz:∀e∈es,e.length=sz)(l h m:Nat)(hl:l<=h)(hh:h<=es.length)(hm:h-l<=m)(o':Nat)
  (ho:es.length=0\/l=es.length\/o'=o+l*sz):Rd M (.sl ((es.drop l).take (h-l))) (.slice (some ⟨b,o',none⟩) (h-l) m):=by
 cases hr with
 |sle _ _=>
  obtain rfl:l=0:=by simp at hh;omega
  obtain rfl:h=0:=by simp at hh;omega
  exact .sle _ _
 |sl _ _ _ _ sz' cv hcap hsz' hc hr=>
  have hlen:((es.drop l).take (h-l)).length=h-l:=by simp;omega
  have hmem:∀e,e∈(es.drop l).take (h-l)->e∈es:=λe he=>List.mem_of_mem_drop (List.mem_of_mem_take he)
  have key:∀i,i<h-l->o'=o+l*sz/\sz'=sz:=λi hi=>by
   have hp:0<es.length:=by omega
   have e1:=hsz' _ (mem_getD hp)
   have e2:=hsz _ (mem_getD hp)
   rcases ho with ho|ho|ho
   ·omega
   ·omega
   ·exact⟨ho,by omega⟩
  have:=Rd.sl (M:=M) ((es.drop l).take (h-l)) b o' m sz (λi j=>cv (l+i) j) (by omega) (λe he=>hsz e (hmem e he)) (λi j hi hj=>?_) (λi j e d hi hj=>?_)
  ·rw[hlen] at this;exact this
  ·rw[hlen] at hi
   obtain⟨k1,k2⟩:=key i hi
   subst k2
   have:=hc (l+i) j (by omega) hj
   rw[Nat.add_mul] at this
   rw[k1,<- this]
   congr 2
   omega
  ·rw[seg_get] at hi
   split at hi
   ·exact hr (l+i) j e d hi hj
   ·cases hi
theorem ok_slsl(he:Env M G os w)(ht:Tmps M G os ρ a){o:Oper}{x:Operand}{x':Opd}{lo hi:Option Operand}{lo' hi':Option Opd}{t e:TypeId}{sz:Nat}(ho:o.op=.slice t x lo hi none)(hx:cO x=some x')(hlo:cOpt lo=some lo')(hhi:cOpt hi=some hi')
  (hu:P.underlying t=some (.slice e)) (hs:tsz P e=some sz) (h:opI P ρ os K (.slsl sz x' lo' hi')):OpOK P M G os w K (execOp a.eval o):=by
 have e1:=cO_ev ht hx
 simp only[opI,slI] at h
 have hvc:∀y os1,frzC os (evO ρ x')=some (y,os1)->VC M G os (evO ρ x') (a.eval x):=λy os1 hf=>by
  revert hf e1
  generalize evO ρ x'=c
  intro e1 hf
  cases c with
  |d y=>exact e1
  |arr id len=>exact e1
  |full es=>exact e1
  |sub id tot lo n=>exact e1
  |_=>cases hf
 split at h
 ·rename_i es os1 hf
  obtain⟨M1,f1,f2,f3⟩:=frzC_ok he hf (hvc _ _ hf)
  obtain⟨m,h,q1⟩:=bndI_ok ht hhi h
  obtain⟨l,h,q2⟩:=bndI_ok ht hlo h
  obtain⟨g1,g2,g3,g4,g5⟩:=h
  obtain⟨sa,cap,hv⟩:=va_sl (M:=M1) (G:=G) (os:=os1) (show VA M1 G os1 (.d (.sl es)) (a.eval x) from f3)
  rw[hv] at f3
  have hcap:es.length<=cap:=by
   rcases(show Rd M1 (.sl es) (.slice (some sa) es.length cap) from f3) with _|_|_|_|_|_|⟨_,_,_,_,_,_,hc,_,_,_⟩|_
   ·exact hc
   ·exact Nat.zero_le _
  have hsa:(∃b ob,sa=⟨b,ob,none⟩)\/es=[]:=by
   rcases(show Rd M1 (.sl es) (.slice (some sa) es.length cap) from f3) with _|_|_|_|_|_|⟨_,_,_,_,_,_,hc,_,_,_⟩|_
   ·exact .inl ⟨_,_,rfl⟩
   ·exact .inr rfl
  have hb:=run_bounds (P:=P) true es.length cap _ _ l m (eval_opt (d:=0) q2) (eval_opt q1) g1 g2 g3 hcap
  rcases hsa with ⟨b,ob,rfl⟩|rfl
  ·refine ok_next (r:=.d (.sl ((es.drop l.toNat).take (m.toNat-l.toNat)))) (v:=.slice (some ⟨b,if cap=l.toNat then ob else ob+l.toNat*sz,none⟩) (m.toNat-l.toNat) (cap-l.toNat)) ?_ f1 f2
    (show Rd M1 _ _ from Rd.sub f3 g4 l.toNat m.toNat (cap-l.toNat) (by omega) (by omega) (by omega) _ ?_) g5
   ·simp only[execOp,ho,Instr.sliceAt,Instr.slice,Sem.run_bind,run_underlying hu,Result.andThen_ok,Option.map_none,hv,hb,run_size hs,Option.map_some]
    split<;>simp[add_none]
   ·split
    ·exact .inr (.inl (by omega))
    ·exact .inr (.inr rfl)
  ·simp only[List.length_nil,Int.ofNat_zero] at g3
   obtain rfl:m=0:=by omega
   obtain rfl:l=0:=by omega
   refine ok_next (r:=.d (.sl [])) (v:=.slice (some sa) 0 cap) ?_ f1 f2 (show Rd M1 _ _ from Rd.sle _ _) (by simpa using g5)
   simp only[execOp,ho,Instr.sliceAt,Instr.slice,Sem.run_bind,run_underlying hu,Result.andThen_ok,Option.map_none,hv,hb,run_size hs,Option.map_some]
   split<;>simp[Addr.add]
 ·rename_i os1 hf
  obtain⟨M1,f1,f2,f3⟩:=frzC_ok he hf (hvc _ _ hf)
  obtain⟨m,h,q1⟩:=bndI_ok ht hhi h
  obtain⟨l,h,q2⟩:=bndI_ok ht hlo h
  obtain⟨rfl,rfl,g5⟩:=h
  have hv:=va_nil (M:=M1) (G:=G) (os:=os1) (show VA M1 G os1 (.d .nil) (a.eval x) from f3)
  have hb:=run_bounds (P:=P) true 0 0 _ _ 0 0 (eval_opt (d:=0) q2) (eval_opt (d:=0) q1) (by omega) (by omega) (by omega) (Nat.le_refl _)
  refine ok_next (r:=.d .nil) (v:=.slice none 0 0) ?_ f1 f2 (show Rd M1 .nil _ from Rd.nil) g5
  simp[execOp,ho,Instr.sliceAt,Instr.slice,run_underlying hu,hv,hb,run_size hs]
 ·exact h.elim
theorem minmaxI_ok(mx:Bool)(ht:Tmps M G os ρ a)(k:IntKind):∀(xs:List Operand) (xs':List Opd),xs.mapM cO=some xs'->∀(m:Int) {K:AV->Prop},minmaxI mx k m (xs'.map (evO ρ)) K->
  ∃n,K (.d (.int k n))/\∀w,(List.foldlM (if mx then Builtin.max2 else Builtin.min2) (Value.int k m) (xs.map a.eval)).run P w=.ok (.int k n) w
 |[],xs',hxs,m,K,h=>by
  simp at hxs
  subst hxs
  exact⟨m,h,λw=>rfl⟩
 |x::xs,xs',hxs,m,K,h=>by
  simp only[List.mapM_cons,Option.bind_eq_bind,Option.bind_eq_some_iff] at hxs
  obtain⟨y,hy,ys,hys,hp⟩:=hxs
  simp at hp
  subst hp
  have e1:=cO_ev ht hy
  simp only[List.map_cons] at h ⊢
  unfold minmaxI at h
  split at h
  ·rename_i hc;cases hc
  ·rename_i k' n rest hc
   injection hc with hc1 hc2
   rw[hc1] at e1
   subst hc2
   cases mx with
   |true=>
    simp only[if_true] at h
    rcases Int.lt_or_le m n with hlt|hle
    ·obtain⟨r,hr,hrun⟩:=minmaxI_ok true ht k xs ys hys n (h.2 hlt)
     refine⟨r,hr,λw=>?_⟩
     simp only[if_true] at hrun
     simp[List.foldlM_cons,va_int e1,Builtin.max2,hlt,hrun]
    ·obtain⟨r,hr,hrun⟩:=minmaxI_ok true ht k xs ys hys m (h.1 hle)
     refine⟨r,hr,λw=>?_⟩
     simp only[if_true] at hrun
     have:¬m<n:=by omega
     simp[List.foldlM_cons,va_int e1,Builtin.max2,this,hrun]
   |false=>
    simp only[Bool.false_eq_true,if_false] at h
    rcases Int.lt_or_le n m with hlt|hle
    ·obtain⟨r,hr,hrun⟩:=minmaxI_ok false ht k xs ys hys n (h.2 hlt)
     refine⟨r,hr,λw=>?_⟩
     simp only[Bool.false_eq_true,if_false] at hrun
     simp[List.foldlM_cons,va_int e1,Builtin.min2,hlt,hrun]
    ·obtain⟨r,hr,hrun⟩:=minmaxI_ok false ht k xs ys hys m (h.1 hle)
     refine⟨r,hr,λw=>?_⟩
     simp only[Bool.false_eq_true,if_false] at hrun
     have:¬n<m:=by omega
     simp[List.foldlM_cons,va_int e1,Builtin.min2,this,hrun]
  ·exact h.elim
theorem ok_minmax(he:Env M G os w)(ht:Tmps M G os ρ a){o:Oper}{mx:Bool}{x:Operand}{x':Opd}{xs:List Operand}{xs':List Opd}{c:Call}(ho:o.op=.call c)(hb:c.callee=.builtin (if mx then .max else .min))(hargs:c.args.toList=x::xs)(hx:cO x=some x')(hxs:xs.mapM cO=some xs')
  (h:opI P ρ os K (.minmax mx x' xs')):OpOK P M G os w K (execOp a.eval o):=by
 have e1:=cO_ev ht hx
 simp only[opI] at h
 split at h
 ·rename_i k m h1
  rw[h1] at e1
  obtain⟨n,hn,hrun⟩:=minmaxI_ok (P:=P) mx ht k xs xs' hxs m h
  refine ok_value he (v:=.int k n) ?_ (Rd.int' ..) hn
  have hm:List.map a.eval c.args.toList=.int k m::xs.map a.eval:=by simp[hargs,va_int e1]
  cases mx with
  |true=>
   simp only[if_true] at hb hrun
   simp[execOp,ho,hb,resolve,invoke,builtin,Builtin.max_,hm,hrun]
  |false=>
   simp only[Bool.false_eq_true,if_false] at hb hrun
   simp[execOp,ho,hb,resolve,invoke,builtin,Builtin.min_,hm,hrun]
 ·exact h.elim
end
end Go.Bi
