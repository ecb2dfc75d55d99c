/- Soundness of addresses, parts, slices, lengths. No condition. -/
import Derived.Test.YtnhhopmldgpglaaGreatDoorBF
set_option linter.unusedVariables false
namespace Go.Bi
set_option linter.unusedSectionVars false
variable [J9]
section
variable {P:Program}{M:C2}{G:Gh}{os:List AO}{w:World}{ρ:C5}{a:Act}{K:AV->List AO->Prop}
theorem B2d{x:AV}{v:Value}{d:Nat}{K:AV->Prop}(hv:VA M G os x v)(h:b9 os d x K) :
  ∃b o r,v=.pointer (some ⟨b,o,none⟩)/\K r/\VA M G os r (.pointer (some ⟨b,o+d,none⟩)):=by
 cases x with
 |ptr id o=>
  obtain⟨rfl,cs,hc⟩:=A9l hv
  exact⟨_,_,_,rfl,h,rfl,cs,hc⟩
 |aptr id l i o=>
  obtain⟨_,es,sz,frz,nl,h1,h2,h3⟩:=hv
  simp only[b9,h1] at h
  refine⟨_,_,_,h3 h.1,h.2,rfl,es,sz,frz,nl,h1,h2,λ_=>by rw[Nat.add_assoc]⟩
 |dptr es i o=>
  obtain⟨b,ob,cap,sz,h1,h2,h3,h4,rfl⟩:=hv
  exact⟨_,_,_,rfl,h,b,ob,cap,sz,h1,h2,h3,h4,by simp only[Nat.add_assoc]⟩
 |_=>exact h.elim
theorem D61(he:C0 M G os w)(ht:G6 M G os ρ a){o:Oper}{s:TypeId}{x:Operand}{f:Nat}{x':B6}{fs:Array Field}{fd:Field}{m:Nat}(ho:o.op=.fieldAddr s x f)(hx:cO x=some x')
  (hs:P.underlying s=some (.struct fs)) (hf:fs[f]?=some fd) (hm:J8 P fd.type=some (m+1)) (h:A8 P ρ os K (.faddr fd.offset x')):E6 P M G os w K (execOp a.eval o):=by
 have e1:=F9 ht hx
 obtain⟨b,ob,r,hv,hk,hr⟩:=B2d e1 (show b9 os fd.offset (B8 ρ x') λr=>K r os from h)
 refine J3 he ?_ hr hk
 simp[execOp,ho,hv,Instr.fieldAt,run_underlying hs,hf,Instr.sureAddr,fieldPlace,Z9 hm,A13]
theorem D6g(he:C0 M G os w)(ht:G6 M G os ρ a){o:Oper}{x:Operand}{x':B6}(ho:o.op=.nilCheck x)(hx:cO x=some x')
  (h:A8 P ρ os K (.nilck x')):E6 P M G os w K (execOp a.eval o):=by
 have e1:=F9 ht hx
 obtain⟨b,ob,r,hv,hk,hr⟩:=B2d e1 (show b9 os 0 (B8 ρ x') λr=>K r os from h)
 refine J3 he ?_ hr hk
 simp[execOp,ho,hv]
theorem D63(he:C0 M G os w)(ht:G6 M G os ρ a){o:Oper}{t e:TypeId}{x i:Operand}{x' i':B6}{n sz:Nat}(ho:o.op=.indexAddr t x i)(hx:cO x=some x')(hi:cO i=some i')
  (hu:P.underlying t=some (.array n e)) (hs:J8 P e=some sz) (h:A8 P ρ os K (.ixarr n sz x' i')):E6 P M G os w K (execOp a.eval o):=by
 have e1:=F9 ht hx
 have e2:=F9 ht hi
 simp only[A8] at h
 split at h
 ·rename_i k m h1
  rw[h1] at e2
  obtain⟨g1,g2,g3⟩:=h
  obtain⟨b,ob,r,hv,hk,hr⟩:=B2d e1 g3
  refine J3 he ?_ hr hk
  simp[execOp,ho,hv,Y2 e2,Instr.indexAt,asIntOf,run_underlying hu,Instr.sureAddr,g1,g2,Z9 hs,A13]
 ·exact h.elim
theorem D64(he:C0 M G os w)(ht:G6 M G os ρ a){o:Oper}{t e:TypeId}{x i:Operand}{x' i':B6}{sz:Nat}(ho:o.op=.indexAddr t x i)(hx:cO x=some x')(hi:cO i=some i')
  (hu:P.underlying t=some (.slice e)) (hs:J8 P e=some sz) (h:A8 P ρ os K (.ixsl sz x' i')):E6 P M G os w K (execOp a.eval o):=by
 have e1:=F9 ht hx
 have e2:=F9 ht hi
 simp only[A8] at h
 split at h
 ·rename_i k m h1
  rw[h1] at e2
  split at h
  ·rename_i es h2
   rw[h2] at e1
   obtain⟨g1,g2,g3,g4⟩:=h
   have hr:=A21 e1
   cases hav:a.eval x with
   |slice sa n c=>
    rw[hav] at hr
    cases hr with
    |sl _ b ob cap sz' cv hcap hsz hc hr=>
     have hpos:m.toNat<es.length:=by omega
     have hse:sz'=sz:=by
      have h5:=hsz _ (A4S hpos)
      have h6:=g3 _ (A4S hpos)
      omega
     subst hse
     refine J3 he (v:=.pointer (some ⟨b,ob+m.toNat*sz',none⟩)) (r:=.dptr es m.toNat 0) ?_ ?_ g4
     ·simp[execOp,ho,hav,Y2 e2,Instr.indexAt,asIntOf,run_underlying hu,g1,g2,Z9 hs,A13]
     ·refine⟨b,ob,_,sz',Rd.sl es b ob _ sz' cv hcap hsz hc hr,hsz,hpos,λk j e x hk hj=>?_,by simp⟩
      have hk':=(A7.1 hk).1
      have hj':=(A7.1 hj).1
      rw[hsz e (B9 hk)] at hj'
      exact⟨_,hc k j hk' hj',hr k j e x hk hj⟩
    |sle sa cap=>simp at g2;omega
   |_=>rw[hav] at hr;cases hr
  ·rename_i id len h2
   rw[h2] at e1
   split at h
   ·rename_i es sz' frz nl h3
    obtain⟨g1,rfl,g2,g3,rfl,g4⟩:=h
    obtain⟨_,es',sz'',frz',nl',h4,h5,h6⟩:=e1
    rw[h3] at h4
    cases h4
    have hv:=h6 g1
    simp only[Gh.slv] at hv
    refine J3 he (v:=.pointer (some ⟨G.blk id,m.toNat*sz',none⟩)) (r:=.aptr id len m.toNat 0) ?_ ⟨rfl,es,sz',frz,false,h3,h5,λ_=>by simp⟩ g4
    simp[execOp,ho,hv,Y2 e2,Instr.indexAt,asIntOf,run_underlying hu,g2,g3,Z9 hs,A13]
   ·exact h.elim
  ·rename_i id len h2
   rw[h2] at e1
   split at h
   ·rename_i es sz' nl h3
    obtain⟨g1,rfl,g2,g3,rfl,g4⟩:=h
    obtain⟨_,es',sz'',nl',h4,h5,h6⟩:=e1
    rw[h3] at h4
    cases h4
    have hv:=h6 g1
    simp only[Gh.slv] at hv
    refine J3 he (v:=.pointer (some ⟨G.blk id,m.toNat*sz',none⟩)) (r:=.rp id len m.toNat 0) ?_ ⟨rfl,es,sz',false,h3,h5,λ_=>by simp⟩ g4
    simp[execOp,ho,hv,Y2 e2,Instr.indexAt,asIntOf,run_underlying hu,g2,g3,Z9 hs,A13]
   ·exact h.elim
  ·exact h.elim
 ·exact h.elim
theorem D65(he:C0 M G os w)(ht:G6 M G os ρ a){o:Oper}{t:TypeId}{x i:Operand}{x' i':B6}(ho:o.op=.index t x i)(hx:cO x=some x')(hi:cO i=some i')
  (hu:P.underlying t=some .string) (h:A8 P ρ os K (.ixstr x' i')):E6 P M G os w K (execOp a.eval o):=by
 have e1:=F9 ht hx
 have e2:=F9 ht hi
 simp only[A8] at h
 split at h
 ·rename_i s k m h1 h2
  rw[h1] at e1
  rw[h2] at e2
  obtain⟨g1,g2,g3⟩:=h
  have hlt:m.toNat<s.length:=by omega
  have hg:(ByteArray.mk ⟨s⟩)[m.toNat]?=some (s.getD m.toNat 0):=by
   show(ByteArray.mk ⟨s⟩)[m.toNat]?=_
   rw[getElem?_pos (ByteArray.mk ⟨s⟩) m.toNat (show m.toNat<(ByteArray.mk ⟨s⟩).size from hlt)]
   simp only[E8,C3 hlt,l9]
   rfl
  refine J3 he (v:=.int .u8 (s.getD m.toNat 0).toNat) ?_ (Rd.int' ..) g3
  simp[execOp,ho,A44 e1,Y2 e2,Instr.index,asIntOf,run_underlying hu,g1,hg]
 ·exact h.elim
theorem B26{t:TypeId}{g:Bool}{n:Nat}(hg:N9 P t=some g)(hn:J8 P t=some n)(vs:Array Value)(off:Nat)(h:off<vs.size)(w:World) :
  (part t vs off).run P w=.ok (if g then .agg (vs.extract off (off+n)) else vs[off]) w:=by
 cases g with
 |true=>simp[part,A6Z hg,Z9 hn]
 |false=>simp[part,A6Z hg,h]
theorem B27{t:TypeId}{n:Nat}(hg:N9 P t=some true)(hn:J8 P t=some n)(vs:Array Value)(off:Nat)(w:World) :
  (part t vs off).run P w=.ok (.agg (vs.extract off (off+n))) w:=by
 simp[part,A6Z hg,Z9 hn]
theorem C1d{cs:List AV}{vs:Array Value}(h2:vs.size=cs.length)(h3:∀(j:Nat) c u,cs[j]?=some c->vs[j]?=some u->VC M G os c u){off n:Nat}(h:off+n<=cs.length) :
  VA M G os (.agg ((cs.drop off).take n)) (.agg (vs.extract off (off+n))):=by
 refine B0H (by simp;omega) λj c u hc hu=>?_
 rw[A3a] at hc
 split at hc
 ·rename_i hj
  rw[Array.getElem?_extract,if_pos (by omega)] at hu
  exact h3 _ c u hc hu
 ·cases hc
theorem C2d{c:AV}{v:Value}(h:VC M G os c v):VA M G os c v:=by
 cases c with
 |agg cs=>exact h.elim
 |tup cs=>exact h.elim
 |junk=>trivial
 |_=>exact h
theorem D62(he:C0 M G os w)(ht:G6 M G os ρ a){o:Oper}{s:TypeId}{x:Operand}{f:Nat}{x':B6}{fs:Array Field}{fd:Field}{n:Nat}{g:Bool}(ho:o.op=.field s x f)(hx:cO x=some x')
  (hs:P.underlying s=some (.struct fs)) (hf:fs[f]?=some fd) (hm:J8 P fd.type=some n) (hg:N9 P fd.type=some g) (h:A8 P ρ os K (.field fd.offset n g x')):E6 P M G os w K (execOp a.eval o):=by
 have e1:=F9 ht hx
 simp only[A8] at h
 split at h
 ·rename_i cs h1
  rw[h1] at e1
  obtain⟨vs,hv,h2,h3⟩:=A9j e1
  cases g with
  |true=>
   simp only[if_true] at h
   refine J3 he (v:=.agg (vs.extract fd.offset (fd.offset+n))) ?_ (C1d h2 h3 h.1) h.2
   simp[execOp,ho,hv,Instr.field,run_underlying hs,hf,asAgg,B27 hg hm]
  |false=>
   simp only[L8,if_false] at h
   have hlt:fd.offset<vs.size:=by omega
   refine J3 he (v:=vs[fd.offset]) ?_ (C2d (h3 fd.offset _ _ (getD_some h.1) (J4 hlt))) h.2
   simp[execOp,ho,hv,Instr.field,run_underlying hs,hf,asAgg,B26 hg hm vs _ hlt]
 ·exact h.elim
theorem D66(he:C0 M G os w)(ht:G6 M G os ρ a){o:Oper}{t e:TypeId}{x i:Operand}{x' i':B6}{n sz:Nat}{g:Bool}(ho:o.op=.index t x i)(hx:cO x=some x')(hi:cO i=some i')
  (hu:P.underlying t=some (.array n e)) (hs:J8 P e=some sz) (hg:N9 P e=some g) (h:A8 P ρ os K (.ixval n sz g x' i')):E6 P M G os w K (execOp a.eval o):=by
 have e1:=F9 ht hx
 have e2:=F9 ht hi
 simp only[A8] at h
 split at h
 ·rename_i cs k m h1 h2
  rw[h1] at e1
  rw[h2] at e2
  obtain⟨vs,hv,h3,h4⟩:=A9j e1
  obtain⟨g1,g2,h⟩:=h
  cases g with
  |true=>
   simp only[if_true] at h
   refine J3 he (v:=.agg (vs.extract (m.toNat*sz) (m.toNat*sz+sz))) ?_ (C1d h3 h4 h.1) h.2
   simp[execOp,ho,hv,Y2 e2,Instr.index,asIntOf,run_underlying hu,g1,g2,Z9 hs,B27 hg hs]
  |false=>
   simp only[L8,if_false] at h
   obtain⟨rfl,h5,h6⟩:=h
   have hlt:m.toNat<vs.size:=by omega
   refine J3 he (v:=vs[m.toNat]) ?_ (C2d (h4 m.toNat _ _ (getD_some h5) (J4 hlt))) h6
   simp[execOp,ho,hv,Y2 e2,Instr.index,asIntOf,run_underlying hu,g1,g2,Z9 hs,B26 hg hs vs _ hlt]
 ·exact h.elim
theorem D60(he:C0 M G os w)(ht:G6 M G os ρ a){o:Oper}{x:Operand}{x':B6}{i:Nat}(ho:o.op=.extract x i)(hx:cO x=some x')
  (h:A8 P ρ os K (.ext i x')):E6 P M G os w K (execOp a.eval o):=by
 have e1:=F9 ht hx
 simp only[A8] at h
 split at h
 ·rename_i cs h1
  rw[h1] at e1
  obtain⟨vs,hv,h3,h4⟩:=D7X e1
  have hlt:i<vs.size:=by omega
  refine J3 he (v:=vs[i]) ?_ ?_ h.2
  ·simp[execOp,ho,hv,Instr.extract,hlt]
  ·have:=h4 i _ _ (getD_some (d:=.junk) h.1) (J4 hlt)
   revert this
   generalize cs.getD i .junk=c
   cases c with
   |tup c=>exact λh=>h.elim
   |junk=>exact λ_=>trivial
   |_=>exact λh=>h
 ·exact h.elim
theorem D69(he:C0 M G os w)(ht:G6 M G os ρ a){o:Oper}{x:Operand}{x':B6}{t:TypeId}{c:Call}(ho:o.op=.call c)(hb:c.callee=.builtin .len)(hargs:c.args=#[x])(hts:c.argTypes=#[t])(hx:cO x=some x')
  (hu:P.underlying t=some .string) (h:A8 P ρ os K (.lens x')):E6 P M G os w K (execOp a.eval o):=by
 have e1:=F9 ht hx
 simp only[A8] at h
 split at h
 ·rename_i s h1
  rw[h1] at e1
  refine J3 he (v:=.int .i64 s.length) ?_ (Rd.int' ..) h
  simp[execOp,ho,hb,hargs,hts,resolve,invoke,builtin,Builtin.len_,run_underlying hu,A44 e1,goInt,A75]
 ·exact h.elim
theorem D67(he:C0 M G os w)(ht:G6 M G os ρ a){o:Oper}{x:Operand}{x':B6}{t e:TypeId}{c:Call}(ho:o.op=.call c)(hb:c.callee=.builtin .len)(hargs:c.args=#[x])(hts:c.argTypes=#[t])(hx:cO x=some x')
  (hu:P.underlying t=some (.slice e)) (h:A8 P ρ os K (.len x')):E6 P M G os w K (execOp a.eval o):=by
 have e1:=F9 ht hx
 have ksl:∀s n c',a.eval x=.slice s n c'->K (.d (.int .i64 n)) os->E6 P M G os w K (execOp a.eval o):=λs n c' hv hk=>by
  refine J3 he (v:=.int .i64 n) ?_ (Rd.int' ..) hk
  simp[execOp,ho,hb,hargs,hts,resolve,invoke,builtin,Builtin.len_,run_underlying hu,hv,goInt]
 simp only[A8] at h
 split at h
 ·rename_i h1
  rw[h1] at e1
  exact ksl _ _ _ (A0l e1) h
 ·rename_i es h1
  rw[h1] at e1
  obtain⟨sa,cap,hv⟩:=B2s e1
  exact ksl _ _ _ hv h
 ·rename_i id len h1
  rw[h1] at e1
  split at h
  ·rename_i es sz frz nl h2
   obtain⟨_,es',sz',frz',nl',h3,h4,h5⟩:=e1
   rw[h2] at h3
   cases h3
   have hv:=h5 h.1
   cases nl with
   |true=>
    have hn:es=[]:=(he.obj id _ h2).2.2.2.1 rfl
    subst hn
    exact ksl _ _ _ (by simpa[Gh.slv] using hv) h.2
   |false=>exact ksl _ _ _ (by simpa[Gh.slv] using hv) h.2
  ·exact h.elim
 ·rename_i id len h1
  rw[h1] at e1
  split at h
  ·rename_i es sz nl h2
   obtain⟨_,es',sz',nl',h3,h4,h5⟩:=e1
   rw[h2] at h3
   cases h3
   have hv:=h5 h.1
   cases nl with
   |true=>
    have hn:es=[]:=(he.obj id _ h2).2.2.1 rfl
    subst hn
    exact ksl _ _ _ (by simpa[Gh.slv] using hv) h.2
   |false=>exact ksl _ _ _ (by simpa[Gh.slv] using hv) h.2
  ·exact h.elim
 ·exact h.elim
theorem D68(he:C0 M G os w){o:Oper}{x:Operand}{t e:TypeId}{c:Call}{n:Nat}(ho:o.op=.call c)(hb:c.callee=.builtin .len)(hargs:c.args=#[x])(hts:c.argTypes=#[t])
  (hu:P.underlying t=some (.array n e)) (h:A8 P ρ os K (.lenk n)):E6 P M G os w K (execOp a.eval o):=by
 refine J3 he (v:=.int .i64 n) ?_ (Rd.int' ..) h
 simp[execOp,ho,hb,hargs,hts,resolve,invoke,builtin,Builtin.len_,run_underlying hu,goInt]
theorem A4t(ht:G6 M G os ρ a){x:Option Operand}{x':Option B6}(hx:A17 x=some x'){d:Nat}{K:Int->Prop}(h:S2 ρ x' d K) :
  ∃n,K n/\((x=none/\n=d)\/∃y k,x=some y/\a.eval y=.int k n):=by
 cases x with
 |none=>
  simp only[A17] at hx
  cases hx
  exact⟨d,h,.inl ⟨rfl,rfl⟩⟩
 |some y=>
  simp only[A17] at hx
  obtain⟨z,hz,rfl⟩:=F7.1 hx
  simp only[S2] at h
  have e1:=F9 ht hz
  split at h
  ·rename_i k n h1
   rw[h1] at e1
   exact⟨n,h,.inr ⟨y,k,rfl,Y2 e1⟩⟩
  ·exact h.elim
theorem B23(s:Bool)(len cap:Nat)(lo hi:Option Value)(l h:Int)(hlo:(lo=none/\l=0)\/∃k,lo=some (.int k l))(hhi:(hi=none/\h=len)\/∃k,hi=some (.int k h))
  (h0:0<=l) (h1:l<=h) (h2:h<=len) (h3:len<=cap) (w:World):(Instr.sliceBounds s len cap lo hi none).run P w=.ok (l.toNat,h.toNat,cap) w:=by
 have hc:h<=cap:=by omega
 have h0':0<=h:=by omega
 have e1:((h.toNat:Nat):Int)=h:=by omega
 rcases hlo with ⟨rfl,rfl⟩|⟨k,rfl⟩<;>rcases hhi with ⟨rfl,rfl⟩|⟨k',rfl⟩<;>
  simp[Instr.sliceBounds,Instr.sliceBound,asIntOf,h0,h0',hc,e1,h1]
theorem A4D{x:Option Operand}{n:Int}{d:Nat}(h:(x=none/\n=d)\/∃y k,x=some y/\a.eval y=.int k n):(x.map a.eval=none/\n=d)\/∃k,x.map a.eval=some (.int k n):=by
 rcases h with ⟨rfl,rfl⟩|⟨y,k,rfl,hk⟩
 ·exact .inl ⟨rfl,rfl⟩
 ·exact .inr ⟨k,by simp[hk]⟩
theorem D6n(he:C0 M G os w)(ht:G6 M G os ρ a){o:Oper}{x:Operand}{x':B6}{lo hi:Option Operand}{lo' hi':Option B6}{t:TypeId}(ho:o.op=.slice t x lo hi none)(hx:cO x=some x')(hlo:A17 lo=some lo')(hhi:A17 hi=some hi')
  (hu:P.underlying t=some .string) (h:A8 P ρ os K (.slstr x' lo' hi')):E6 P M G os w K (execOp a.eval o):=by
 have e1:=F9 ht hx
 simp only[A8] at h
 split at h
 ·rename_i s h1
  rw[h1] at e1
  obtain⟨m,h,q1⟩:=A4t ht hhi h
  obtain⟨l,h,q2⟩:=A4t ht hlo h
  obtain⟨g1,g2,g3,g4⟩:=h
  have hb:=B23 (P:=P) false s.length s.length _ _ l m (A4D (d:=0) q2) (A4D q1) g1 g2 g3 (G8 _)
  have hex:(ByteArray.mk ⟨s⟩).extract l.toNat m.toNat=ByteArray.mk ⟨(s.drop l.toNat).take (m.toNat-l.toNat)⟩:=by
   apply ByteArray.ext
   apply Array.ext'
   simp only[ByteArray.data_extract,Array.toList_extract,List.extract_eq_take_drop]
  refine J3 he ?_ (Rd.str' _) g4
  simp[execOp,ho,Instr.sliceAt,Instr.slice,run_underlying hu,A44 e1,A75,hb,hex]
 ·exact h.elim
theorem Rd.sub{es:List (List D)}{b o cap sz:Nat}(hr:Rd M (.sl es) (.slice (some ⟨b,o,none⟩) es.length cap))(hsz:∀e∈es,e.length=sz)(l h m:Nat)(hl:l<=h)(hh:h<=es.length)(hm:h-l<=m)(o':Nat)
  (ho:es.length=0\/l=es.length\/o'=o+l*sz):Rd M (.sl ((es.drop l).take (h-l))) (.slice (some ⟨b,o',none⟩) (h-l) m):=by
 cases hr with
 |sle _ _=>
  obtain rfl:l=0:=by simp at hh;omega
  obtain rfl:h=0:=by simp at hh;omega
  exact .sle _ _
 |sl _ _ _ _ sz' cv hcap hsz' hc hr=>
  have hlen:((es.drop l).take (h-l)).length=h-l:=by simp;omega
  have hmem:∀e,e∈(es.drop l).take (h-l)->e∈es:=λe he=>A2b (Z1 he)
  have key:∀i,i<h-l->o'=o+l*sz/\sz'=sz:=λi hi=>by
   have hp:0<es.length:=by omega
   have e1:=hsz' _ (A4S hp)
   have e2:=hsz _ (A4S hp)
   rcases ho with ho|ho|ho
   ·omega
   ·omega
   ·exact⟨ho,by omega⟩
  have:=Rd.sl (M:=M) ((es.drop l).take (h-l)) b o' m sz (λi j=>cv (l+i) j) (by omega) (λe he=>hsz e (hmem e he)) (λi j hi hj=>?_) (λi j e d hi hj=>?_)
  ·rw[hlen] at this;exact this
  ·rw[hlen] at hi
   obtain⟨k1,k2⟩:=key i hi
   subst k2
   have:=hc (l+i) j (by omega) hj
   rw[U8] at this
   rw[k1,<- this]
   congr 2
   omega
  ·rw[A3a] at hi
   split at hi
   ·exact hr (l+i) j e d hi hj
   ·cases hi
theorem D6m(he:C0 M G os w)(ht:G6 M G os ρ a){o:Oper}{x:Operand}{x':B6}{lo hi:Option Operand}{lo' hi':Option B6}{t e:TypeId}{sz:Nat}(ho:o.op=.slice t x lo hi none)(hx:cO x=some x')(hlo:A17 lo=some lo')(hhi:A17 hi=some hi')
  (hu:P.underlying t=some (.slice e)) (hs:J8 P e=some sz) (h:A8 P ρ os K (.slsl sz x' lo' hi')):E6 P M G os w K (execOp a.eval o):=by
 have e1:=F9 ht hx
 simp only[A8,slI] at h
 have hvc:∀y os1,A1f os (B8 ρ x')=some (y,os1)->VC M G os (B8 ρ x') (a.eval x):=λy os1 hf=>by
  revert hf e1
  generalize B8 ρ x'=c
  intro e1 hf
  cases c with
  |d y=>exact e1
  |arr id len=>exact e1
  |_=>cases hf
 split at h
 ·rename_i es os1 hf
  obtain⟨M1,f1,f2,f3⟩:=A6j he hf (hvc _ _ hf)
  obtain⟨m,h,q1⟩:=A4t ht hhi h
  obtain⟨l,h,q2⟩:=A4t ht hlo h
  obtain⟨g1,g2,g3,g4,g5⟩:=h
  obtain⟨sa,cap,hv⟩:=B2s (M:=M1) (G:=G) (os:=os1) (show VA M1 G os1 (.d (.sl es)) (a.eval x) from f3)
  rw[hv] at f3
  have hcap:es.length<=cap:=by
   rcases(show Rd M1 (.sl es) (.slice (some sa) es.length cap) from f3) with _|_|_|_|_|_|⟨_,_,_,_,_,_,hc,_,_,_⟩|_
   ·exact hc
   ·exact R1 _
  have hsa:(∃b ob,sa=⟨b,ob,none⟩)\/es=[]:=by
   rcases(show Rd M1 (.sl es) (.slice (some sa) es.length cap) from f3) with _|_|_|_|_|_|⟨_,_,_,_,_,_,hc,_,_,_⟩|_
   ·exact .inl ⟨_,_,rfl⟩
   ·exact .inr rfl
  have hb:=B23 (P:=P) true es.length cap _ _ l m (A4D (d:=0) q2) (A4D q1) g1 g2 g3 hcap
  rcases hsa with ⟨b,ob,rfl⟩|rfl
  ·refine U1 (r:=.d (.sl ((es.drop l.toNat).take (m.toNat-l.toNat)))) (v:=.slice (some ⟨b,if cap=l.toNat then ob else ob+l.toNat*sz,none⟩) (m.toNat-l.toNat) (cap-l.toNat)) ?_ f1 f2
    (show Rd M1 _ _ from Rd.sub f3 g4 l.toNat m.toNat (cap-l.toNat) (by omega) (by omega) (by omega) _ ?_) g5
   ·simp only[execOp,ho,Instr.sliceAt,Instr.slice,Sem.run_bind,run_underlying hu,Result.andThen_ok,Option.map_none,hv,hb,Z9 hs,A10]
    split<;>simp[A13]
   ·split
    ·exact .inr (.inl (by omega))
    ·exact .inr (.inr rfl)
  ·simp only[P9,Int.ofNat_zero] at g3
   obtain rfl:m=0:=by omega
   obtain rfl:l=0:=by omega
   refine U1 (r:=.d (.sl [])) (v:=.slice (some sa) 0 cap) ?_ f1 f2 (show Rd M1 _ _ from Rd.sle _ _) (by simpa using g5)
   simp only[execOp,ho,Instr.sliceAt,Instr.slice,Sem.run_bind,run_underlying hu,Result.andThen_ok,Option.map_none,hv,hb,Z9 hs,A10]
   split<;>simp[Addr.add]
 ·rename_i os1 hf
  obtain⟨M1,f1,f2,f3⟩:=A6j he hf (hvc _ _ hf)
  obtain⟨m,h,q1⟩:=A4t ht hhi h
  obtain⟨l,h,q2⟩:=A4t ht hlo h
  obtain⟨rfl,rfl,g5⟩:=h
  have hv:=A0l (M:=M1) (G:=G) (os:=os1) (show VA M1 G os1 (.d .nil) (a.eval x) from f3)
  have hb:=B23 (P:=P) true 0 0 _ _ 0 0 (A4D (d:=0) q2) (A4D (d:=0) q1) (by omega) (by omega) (by omega) (G8 _)
  refine U1 (r:=.d .nil) (v:=.slice none 0 0) ?_ f1 f2 (show Rd M1 .nil _ from Rd.nil) g5
  simp[execOp,ho,Instr.sliceAt,Instr.slice,run_underlying hu,hv,hb,Z9 hs]
 ·exact h.elim
theorem A6z(mx:Bool)(ht:G6 M G os ρ a)(k:IntKind):∀(xs:List Operand)(xs':List B6),xs.mapM cO=some xs'->∀(m:Int){K:AV->Prop},m9 mx k m (xs'.map (B8 ρ)) K->
  ∃n,K (.d (.int k n))/\∀w,(List.foldlM (if mx then Builtin.max2 else Builtin.min2) (Value.int k m) (xs.map a.eval)).run P w=.ok (.int k n) w
 |[],xs',hxs,m,K,h=>by
  simp at hxs
  subst hxs
  exact⟨m,h,λw=>rfl⟩
 |x::xs,xs',hxs,m,K,h=>by
  simp only[A0r,A2N,Z2] at hxs
  obtain⟨y,hy,ys,hys,hp⟩:=hxs
  simp at hp
  subst hp
  have e1:=F9 ht hy
  simp only[Q8] at h ⊢
  unfold m9 at h
  split at h
  ·rename_i hc;cases hc
  ·rename_i k' n rest hc
   injection hc with hc1 hc2
   rw[hc1] at e1
   subst hc2
   cases mx with
   |true=>
    simp only[if_true] at h
    rcases Int.lt_or_le m n with hlt|hle
    ·obtain⟨r,hr,hrun⟩:=A6z true ht k xs ys hys n (h.2 hlt)
     refine⟨r,hr,λw=>?_⟩
     simp only[if_true] at hrun
     simp[List.foldlM_cons,Y2 e1,Builtin.max2,hlt,hrun]
    ·obtain⟨r,hr,hrun⟩:=A6z true ht k xs ys hys m (h.1 hle)
     refine⟨r,hr,λw=>?_⟩
     simp only[if_true] at hrun
     have:¬m<n:=by omega
     simp[List.foldlM_cons,Y2 e1,Builtin.max2,this,hrun]
   |false=>
    simp only[L8,if_false] at h
    rcases Int.lt_or_le n m with hlt|hle
    ·obtain⟨r,hr,hrun⟩:=A6z false ht k xs ys hys n (h.2 hlt)
     refine⟨r,hr,λw=>?_⟩
     simp only[L8,if_false] at hrun
     simp[List.foldlM_cons,Y2 e1,Builtin.min2,hlt,hrun]
    ·obtain⟨r,hr,hrun⟩:=A6z false ht k xs ys hys m (h.1 hle)
     refine⟨r,hr,λw=>?_⟩
     simp only[L8,if_false] at hrun
     have:¬n<m:=by omega
     simp[List.foldlM_cons,Y2 e1,Builtin.min2,this,hrun]
  ·exact h.elim
theorem C0X(he:C0 M G os w)(ht:G6 M G os ρ a){o:Oper}{mx:Bool}{x:Operand}{x':B6}{xs:List Operand}{xs':List B6}{c:Call}(ho:o.op=.call c)(hb:c.callee=.builtin (if mx then .max else .min))(hargs:c.args.toList=x::xs)(hx:cO x=some x')(hxs:xs.mapM cO=some xs')
  (h:A8 P ρ os K (.minmax mx x' xs')):E6 P M G os w K (execOp a.eval o):=by
 have e1:=F9 ht hx
 simp only[A8] at h
 split at h
 ·rename_i k m h1
  rw[h1] at e1
  obtain⟨n,hn,hrun⟩:=A6z (P:=P) mx ht k xs xs' hxs m h
  refine J3 he (v:=.int k n) ?_ (Rd.int' ..) hn
  have hm:List.map a.eval c.args.toList=.int k m::xs.map a.eval:=by simp[hargs,Y2 e1]
  cases mx with
  |true=>
   simp only[if_true] at hb hrun
   simp[execOp,ho,hb,resolve,invoke,builtin,Builtin.max_,hm,hrun]
  |false=>
   simp only[L8,if_false] at hb hrun
   simp[execOp,ho,hb,resolve,invoke,builtin,Builtin.min_,hm,hrun]
 ·exact h.elim
end
end Go.Bi
