/- Soundness of the further operations: bytes and strings, copies, parts of arrays, deletions. No condition. -/
import Derived.Test.YthaildbjjlpdgaaGreatBK2
import Derived.Laws.IdiomStrings
import Derived.Laws.BytesString
set_option linter.unusedVariables false
namespace Go.Bi
set_option linter.unusedSectionVars false
variable [Globs]
section
variable {P:Program}{M:Mem}{G:Gh}{os:List AO}{w:World}{ρ:Rho}{a:Act}{K:AV->List AO->Prop}
theorem run_eqptr(t:TypeId)(e:TypeId)(hu:P.underlying t=some (.pointer e))(p:Addr)(w:World) :
  (Op.equal t (.pointer (some p)) (.pointer none)).run P w=.ok false w:=by
 show(Op.equalIn (9999+1) t _ _).run P w=_
 generalize 9999=d
 simp[Op.equalIn,run_underlying hu]
theorem ok_eqp(he:Env M G os w)(ht:Tmps M G os ρ a){o:Oper}{op:BinOp}{t t' e:TypeId}{x y:Operand}{x':Opd}{neg:Bool}(ho:o.op=.binOp op t x y t')(hx:cO x=some x')(hy:cO y=some (.c (.lit (.pointer none))))
  (hn:isNeg op=some neg) (hu:P.underlying t=some (.pointer e)) (h:opI P ρ os K (.ex (.eqp neg) [x'])):OpOK P M G os w K (execOp a.eval o):=by
 have e1:=cO_ev ht hx
 have e2:a.eval y=.pointer none:=by
  have:=va_d (cO_ev ht hy)
  revert this
  generalize a.eval y=v
  intro this
  cases this with|lit _ _=>rfl
 have h:exI os K (.eqp neg) [evO ρ x']:=h
 cases hx2:evO ρ x' with
 |ptr id off=>
  rw[hx2] at h e1
  have h:K (.d (.bool neg)) os:=h
  obtain⟨hv,_⟩:=va_ptr e1
  have hg:=λw=>eqGuard_plain (P:=P) (op:=op) (t:=t) (x:=x) (y:=y) (u:=.pointer (some ⟨G.blk id,off,none⟩)) (v:=.pointer none) (λ_ h=>by cases h) (λh=>by cases h) w
  have hq:=run_eqptr (P:=P) t e hu ⟨G.blk id,off,none⟩
  rcases isNeg_some hn with ⟨rfl,rfl⟩|⟨rfl,rfl⟩
  ·exact ok_value he (v:=.bool false) (by simp[execOp,ho,hv,e2,hg,binOp,hq]) (Rd.bool' ..) h
  ·exact ok_value he (v:=.bool true) (by simp[execOp,ho,hv,e2,hg,binOp,hq]) (Rd.bool' ..) h
 |_=>rw[hx2] at h;exact(show False from h).elim
theorem byteL_len(s:List UInt8):(byteL s).length=s.length:=by simp[byteL]
theorem byteL_one(s:List UInt8):∀e∈byteL s,e.length=1:=λe he=>by
 obtain⟨c,_,rfl⟩:=List.mem_map.1 he
 rfl
theorem ok_s2b(he:Env M G os w)(ht:Tmps M G os ρ a){o:Oper}{s d e:TypeId}{x:Operand}{x':Opd}(ho:o.op=.convert s d x)(hx:cO x=some x')
  (hs:P.underlying s=some .string) (hd:P.underlying d=some (.slice e)) (h8:P.underlying e=some (.int .u8)) (h:opI P ρ os K (.ex .s2b [x'])):OpOK P M G os w K (execOp a.eval o):=by
 have e1:=cO_ev ht hx
 have h:exI os K .s2b [evO ρ x']:=h
 cases hx2:evO ρ x' with
 |d y=>
  cases y with
  |str s'=>
   rw[hx2] at h e1
   have h:K (.d (.sl (byteL s'))) os:=h
   have hv:=va_str e1
   have hrun:=run_bytes_of_string (P:=P) w s d e ⟨⟨s'⟩⟩ hs hd h8
   have hge:=grownCap_ge w (ByteArray.mk ⟨s'⟩).size 0 e
   rw[size_mk] at hge
   rw[size_mk] at hrun
   generalize grownCap w s'.length 0 e=cap at hrun hge
   have hsize:s'.length<=(bytesRow ⟨⟨s'⟩⟩ cap).size:=by simp[bytesRow]
   generalize hfr:((bytesRow ⟨⟨s'⟩⟩ cap).size,(bytesRow ⟨⟨s'⟩⟩ cap).size+1)=fr at hrun
   obtain⟨t1,t2,t3⟩:=env_ro he.drew (bytesRow ⟨⟨s'⟩⟩ cap) e fr
   refine ok_next (v:=.slice (some ⟨w.heap.size,0,none⟩) s'.length cap) (r:=.d (.sl (byteL s'))) (by simp only[execOp,ho,hv,Sem.run_bind,hrun];rfl) t1 ((since_drew M G os w).trans t2) ?_ h
   have:=Rd.sl (M:=Mem.with M (w.drew.alloc (.cells (bytesRow ⟨⟨s'⟩⟩ cap) e fr)) w.drew.heap.size (bytesRow ⟨⟨s'⟩⟩ cap).size) (byteL s') w.heap.size 0 cap 1 (λi j=>.int .u8 ((s'[i]?).getD 0).toNat) (by rw[byteL_len];exact hge) (byteL_one s') (λi j hi hj=>?_) (λi j y z hi hj=>?_)
   ·rw[byteL_len] at this;exact this
   ·rw[byteL_len] at hi
    obtain rfl:j=0:=by omega
    refine(t3 _ (by omega)).trans ?_
    simp only[Nat.mul_one,Nat.add_zero,Nat.zero_add]
    rw[bytesRow_at _ _ _ (by simpa using hi)]
    simp[hi]
   ·simp only[byteL,List.getElem?_map,Option.map_eq_some_iff] at hi
    obtain⟨c,hc,rfl⟩:=hi
    cases j with
    |succ j=>simp at hj
    |zero=>
     simp at hj
     subst hj
     rw[hc]
     exact .int ..
  |_=>rw[hx2] at h;exact(show False from h).elim
 |_=>rw[hx2] at h;exact(show False from h).elim
theorem unbyte_get:∀{ns:List (List D)} {s:List UInt8},unbyte ns=some s->∃ms:List Int,ns=ms.map (λm=>[D.int .u8 m])/\s=ms.map (λm=>UInt8.ofNat m.toNat)
 |[],s,h=>by cases h;exact⟨[],rfl,rfl⟩
 |e::l,s,h=>by
  unfold unbyte at h
  split at h
  ·rename_i c s' h1 h2
   cases h
   obtain⟨ms,h3,h4⟩:=unbyte_get h2
   unfold unB1 at h1
   split at h1
   ·rename_i m
    cases h1
    exact⟨m::ms,by simp[h3],by simp[h4]⟩
   ·cases h1
  ·cases h
theorem foldl_push(l:List Int):∀(r:ByteArray),l.foldl (λr n=>r.push (UInt8.ofNat n.toNat)) r=⟨r.data++(l.map (λn=>UInt8.ofNat n.toNat)).toArray⟩:=by
 induction l with
 |nil=>intro r;simp
 |cons b l ih=>
  intro r
  simp only[List.foldl_cons]
  rw[ih]
  simp[ByteArray.push]
theorem ok_b2s(he:Env M G os w)(ht:Tmps M G os ρ a){o:Oper}{s d e:TypeId}{x:Operand}{x':Opd}(ho:o.op=.convert s d x)(hx:cO x=some x')
  (hs:P.underlying s=some (.slice e)) (hd:P.underlying d=some .string) (h8:P.underlying e=some (.int .u8)) (h:opI P ρ os K (.ex .b2s [x'])):OpOK P M G os w K (execOp a.eval o):=by
 have e1:=cO_ev ht hx
 have h:newsI os (evO ρ x') (λns=>match unbyte ns with
  |some s=>K (.d (.str s)) os
  |none=>False):=h
 obtain⟨ns,h,hv⟩:=news_ok (sz:=1) he e1 h
 split at h
 ·rename_i s' hs'
  obtain⟨ms,rfl,rfl⟩:=unbyte_get hs'
  have he0:ByteArray.empty.data=#[]:=rfl
  rcases hv with ⟨h0,xb,c,hv⟩|⟨b,ob,c,hv,hc⟩
  ·have:ms=[]:=by cases ms with|nil=>rfl|cons=>simp at h0
   subst this
   have hrun:(convert s d (.slice xb 0 c)).run P w=.ok (.string ⟨⟨[]⟩⟩) w:=by
    rw[run_convert_bytes_string w s d e xb 0 c hs h8 hd]
    cases xb with
    |none=>rfl
    |some ad=>
     have hl:=run_loadCells_list (P:=P) w ad [] (λj v hj=>by simp at hj)
     have:=run_bytesToString (P:=P) w ad 0 c [] (by simpa using hl)
     rw[this]
     rfl
   exact ok_value he (v:=.string ⟨⟨[]⟩⟩) (by simp only[execOp,ho,hv,Sem.run_bind,hrun];rfl) (Rd.str' _) h
  ·have hc:=hc (λy hy=>by obtain⟨m,_,rfl⟩:=List.mem_map.1 hy;rfl)
   have hrun:(convert s d (.slice (some ⟨b,ob,none⟩) ms.length c)).run P w=.ok (.string ⟨⟨ms.map (λm=>UInt8.ofNat m.toNat)⟩⟩) w:=by
    rw[run_convert_bytes_string w s d e _ _ c hs h8 hd]
    have hl:=run_loadCells_list (P:=P) w ⟨b,ob,none⟩ (ms.map (Value.int .u8)) (λj v hj=>by
     rw[List.getElem?_map,Option.map_eq_some_iff] at hj
     obtain⟨m,hm,rfl⟩:=hj
     obtain⟨u,hu,hr⟩:=hc j 0 [D.int .u8 m] (.int .u8 m) (by rw[List.getElem?_map,hm];rfl) rfl
     cases hr
     rw[add_none]
     simpa using hu)
    rw[List.length_map] at hl
    rw[run_bytesToString w _ _ c ms hl,foldl_push,he0]
    simp
   rw[List.length_map] at hv
   exact ok_value he (v:=.string ⟨⟨ms.map (λm=>UInt8.ofNat m.toNat)⟩⟩) (by simp only[execOp,ho,hv,Sem.run_bind,hrun];rfl) (Rd.str' _) h
 ·exact h.elim
theorem ok_sl3(he:Env M G os w)(ht:Tmps M G os ρ a){o:Oper}{x hi mx:Operand}{x' hi' mx':Opd}{t e:TypeId}(ho:o.op=.slice t x none (some hi) (some mx))(hx:cO x=some x')(hhi:cO hi=some hi')(hmx:cO mx=some mx')
  (hu:P.underlying t=some (.slice e)) {sz:Nat} (hs:tsz P e=some sz) (h:opI P ρ os K (.ex .sl3 [x',hi',mx'])):OpOK P M G os w K (execOp a.eval o):=by
 have e1:=cO_ev ht hx
 have e2:=cO_ev ht hhi
 have e3:=cO_ev ht hmx
 have h:exI os K .sl3 [evO ρ x',evO ρ hi',evO ρ mx']:=h
 generalize evO ρ x'=c1 at e1 h
 generalize evO ρ hi'=c2 at e2 h
 generalize evO ρ mx'=c3 at e3 h
 unfold exI at h
 split at h
 all_goals first|exact h.elim|(rename_i q;cases q;done)|(rename_i q _;cases q;done)|skip
 ·rename_i k1 n1 k2 n2 q1 q2
  cases q2
  obtain⟨rfl,rfl,h⟩:=h
  have hv:=va_nil e1
  have hh:=va_int e2
  have hm:=va_int e3
  refine ok_value (r:=.d (.lit (.slice none 0 0))) he (v:=.slice none 0 0) ?_ (Rd.lit _ rfl) h
  simp[execOp,ho,Instr.sliceAt,Instr.slice,run_underlying hu,hv,hh,hm,Instr.sliceBounds,Instr.sliceBound,asIntOf,run_size hs]
 ·rename_i es k1 n1 k2 n2 q1 q2
  cases q2
  obtain⟨rfl,rfl,h⟩:=h
  have hh:=va_int e2
  have hm:=va_int e3
  have hr:=va_d e1
  obtain⟨sa,cap,hv⟩:=va_sl e1
  rw[hv] at hr
  have hcap:es.length<=cap/\((∃b ob,sa=⟨b,ob,none⟩)\/es=[]):=by
   rcases hr with _|_|_|_|_|_|⟨_,_,_,_,_,_,hc,_,_,_⟩|_
   ·exact⟨hc,.inl ⟨_,_,rfl⟩⟩
   ·exact⟨Nat.zero_le _,.inr rfl⟩
  obtain⟨hc,hsa⟩:=hcap
  refine ok_value (r:=.full es) he (v:=.slice (some (if es.length=0 then sa else sa.add 0)) es.length es.length) ?_ ⟨?_,_,rfl⟩ h
  ·simp only[execOp,ho,Instr.sliceAt,Instr.slice,Sem.run_bind,run_underlying hu,Result.andThen_ok,Option.map_none,hv,hh,hm,Option.map_some,Instr.sliceBounds,Instr.sliceBound,asIntOf,Sem.run_pure,run_size hs,Sem.run_ite]
   simp[hc]
   split<;>rfl
  ·rcases hsa with ⟨b,ob,rfl⟩|rfl
   ·rw[add_none,Nat.add_zero]
    have:(if es.length=0 then (⟨b,ob,none⟩:Addr) else ⟨b,ob,none⟩)=⟨b,ob,none⟩:=by split<;>rfl
    rw[this]
    cases hr with
    |sle _ _=>exact .sle _ _
    |sl _ _ _ _ sz' cv hcap hsz hc' hr'=>exact .sl es b ob es.length sz' cv (Nat.le_refl _) hsz hc' hr'
   ·exact .sle _ _
end
end Go.Bi
