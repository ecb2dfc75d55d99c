/- Soundness of iterators over strings, of closures, of comparisons of several cells; then of every operation. No condition. -/
import Derived.Test.YthaildbjjlpdgaaGreatBJ
import Derived.Laws.RangeString
set_option linter.unusedVariables false
namespace Go.Bi
set_option linter.unusedSectionVars false
variable [Globs]
section
variable {P:Program}{M:Mem}{G:Gh}{os:List AO}{w:World}{ρ:Rho}{a:Act}{K:AV->List AO->Prop}
theorem ok_rstr(he:Env M G os w)(ht:Tmps M G os ρ a){o:Oper}{t:TypeId}{x:Operand}{x':Opd}(ho:o.op=.range t x)(hx:cO x=some x')(hu:P.underlying t=some .string)(h:opI P ρ os K (.rstr x')):OpOK P M G os w K (execOp a.eval o):=by
 have e1:=cO_ev ht hx
 simp only[opI] at h
 split at h
 ·rename_i s h1
  rw[h1] at e1
  have hnew:=since_new he (.iter s 0) (.stringIter ⟨⟨s⟩⟩ 0) 0
  refine ok_next (v:=.pointer (some ⟨w.heap.size,0,none⟩)) (w':=w.alloc (.stringIter ⟨⟨s⟩⟩ 0)) ?_ (env_new he (.iter s 0) (.stringIter ⟨⟨s⟩⟩ 0) 0 (λa v=>cell_alloc_old a v) ?_ (λ_ _ _ _ _ h=>by cases h)) hnew ?_ h
  ·simp[execOp,ho,va_str e1,run_range_string w t _ hu,World.iter]
  ·show _=_
   rw[ext_blk];exact heap_new ..
  ·exact⟨by simp[Gh.ext],s,0,snoc_self ..⟩
 ·exact h.elim
theorem ok_nstr(he:Env M G os w)(ht:Tmps M G os ρ a){o:Oper}{x:Operand}{x':Opd}(ho:o.op=.next x true)(hx:cO x=some x')(h:opI P ρ os K (.nstr x')):OpOK P M G os w K (execOp a.eval o):=by
 have e1:=cO_ev ht hx
 simp only[opI] at h
 split at h
 ·rename_i id h1
  rw[h1] at e1
  split at h
  ·rename_i s p h2
   obtain⟨hv,_⟩:=e1
   have hob:w.heap[G.blk id]?=some (.stringIter ⟨⟨s⟩⟩ p):=he.obj id _ h2
   have hlt:=(Array.getElem?_eq_some_iff.1 hob).1
   by_cases hp:p<s.length
   ·have hk:=h.1 hp
    let w':World:={w with heap:=w.heap.setIfInBounds (G.blk id) (.stringIter ⟨⟨s⟩⟩ (p+(Utf8.decode ⟨⟨s⟩⟩ p).2))}
    have hoth:∀b,b≠G.blk id->w'.heap[b]?=w.heap[b]?:=λb hb=>by
     show(w.heap.setIfInBounds _ _)[b]?=_
     rw[Array.getElem?_setIfInBounds_ne (by omega)]
    have hK:Keeps G G id (os.set id (.iter s (p+(Utf8.decode ⟨⟨s⟩⟩ p).2))) (.iter s p):=⟨rfl,s,_,set_self h2⟩
    have hnoM:∀y u,M y=some u->y.block=G.blk id->False:=λy u hy hb=>by
     obtain⟨es,sz,frz,nl,h6,_⟩:=he.sep id y u (Live.iter h2) hy hb
     rw[h2] at h6;cases h6
    refine ok_next (v:=.tuple #[.bool true,.int .i64 p,.int .i32 (Utf8.decode ⟨⟨s⟩⟩ p).1]) (w':=w') ?_
     (env_upd he h2 rfl rfl rfl rfl (by simp[w']) hoth (λ_ _ h=>h) (λ_ _ h=>.inl h) hK (λ_ _=>rfl) (λy u hy hb=>(hnoM y u hy hb).elim) (λy u hy hb=>(hnoM y u hy hb).elim) ?_)
     (since_upd he h2 rfl rfl rfl rfl (by simp[w']) hoth (λ_ _ h=>h) (λ_ _ h=>.inl h) hK) ?_ hk
    ·simp only[execOp,ho,hv,Instr.next,getObj,setObj,Sem.run_bind,Sem.run,hob,Result.andThen]
     rw[if_pos (by simpa[size_mk] using hp)]
     simp[Sem.run,hob,goInt,w']
    ·show(w.heap.setIfInBounds _ _)[_]?=_
     simp[hlt]
    ·refine⟨_,rfl,rfl,λj c u hj hu=>?_⟩
     match j with
     |0=>simp at hj hu;subst hj;subst hu;exact Rd.bool _
     |1=>simp at hj hu;subst hj;subst hu;exact Rd.int _ _
     |2=>simp at hj hu;subst hj;subst hu;exact Rd.int _ _
     |j+3=>simp at hj
   ·have hk:=h.2 (by omega)
    refine ok_value he (v:=.tuple #[.bool false]) ?_ ?_ hk
    ·simp only[execOp,ho,hv,Instr.next,getObj,setObj,Sem.run_bind,Sem.run,hob,Result.andThen]
     rw[if_neg (by simpa[size_mk] using hp)]
     rfl
    ·refine⟨_,rfl,rfl,λj c u hj hu=>?_⟩
     match j with
     |0=>simp at hj hu;subst hj;subst hu;exact Rd.bool _
     |j+1=>simp at hj
  ·exact h.elim
 ·exact h.elim
theorem clo_caps(ht:Tmps M G os ρ a):∀(caps:List Operand) (caps':List Opd),caps.mapM cO=some caps'->∀ids,caps'.mapM (λc=>capId (evO ρ c))=some ids->
  caps.map a.eval=ids.map (λid=>Value.pointer (some ⟨G.blk id,0,none⟩))/\∀id∈ids,∃cs,os[id]?=some (.cells cs)
 |[],caps',h,ids,h2=>by
  simp at h
  subst h
  simp at h2
  subst h2
  simp
 |x::caps,caps',h,ids,h2=>by
  simp only[List.mapM_cons,Option.bind_eq_bind,Option.bind_eq_some_iff] at h
  obtain⟨y,hy,ys,hys,hp⟩:=h
  simp at hp
  subst hp
  simp only[List.mapM_cons,Option.bind_eq_bind,Option.bind_eq_some_iff] at h2
  obtain⟨id,hid,ids',hids,hp⟩:=h2
  simp at hp
  subst hp
  obtain⟨i1,i2⟩:=clo_caps ht caps ys hys ids' hids
  have e1:=cO_ev ht hy
  unfold capId at hid
  split at hid
  ·rename_i id' hev
   cases hid
   rw[hev] at e1
   obtain⟨hv,cs,hcs⟩:=va_ptr e1
   refine⟨by simp[hv,i1],λj hj=>?_⟩
   cases hj with
   |head=>exact⟨cs,hcs⟩
   |tail _ hj=>exact i2 j hj
  ·cases hid
theorem ok_clo(he:Env M G os w)(ht:Tmps M G os ρ a){o:Oper}{f:FuncId}{first caps:Array Operand}{caps':List Opd}(ho:o.op=.makeFunc (.func f) first caps)(hf:first.size=0)(hc:caps.toList.mapM cO=some caps')(h:opI P ρ os K (.clo f caps')):OpOK P M G os w K (execOp a.eval o):=by
 have hf0:first=#[]:=Array.size_eq_zero_iff.1 hf
 simp only[opI] at h
 split at h
 ·have hce:caps.toList=[]:=by
   cases hq:caps.toList with
   |nil=>rfl
   |cons x l=>
    rw[hq] at hc
    simp only[List.mapM_cons,Option.bind_eq_bind,Option.bind_eq_some_iff] at hc
    obtain⟨y,_,ys,_,hp⟩:=hc
    simp at hp
  have hce':caps=#[]:=by simpa using hce
  refine ok_value he (r:=.d (.fn f)) (v:=.func (.func f) #[] #[]) ?_ (show Rd M (.fn f) _ from Rd.fn f) h
  simp[execOp,ho,Instr.makeFunc,hf0,hce']
 ·split at h
  ·rename_i ids hids
   obtain⟨i1,i2⟩:=clo_caps ht caps.toList caps' hc ids hids
   refine ok_value he (r:=.clo f ids) (v:=.func (.func f) #[] ((ids.map λid=>Value.pointer (some ⟨G.blk id,0,none⟩)).toArray)) ?_ ⟨rfl,i2⟩ h
   have hm:caps.map a.eval=(ids.map λid=>Value.pointer (some ⟨G.blk id,0,none⟩)).toArray:=by
    apply Array.ext'
    simpa using i1
   simp[execOp,ho,Instr.makeFunc,hf0,hm]
  ·exact h.elim
theorem simVs_ok{M:Mem}{G:Gh}{os:List AO}:∀{cs:List AV} {vs:List Value},simVs cs=some vs->vs.length=cs.length/\∀(j:Nat) c u v,cs[j]?=some c->VC M G os c u->vs[j]?=some v->u=v
 |[],vs,h=>by cases h;exact⟨rfl,λj c u v hc=>by simp at hc⟩
 |c::cs,vs,h=>by
  unfold simVs at h
  split at h
  ·rename_i v vs' h1 h2
   cases h
   obtain⟨h3,h4⟩:=simVs_ok (M:=M) (G:=G) (os:=os) h2
   refine⟨by simp[h3],λj c u v hc hu hv=>?_⟩
   cases j with
   |zero=>
    simp at hc hv
    subst hc;subst hv
    unfold simV at h1
    split at h1
    ·cases h1
     have hu:Rd M _ u:=hu
     cases hu;rfl
    ·cases h1
     have hu:Rd M _ u:=hu
     cases hu;rfl
    ·cases h1
     have hu:Rd M _ u:=hu
     cases hu;rfl
    ·cases h1
   |succ j=>exact h4 j c u v (by simpa using hc) hu (by simpa using hv)
  ·cases h
theorem ok_mkb(he:Env M G os w)(ht:Tmps M G os ρ a){o:Oper}{f:FuncId}{first caps:Array Operand}{x:Operand}{x':Opd}(ho:o.op=.makeFunc (.func f) first caps)(hf:first.toList=[x])(hc:caps.toList=[])(hx:cO x=some x')(h:opI P ρ os K (.mkb f x')):OpOK P M G os w K (execOp a.eval o):=by
 have e1:=cO_ev ht hx
 have hf0:first=#[x]:=by rw[<- hf]
 have hc0:caps=#[]:=by simpa using hc
 simp only[opI] at h
 split at h
 ·rename_i cs hev
  rw[hev] at e1
  split at h
  ·rename_i vs hsv
   obtain⟨us,hu,h1,h2⟩:=(show ∃us:Array Value,a.eval x=.agg us/\us.size=cs.length/\∀(j:Nat) c u,cs[j]?=some c->us[j]?=some u->VC M G os c u from e1)
   obtain⟨h3,h4⟩:=simVs_ok (M:=M) (G:=G) (os:=os) hsv
   have hus:us=⟨vs⟩:=by
    apply Array.ext'
    apply List.ext_getElem?
    intro j
    rw[Array.getElem?_toList]
    by_cases hj:j<cs.length
    ·have a1:cs[j]?=some cs[j]:=List.getElem?_eq_getElem hj
     have a2:us[j]?=some us[j]:=Array.getElem?_eq_getElem (by omega)
     have a3:vs[j]?=some vs[j]:=List.getElem?_eq_getElem (by omega)
     rw[a2,a3,h4 j _ _ _ a1 (h2 j _ _ a1 a2) a3]
    ·rw[Array.getElem?_eq_none (show us.size<=j by omega),List.getElem?_eq_none (show vs.length<=j by omega)]
   subst hus
   refine ok_value he (r:=.d (.lit (.func (.func f) #[.agg ⟨vs⟩] #[]))) (v:=.func (.func f) #[.agg ⟨vs⟩] #[]) ?_ (show Rd M (.lit _) _ from Rd.lit _ rfl) h
   simp[execOp,ho,Instr.makeFunc,hf0,hc0,hu]
  ·exact h.elim
 ·rename_i id hev
  rw[hev] at e1
  obtain⟨hv,cs,hcs⟩:=va_ptr e1
  refine ok_value he (r:=.bcl f id) (v:=.func (.func f) #[.pointer (some ⟨G.blk id,0,none⟩)] #[]) ?_ ⟨rfl,cs,hcs⟩ h
  simp[execOp,ho,Instr.makeFunc,hf0,hc0,hv]
 ·exact h.elim
def eqV:SK->Value->Value->Option Bool
 |.i,.int k a,.int k' b=>if k=k' then some (a==b) else none
 |.b,.bool a,.bool b=>some (a==b)
 |.s,.string a,.string b=>some (a.toList==b.toList)
 |_,_,_=>none
def eqVs:List SK->List Value->List Value->Option Bool
 |[],[],[]=>some true
 |k::ks,x::xs,y::ys=>match eqV k x y,eqVs ks xs ys with
  |some a,some b=>some (a&&b)
  |_,_=>none
 |_,_,_=>none
theorem eqV_i{u v:Value}{r:Bool}(h:eqV .i u v=some r):∃k a b,u=.int k a/\v=.int k b/\r=(a==b):=by
 cases u<;>cases v<;>simp[eqV] at h
 obtain⟨rfl,rfl⟩:=h
 exact⟨_,_,_,rfl,rfl,rfl⟩
theorem eqV_b{u v:Value}{r:Bool}(h:eqV .b u v=some r):∃a b,u=.bool a/\v=.bool b/\r=(a==b):=by
 cases u<;>cases v<;>simp[eqV] at h
 subst h
 exact⟨_,_,rfl,rfl,rfl⟩
theorem eqV_s{u v:Value}{r:Bool}(h:eqV .s u v=some r):∃a b,u=.string a/\v=.string b/\r=(a.toList==b.toList):=by
 cases u<;>cases v<;>simp[eqV] at h
 subst h
 exact⟨_,_,rfl,rfl,rfl⟩
theorem eqVs_len:∀(ks:List SK) {us vs:List Value} {r:Bool},eqVs ks us vs=some r->us.length=ks.length/\vs.length=ks.length
 |[],us,vs,r,h=>by
  cases us<;>cases vs<;>simp[eqVs] at h ⊢
 |k::ks,us,vs,r,h=>by
  cases us with
  |nil=>simp[eqVs] at h
  |cons u us=>
   cases vs with
   |nil=>simp[eqVs] at h
   |cons v vs=>
    simp only[eqVs] at h
    split at h
    ·rename_i a b h1 h2
     obtain⟨i1,i2⟩:=eqVs_len ks h2
     simp[i1,i2]
    ·cases h
theorem eqVs_append:∀(ks ks':List SK) {us vs:List Value} {r:Bool},eqVs (ks++ks') us vs=some r->
  ∃r1 r2,eqVs ks (us.take ks.length) (vs.take ks.length)=some r1/\eqVs ks' (us.drop ks.length) (vs.drop ks.length)=some r2/\r=(r1&&r2)
 |[],ks',us,vs,r,h=>⟨true,r,by simp[eqVs],by simpa using h,by simp⟩
 |k::ks,ks',us,vs,r,h=>by
  cases us with
  |nil=>simp[eqVs] at h
  |cons u us=>
   cases vs with
   |nil=>simp[eqVs] at h
   |cons v vs=>
    simp only[List.cons_append,eqVs] at h
    split at h
    ·rename_i a b h1 h2
     cases h
     obtain⟨r1,r2,i1,i2,rfl⟩:=eqVs_append ks ks' h2
     refine⟨a&&r1,r2,?_,by simpa using i2,by simp[Bool.and_assoc]⟩
     simp[eqVs,h1,i1]
    ·cases h
def valOf(P:Program)(t:TypeId)(us:List Value):Value:=if tagg P t=some true then .agg us.toArray else us.headD undef
theorem flat_tsz_part{e:TypeId}{ks:List SK}{d:Nat}(hf:flat P d e=some ks)(hs:tsz P e=some ks.length)(us:Array Value)(off:Nat)(h:off+ks.length<=us.size)(w:World) :
  (part e us off).run P w=.ok (valOf P e ((us.toList.drop off).take ks.length)) w:=by
 cases d with
 |zero=>simp[flat] at hf
 |succ d=>
  unfold flat at hf
  have one:∀k,ks=[k]->tagg P e=some false->(part e us off).run P w=.ok (valOf P e ((us.toList.drop off).take ks.length)) w:=by
   intro k hk ha
   subst hk
   have hlt:off<us.size:=by simp at h;omega
   rw[run_part ha hs us off hlt]
   simp only[Bool.false_eq_true,if_false,valOf,ha]
   rw[if_neg (by simp)]
   congr 1
   have:(us.toList.drop off).take 1=[us[off]]:=by
    rw[List.drop_eq_getElem_cons (by simpa using hlt)]
    simp
   simp[this]
  have agg:tagg P e=some true->(part e us off).run P w=.ok (valOf P e ((us.toList.drop off).take ks.length)) w:=by
   intro ha
   rw[run_part_agg ha hs]
   simp only[valOf,ha,if_true]
   congr 2
   apply Array.ext'
   simp[Array.toList_extract,List.extract_eq_take_drop]
  split at hf
  ·rename_i hu;cases hf;exact one _ rfl (by simp[tagg,hu])
  ·rename_i hu;cases hf;exact one _ rfl (by simp[tagg,hu])
  ·rename_i hu;cases hf;exact one _ rfl (by simp[tagg,hu])
  ·rename_i hu;exact agg (by simp[tagg,hu])
  ·rename_i hu;exact agg (by simp[tagg,hu])
  ·cases hf
theorem eq_fields{d D:Nat}(IH:∀t ks,flat P d t=some ks->∀us vs r,eqVs ks us vs=some r->∀w,(Op.equalIn D t (valOf P t us) (valOf P t vs)).run P w=.ok r w) :
  ∀(fs:List Field) (n:Nat) (ks:List SK),flatFs P (flat P d) n fs=some ks->∀(us vs:Array Value) (r:Bool),eqVs ks (us.toList.drop n) (vs.toList.drop n)=some r->∀w,(Op.eqFields D us vs fs).run P w=.ok r w
 |[],n,ks,hf,us,vs,r,h,w=>by
  simp only[flatFs] at hf
  cases hf
  generalize us.toList.drop n=l1 at h
  generalize vs.toList.drop n=l2 at h
  cases l1<;>cases l2<;>simp[eqVs] at h
  subst h
  rfl
 |f::fs,n,ks,hf,us,vs,r,h,w=>by
  simp only[flatFs] at hf
  split at hf
  ·cases hf
  ·rename_i hnm
   split at hf
   ·rename_i hoff
    split at hf
    ·rename_i ks1 m h1 h2
     split at hf
     ·rename_i hm
      split at hf
      ·rename_i ks2 h3
       cases hf
       obtain⟨hm,hpos⟩:=hm
       subst hm
       obtain⟨r1,r2,q1,q2,rfl⟩:=eqVs_append ks1 ks2 h
       obtain⟨l1,l2⟩:=eqVs_len _ h
       simp only[List.length_drop,Array.length_toList,List.length_append] at l1 l2
       have p1:=flat_tsz_part h1 h2 us f.offset (by omega) w
       have p2:=flat_tsz_part h1 h2 vs f.offset (by omega) w
       rw[hoff] at p1 p2
       have p3:=IH f.type ks1 h1 _ _ r1 q1 w
       have p4:=eq_fields IH fs (n+ks1.length) ks2 h3 us vs r2 (by simpa[List.drop_drop] using q2) w
       simp only[Op.eqFields,if_pos hnm,Sem.run_bind,hoff,p1,p2,Result.andThen_ok,p3]
       cases r1
       ·simp
       ·simp[p4]
      ·cases hf
     ·cases hf
    ·cases hf
   ·cases hf
theorem eq_items{d D:Nat}{e:TypeId}{ks:List SK}(hf:flat P d e=some ks)(hs:tsz P e=some ks.length)
  (IH:∀us vs r,eqVs ks us vs=some r->∀w,(Op.equalIn D e (valOf P e us) (valOf P e vs)).run P w=.ok r w) :
  ∀(n i:Nat) (us vs:Array Value) (r:Bool),eqVs (List.replicate n ks).flatten (us.toList.drop (i*ks.length)) (vs.toList.drop (i*ks.length))=some r->(n=0\/(i+n)*ks.length<=us.size/\(i+n)*ks.length<=vs.size)->
   ∀w,(Op.eqItems D e ks.length us vs (List.range' i n)).run P w=.ok r w
 |0,i,us,vs,r,h,hsz,w=>by
  simp only[List.replicate_zero,List.flatten_nil] at h
  generalize us.toList.drop (i*ks.length)=l1 at h
  generalize vs.toList.drop (i*ks.length)=l2 at h
  cases l1<;>cases l2<;>simp[eqVs] at h
  subst h
  rfl
 |n+1,i,us,vs,r,h,hsz,w=>by
  simp only[List.replicate_succ,List.flatten_cons] at h
  obtain⟨r1,r2,q1,q2,rfl⟩:=eqVs_append ks _ h
  have hsz:=hsz.resolve_left (by omega)
  have hle:(i+1)*ks.length<=(i+(n+1))*ks.length:=Nat.mul_le_mul_right _ (by omega)
  have p1:=flat_tsz_part hf hs us (i*ks.length) (by rw[Nat.add_mul] at hle;omega) w
  have p2:=flat_tsz_part hf hs vs (i*ks.length) (by rw[Nat.add_mul] at hle;omega) w
  have p3:=IH _ _ r1 q1 w
  have p4:=eq_items hf hs IH n (i+1) us vs r2 (by simpa[List.drop_drop,Nat.add_mul] using q2) (.inr (by rw[show i+1+n=i+(n+1) by omega];exact hsz)) w
  rw[List.range'_succ]
  simp only[Op.eqItems,Sem.run_bind,p1,p2,Result.andThen_ok,p3]
  cases r1
  ·simp
  ·simp[p4]
theorem valOf_agg{t:TypeId}(h:tagg P t=some true)(us:List Value):valOf P t us=.agg us.toArray:=by simp[valOf,h]
theorem valOf_one{t:TypeId}(h:tagg P t=some false)(u:Value):valOf P t [u]=u:=by simp[valOf,h]
theorem tsz_info{e:TypeId}{n:Nat}(h:tsz P e=some n):∃i,P.info? e=some i/\P.cellsOf e=n:=by
 obtain⟨i,hi,rfl⟩:=Option.map_eq_some_iff.1 h
 exact⟨i,hi,by simp[Program.cellsOf,hi]⟩
theorem eq_flat:∀(d c:Nat) (t:TypeId) (ks:List SK),flat P d t=some ks->∀us vs r,eqVs ks us vs=some r->∀w,(Op.equalIn (d+c) t (valOf P t us) (valOf P t vs)).run P w=.ok r w
 |0,c,t,ks,hf,us,vs,r,h,w=>by simp[flat] at hf
 |d+1,c,t,ks,hf,us,vs,r,h,w=>by
  have hlen:=eqVs_len ks h
  unfold flat at hf
  rw[show d+1+c=(d+c)+1 by omega]
  have one:∀k,ks=[k]->tagg P t=some false->(∀u v,us=[u]->vs=[v]->eqV k u v=some r->(Op.equalIn (d+c+1) t u v).run P w=.ok r w)->(Op.equalIn (d+c+1) t (valOf P t us) (valOf P t vs)).run P w=.ok r w:=by
   intro k hk ha hq
   subst hk
   match us,vs,hlen with
   |[u],[v],_=>
    rw[valOf_one ha,valOf_one ha]
    refine hq u v rfl rfl ?_
    simp only[eqVs] at h
    split at h
    ·rename_i x y h1 h2
     cases h2
     cases h
     simpa using h1
    ·cases h
  split at hf
  ·rename_i hu
   cases hf
   refine one _ rfl (by simp[tagg,hu]) λu v _ _ hq=>?_
   obtain⟨x,y,rfl,rfl,rfl⟩:=eqV_b hq
   exact run_equalIn_bool' w (d+c) t _ _ hu
  ·rename_i k hu
   cases hf
   refine one _ rfl (by simp[tagg,hu]) λu v _ _ hq=>?_
   obtain⟨k',x,y,rfl,rfl,rfl⟩:=eqV_i hq
   exact run_equalIn_int w (d+c) t _ _ _ _ hu
  ·rename_i hu
   cases hf
   refine one _ rfl (by simp[tagg,hu]) λu v _ _ hq=>?_
   obtain⟨x,y,rfl,rfl,rfl⟩:=eqV_s hq
   exact run_equalIn_string w (d+c) t _ _ hu
  ·rename_i fs hu
   split at hf
   ·cases hf
   ·rename_i hst
    have ha:tagg P t=some true:=by simp[tagg,hu]
    rw[valOf_agg ha,valOf_agg ha,run_equalIn_struct w (d+c) t _ _ (by simp[Program.fieldsOf,hu]) (by simpa using hst)]
    have hfs:P.fieldsOf t=fs:=by simp[Program.fieldsOf,hu]
    rw[hfs]
    exact eq_fields (λt ks h us vs r hr w=>eq_flat d c t ks h us vs r hr w) fs.toList 0 ks hf us.toArray vs.toArray r (by simpa using h) w
  ·rename_i n e hu
   split at hf
   ·rename_i ks1 m h1 h2
    split at hf
    ·rename_i hm
     cases hf
     subst hm
     obtain⟨i,hi,hcell⟩:=tsz_info h2
     have ha:tagg P t=some true:=by simp[tagg,hu]
     rw[valOf_agg ha,valOf_agg ha,run_equalIn_array w (d+c) _ _ hu hi,hcell,List.range_eq_range']
     refine eq_items h1 h2 (λus vs r hr w=>eq_flat d c e ks1 h1 us vs r hr w) n 0 us.toArray vs.toArray r (by simpa using h) ?_ w
     have hl:=hlen
     simp[List.length_flatten,List.map_replicate,List.sum_replicate_nat] at hl
     exact .inr (by simp[hl])
    ·cases hf
   ·cases hf
  ·cases hf
theorem eqL_vs:∀(ks:List SK) {cs ds:List AV} {b:Bool},eqL ks cs ds=some b->∀{us vs:List Value},us.length=cs.length->vs.length=ds.length->
  (∀(j:Nat) c u,cs[j]?=some c->us[j]?=some u->VC M G os c u)->(∀(j:Nat) c u,ds[j]?=some c->vs[j]?=some u->VC M G os c u)->eqVs ks us vs=some b
 |[],cs,ds,b,h,us,vs,hu,hv,h1,h2=>by
  cases cs<;>cases ds<;>simp[eqL] at h
  subst h
  cases us<;>cases vs<;>simp at hu hv
  rfl
 |k::ks,cs,ds,b,h,us,vs,hu,hv,h1,h2=>by
  unfold eqL at h
  split at h
  ·cases ‹k::ks=[]›
  ·rename_i k' ks' x xs y ys hk
   injection hk with hk1 hk2
   subst hk1;subst hk2
   cases us with
   |nil=>simp at hu
   |cons u us=>
   cases vs with
   |nil=>simp at hv
   |cons v vs=>
   split at h
   ·rename_i p q e1 e2
    cases h
    have i1:=eqL_vs ks e2 (us:=us) (vs:=vs) (by simpa using hu) (by simpa using hv) (λj c u hc hu=>h1 (j+1) c u (by simpa using hc) (by simpa using hu)) (λj c u hc hu=>h2 (j+1) c u (by simpa using hc) (by simpa using hu))
    have r1:Rd M x u:=h1 0 (.d x) u rfl rfl
    have r2:Rd M y v:=h2 0 (.d y) v rfl rfl
    have:eqV k u v=some p:=by
     unfold eqD at e1
     split at e1
     ·cases r1;cases r2;exact e1
     ·cases r1;cases r2;exact e1
     ·cases r1;cases r2
      simp only[eqV,toList_mk]
      exact e1
     ·cases e1
    simp[eqVs,this,i1]
   ·cases h
  ·cases h
theorem ok_eqs(he:Env M G os w)(ht:Tmps M G os ρ a){o:Oper}{op:BinOp}{t t':TypeId}{x y:Operand}{x' y':Opd}{neg:Bool}{ks:List SK}(ho:o.op=.binOp op t x y t')(hx:cO x=some x')(hy:cO y=some y')
  (hn:isNeg op=some neg) (hf:flat P 100 t=some ks) (ha:tagg P t=some true) (hg:P.eqGuardType P.depth t=false) (h:opI P ρ os K (.eqs neg ks x' y')):OpOK P M G os w K (execOp a.eval o):=by
 have e1:=cO_ev ht hx
 have e2:=cO_ev ht hy
 simp only[opI] at h
 split at h
 ·rename_i cs ds h1 h2
  rw[h1] at e1
  rw[h2] at e2
  obtain⟨us,hv1,l1,p1⟩:=va_agg e1
  obtain⟨vs,hv2,l2,p2⟩:=va_agg e2
  split at h
  ·rename_i b hb
   have hq:=eqL_vs (M:=M) (G:=G) (os:=os) ks hb (us:=us.toList) (vs:=vs.toList) (by simpa using l1) (by simpa using l2) (λj c u hc hu=>p1 j c u hc (by simpa using hu)) (λj c u hc hu=>p2 j c u hc (by simpa using hu))
   have hr:=eq_flat (P:=P) 100 9900 t ks hf _ _ b hq w
   rw[valOf_agg ha,valOf_agg ha] at hr
   have hgd:=run_eqGuard_agg (P:=P) w op t x y us vs hg
   rcases isNeg_some hn with ⟨rfl,rfl⟩|⟨rfl,rfl⟩
   ·refine ok_value he (v:=.bool b) ?_ (Rd.bool' ..) h
    simp only[execOp,ho,hv1,hv2,Sem.run_bind,hgd,Result.andThen_ok,run_eql_struct,hr]
    rfl
   ·refine ok_value he (v:=.bool (!b)) ?_ (Rd.bool' ..) h
    simp only[execOp,ho,hv1,hv2,Sem.run_bind,hgd,Result.andThen_ok,run_neq_struct,hr]
    rfl
  ·exact h.elim
 ·exact h.elim
end
end Go.Bi
