/- Soundness of maps, and of variables at places that were kept for them. No condition. -/
import Derived.Test.YthaildbjjlpdgaaGreatBK
import Derived.MapKept
import Derived.Laws.IdiomRangeMap
set_option linter.unusedVariables false
namespace Go.Bi
set_option linter.unusedSectionVars false
variable [Globs]
section
variable {P:Program}{M:Mem}{G:Gh}{os:List AO}{w:World}{ρ:Rho}{a:Act}{K:AV->List AO->Prop}
theorem fill_hole(he:Env M G os w){id:Nat}(ho:os[id]?=some .hole)(o':AO)(ob:Obj)(c:Nat)(hor:OR M (G.ext id w.heap.size c) (os.set id o') (w.alloc ob) id o') :
  Env M (G.ext id w.heap.size c) (os.set id o') (w.alloc ob)/\Since M G os w M (G.ext id w.heap.size c) (os.set id o') (w.alloc ob):=by
 have hno:∀a v,M a=some v->a.block=w.heap.size->False:=λa v h hb=>by
  have:=World.block_lt_of_cell? w a (he.mem a v h);omega
 have hlive:AO.live .hole=false:=rfl
 refine⟨?_,?_⟩
 ·exact env_move he ho ob c (λ_ _ h=>h) (λ_ _ h=>.inl h) ⟨_,set_self ho⟩ (λ_ _=>rfl) (λa v h hb=>(hno a v h hb).elim) (λa v h hb=>(hno a v h hb).elim) hor
 ·exact since_move he ho ob c (λ_ _ h=>h) (λ_ _ h=>.inl h) ⟨_,set_self ho⟩
theorem ok_alloca(he:Env M G os w){o:Oper}{t:TypeId}{zs:List D}{id:Nat}(ho:o.op=.alloc t)(hz:tz P t=some zs)(h:opI P ρ os K (.alloca id zs)):OpOK P M G os w K (execOp a.eval o):=by
 obtain⟨z,h1,h2,h3⟩:=tz_zero (M:=M) hz
 simp only[opI] at h
 split at h
 ·rename_i hid
  obtain⟨e1,e2⟩:=fill_hole he hid (.cells (zs.map .d)) (.cells z.cells t) 0 ⟨z.cells,t,by rw[ext_blk];exact heap_new ..,by simp[h2],λj c u hc hu=>by
   rw[List.getElem?_map] at hc
   obtain⟨x,hx,rfl⟩:=Option.map_eq_some_iff.1 hc
   exact h3 j x u hx hu⟩
  refine ok_next (v:=.pointer (some ⟨w.heap.size,0,none⟩)) (w':=w.alloc (.cells z.cells t)) ?_ e1 e2 ?_ h
  ·simp[execOp,ho,Instr.alloc,h1,newVar,newRow]
  ·exact⟨by simp[Gh.ext],_,set_self hid⟩
 ·exact h.elim
theorem ok_boxa(he:Env M G os w)(ht:Tmps M G os ρ a){o:Oper}{t:TypeId}{x:Operand}{x':Opd}{n id:Nat}(ho:o.op=.box t x)(hx:cO x=some x')(h:opI P ρ os K (.boxa id n x')):OpOK P M G os w K (execOp a.eval o):=by
 have e1:=cO_ev ht hx
 simp only[opI] at h
 split at h
 ·rename_i xs hid hxs
  obtain⟨c1,c2⟩:=cells_of hxs e1
  have hsm:Since M G os w M (G.ext id w.heap.size 0) (os.set id (.cells xs)) (w.alloc (.cells (a.eval x).cells t)):=since_move he hid _ 0 (λ_ _ h=>h) (λ_ _ h=>.inl h) ⟨_,set_self hid⟩
  obtain⟨e1,e2⟩:=fill_hole he hid (.cells xs) (.cells (a.eval x).cells t) 0 ⟨_,t,by rw[ext_blk];exact heap_new ..,c1,λj c u hc hu=>(c2 j c u hc hu).since hsm⟩
  refine ok_next (v:=.pointer (some ⟨w.heap.size,0,none⟩)) (w':=w.alloc (.cells (a.eval x).cells t)) ?_ e1 e2 ?_ h.2
  ·simp[execOp,ho,Instr.box,newVar,newRow]
  ·exact⟨by simp[Gh.ext],_,set_self hid⟩
 ·exact h.elim
theorem env_put{M':Mem}{G':Gh}{w':World}{id:Nat}{es:List (List D)}{sz:Nat}{nl:Bool}(he:Env M G os w)(hid:os[id]?=some .hole)(he':Env M' G' [.arr es sz 0 nl] w')(hs:Since M G [] w M' G' [.arr es sz 0 nl] w') :
  Env M' (G.ext id (G'.blk 0) (G'.cap 0)) (os.set id (.arr es sz 0 nl)) w'/\Since M G os w M' (G.ext id (G'.blk 0) (G'.cap 0)) (os.set id (.arr es sz 0 nl)) w':=by
 have hlt:=(List.getElem?_eq_some_iff.1 hid).1
 have hblk:∀i,i≠id->(G.ext id (G'.blk 0) (G'.cap 0)).blk i=G.blk i:=λi hi=>by simp[Gh.ext,hi]
 have hcap:∀i,i≠id->(G.ext id (G'.blk 0) (G'.cap 0)).cap i=G.cap i:=λi hi=>by simp[Gh.ext,hi]
 have hget:∀i,i≠id->(os.set id (.arr es sz 0 nl))[i]?=os[i]?:=λi hi=>by rw[List.getElem?_set_ne (λh=>hi h.symm)]
 have hself:(os.set id (.arr es sz 0 nl))[id]?=some (.arr es sz 0 nl):=set_self hid
 have hown:Live [.arr es sz 0 nl] 0->w.heap.size<=G'.blk 0:=λhi=>by
  rcases hs.own 0 hi with h|⟨j,hj,_⟩
  ·exact h
  ·exact(live_nil hj).elim
 have hheap:∀b,b<w.heap.size->w'.heap[b]?=w.heap[b]?:=λb hb=>hs.frame b hb (λi hi=>(live_nil hi).elim)
 have hmem:∀y,y.block<w.heap.size->M' y=M y:=λy hy=>by
  cases hq:M y with
  |some v=>exact hs.grow y v hq
  |none=>
   cases hq':M' y with
   |none=>rfl
   |some v=>
    rcases hs.fresh y v hq' with h|h|⟨i,hi,_⟩
    ·rw[hq] at h;cases h
    ·omega
    ·exact(live_nil hi).elim
 have hlive:∀i,Live (os.set id (.arr es sz 0 nl)) i->(i≠id/\Live os i)\/(i=id/\Live [.arr es sz 0 nl] 0):=λi hi=>by
  obtain⟨o,ho,hl⟩:=hi
  by_cases hii:i=id
  ·subst hii
   rw[hself] at ho
   cases ho
   exact .inr ⟨rfl,_,rfl,hl⟩
  ·rw[hget i hii] at ho
   exact .inl ⟨hii,o,ho,hl⟩
 have hsince:Since M G os w M' (G.ext id (G'.blk 0) (G'.cap 0)) (os.set id (.arr es sz 0 nl)) w':={
  sys:=hs.sys,tape:=hs.tape,output:=hs.output,size:=hs.size
  frame:=λb hb _=>hheap b hb
  grow:=hs.grow
  fresh:=λy v hy=>by
   rcases hs.fresh y v hy with h|h|⟨i,hi,_⟩
   ·exact .inl h
   ·exact .inr (.inl h)
   ·exact(live_nil hi).elim
  own:=λi hi=>by
   rcases hlive i hi with ⟨h1,h2⟩|⟨h1,h2⟩
   ·exact .inr ⟨i,h2,by rw[hblk i h1]⟩
   ·exact .inl (by subst h1;simp only[Gh.ext,if_true];exact hown h2)
  keep:=λi o ho=>by
   by_cases hii:i=id
   ·subst hii
    rw[hid] at ho
    cases ho
    exact⟨_,hself⟩
   ·exact Keeps.same (by rw[hget i hii];exact ho) (hblk i hii) (hcap i hii)}
 refine⟨⟨he'.mem,λi o ho=>?_,λi j hi hj hij=>?_,λi y v hi hy hb=>?_,glb_since hsince he.glb⟩,hsince⟩
 ·by_cases hii:i=id
  ·subst hii
   rw[hself] at ho
   cases ho
   obtain⟨h1,h2,h3,h4,h5⟩:=he'.obj 0 _ rfl
   refine⟨h1,h2,h3,h4,λhn=>?_⟩
   simp only[Gh.ext,if_true]
   exact h5 hn
  ·rw[hget i hii] at ho
   have hold:=he.obj i o ho
   by_cases hl:o.live=true
   ·have hlt:=he.lt ⟨o,ho,hl⟩
    exact OR.since hsince hold (hblk i hii) (hcap i hii) (hheap _ hlt) (λy hy=>hmem y (by omega))
   ·cases o with
    |cells cs=>exact absurd rfl hl
    |iter s p=>exact absurd rfl hl
    |hole=>trivial
    |map kvs=>exact absurd rfl hl
    |mit m n s=>exact absurd rfl hl
    |arr es sz frz nl=>
     cases nl with
     |false=>exact absurd rfl hl
     |true=>exact⟨hold.1,hold.2.1,hold.2.2.1,hold.2.2.2.1,λh=>by cases h⟩
    |rarr es sz nl=>
     cases nl with
     |false=>exact absurd rfl hl
     |true=>exact⟨hold.1,hold.2.1,hold.2.2.1,λh=>by cases h⟩
 ·rcases hlive i hi with ⟨h1,h2⟩|⟨h1,h2⟩<;>rcases hlive j hj with ⟨h3,h4⟩|⟨h3,h4⟩
  ·rw[hblk i h1,hblk j h3] at hij
   exact he.inj i j h2 h4 hij
  ·rw[hblk i h1] at hij
   subst h3
   simp only[Gh.ext,if_true] at hij
   have:=he.lt h2
   have:=hown h4
   omega
  ·rw[hblk j h3] at hij
   subst h1
   simp only[Gh.ext,if_true] at hij
   have:=he.lt h4
   have:=hown h2
   omega
  ·omega
 ·rcases hlive i hi with ⟨h1,h2⟩|⟨h1,h2⟩
  ·rw[hblk i h1] at hb
   have hlt:=he.lt h2
   rw[hmem y (by omega)] at hy
   obtain⟨es,sz,frz,nl,h3,h4⟩:=he.sep i y v h2 hy hb
   exact⟨es,sz,frz,nl,by rw[hget i h1];exact h3,h4⟩
  ·subst h1
   simp only[Gh.ext,if_true] at hb
   obtain⟨es,sz,frz,nl,h3,h4⟩:=he'.sep 0 y v h2 hy hb
   exact⟨es,sz,frz,nl,by rw[hself];exact h3,h4⟩
theorem ok_callo(he:Env M G os w)(ht:Tmps M G os ρ a){o:Oper}{f:Operand}{f':Opd}{args':List Opd}{c:Call}(ho:o.op=.call c)(hb:c.callee=.value f)(hf:cO f=some f')(hargs:c.args.toList.mapM cO=some args')
  {id len:Nat} {as:List AV} (hmap:args'.map (evO ρ)=.arr id len::as) (h:opI P ρ os K (.callo f' args')):OpOK P M G os w K (execOp a.eval o):=by
 simp only[opI,hmap] at h
 split at h
 ·rename_i g hev
  split at h
  ·rename_i es sz frz nl hid
   obtain⟨hdb,es',nl',h1,hk⟩:=h
   have e1:=cO_ev ht hf
   obtain⟨l1,e2⟩:=args_ok ht hargs
   rw[hev] at e1
   have hfv:=va_fn e1
   have h:=h1 os hid
   have key:(execOp a.eval o).run P w=(callFunc g (c.args.map a.eval)).run P w:=by
    simp only[execOp,ho,resolve,hb,hfv,Deferred.ofValue,Sem.run_bind,Sem.run_pure,Result.andThen_ok,invoke,Array.empty_append,Array.append_empty]
   have hvs:(c.args.map a.eval).toList=c.args.toList.map a.eval:=by simp
   have hone:∀x∈args'.map (evO ρ),AV.one x=true:=by
    rw[hmap]
    intro x hx
    rcases List.mem_cons.1 hx with rfl|hx
    ·rfl
    ·have:=List.all_eq_true.1 hdb x hx
     cases x<;>first|rfl|cases this
   rw[<- hmap] at h
   unfold OpOK
   rw[key,run_enter h.1]
   refine⟨rfl,(h.2 M G w _ he (by simp[l1]) λj x u hx hu=>?_).mono ?_⟩
   ·have h1:=hone x (List.mem_of_getElem? hx)
    refine va_vg (e2 j x u hx (by rw[<- hvs];simpa using hu)) (λts e=>?_) (λe=>?_)
    ·subst e;cases h1
    ·subst e;cases h1
   ·rintro e w' ⟨v,rfl,M',G',r,os2,h1,h2,h3,h4,h5⟩
    subst h4
    subst h5
    exact⟨v,rfl,M',G',_,_,h1,h2,h3,hk⟩
  ·exact h.elim
 ·exact h.elim
theorem VG.of_isDF{x:AV}{v:Value}{os':List AO}(hd:x.isDF=true)(h:VG M G os x v):VG M G os' x v:=by
 cases x with
 |full es=>exact h
 |d y=>exact h
 |agg cs=>
  obtain⟨vs,rfl,h2,h3⟩:=h
  refine⟨vs,rfl,h2,λj c u hc hu=>?_⟩
  have h4:=List.all_eq_true.1 (show cs.all AV.isd=true from hd) c (List.mem_of_getElem? hc)
  have h5:=h3 j c u hc hu
  cases c with
  |d y=>exact h5
  |_=>cases h4
 |_=>cases hd
theorem isDF_one{x:AV}(h:x.isDF=true):(∀ts,x≠.tup ts)/\x≠.junk:=by
 refine⟨λts e=>?_,λe=>?_⟩<;>(subst e;cases h)
theorem ok_calln(he:Env M G os w)(ht:Tmps M G os ρ a){o:Oper}{f:Operand}{f':Opd}{args':List Opd}{c:Call}{id:Nat}(ho:o.op=.call c)(hb:c.callee=.value f)(hf:cO f=some f')(hargs:c.args.toList.mapM cO=some args')
  (h:opI P ρ os K (.calln id f' args')):OpOK P M G os w K (execOp a.eval o):=by
 by_cases harr:∃id0 len as,args'.map (evO ρ)=AV.arr id0 len::as
 ·obtain⟨id0,len,as,hmap⟩:=harr
  exact ok_callo he ht ho hb hf hargs hmap (by simp only[opI,hmap] at h ⊢;exact h)
 have e1:=cO_ev ht hf
 obtain⟨l1,e2⟩:=args_ok ht hargs
 simp only[opI] at h
 split at h
 ·rename_i g hev
  rw[hev] at e1
  have hfv:=va_fn e1
  have hvs:(c.args.map a.eval).toList=c.args.toList.map a.eval:=by simp
  have key:(execOp a.eval o).run P w=(callFunc g (c.args.map a.eval)).run P w:=by
   simp only[execOp,ho,resolve,hb,hfv,Deferred.ofValue,Sem.run_bind,Sem.run_pure,Result.andThen_ok,invoke,Array.empty_append,Array.append_empty]
  split at h
  ·rename_i hm
   exact absurd ⟨_,_,_,hm⟩ harr
  ·obtain⟨hdf,hid,h⟩:=h
   have hav:∀(j:Nat) x u,(args'.map (evO ρ))[j]?=some x->(c.args.map a.eval)[j]?=some u->VG M G [] x u:=λj x u hx hu=>by
    have hd:=List.all_eq_true.1 hdf x (List.mem_of_getElem? hx)
    exact(va_vg (e2 j x u hx (by rw[<- hvs];simpa using hu)) (isDF_one hd).1 (isDF_one hd).2).of_isDF hd
   unfold OpOK
   rw[key]
   rcases h with ⟨es,sz,nl,h,hk⟩|⟨r,h,hk⟩
   ·rw[run_enter h.1]
    refine⟨rfl,(h.2 M G w (c.args.map a.eval) he.none (by simp[l1]) hav).mono ?_⟩
    rintro e w' ⟨v,rfl,M',G',r,os2,h1,h2,h3,h4⟩
    obtain⟨h4,h5⟩:=h4
    subst h4
    subst h5
    obtain⟨q1,q2⟩:=env_put he hid h1 h2
    refine⟨v,rfl,M',_,_,_,q1,q2,?_,hk⟩
    obtain⟨h0,es',sz',frz',nl',h6,h7,h8⟩:=h3
    cases h6
    exact⟨h0,es,sz,0,nl,set_self hid,h7,λe=>by rw[h8 e];simp[Gh.slv,Gh.ext]⟩
   ·have hset:os.set id .hole=os:=by
     obtain⟨hlt,he'⟩:=List.getElem?_eq_some_iff.1 hid
     rw[<- he'];exact List.set_getElem_self hlt
    rw[hset] at hk
    rw[run_enter h.1]
    refine⟨rfl,(h.2 M G w (c.args.map a.eval) he.none (by simp[l1]) hav).mono ?_⟩
    rintro e w' ⟨v,rfl,M',G',r,os2,h1,h2,h3,h4,h5⟩
    subst h4
    subst h5
    obtain⟨q1,q2⟩:=env_join he h1 h2
    have q3:=VA.shift (G:=G) (os:=os) h3
    rw[shA_nil h3] at q3
    simp only[List.map_nil,List.append_nil] at q1 q2 q3
    exact⟨v,rfl,M',_,_,os,q1,q2,q3,hk⟩
 ·exact h.elim
theorem ok_appn(he:Env M G os w)(ht:Tmps M G os ρ a){o:Oper}{t e:TypeId}{s x:Operand}{s' x':Opd}{id sz bytes:Nat}{zs:List D}{c:Call}(ho:o.op=.call c)(hb:c.callee=.builtin .append)(hargs:c.args=#[s,x])(hts:c.argTypes=#[t,t])
  (hsx:cO s=some s') (hx:cO x=some x') (hu:P.underlying t=some (.slice e)) (hs:tsz P e=some sz) (hby:tby P e=some bytes) (hz:tz P e=some zs) (hpos:0<sz) (hzl:zs.length=sz)
  (h:opI P ρ os K (.appn id sz bytes s' x')):OpOK P M G os w K (execOp a.eval o):=by
 have e1:=cO_ev ht hsx
 have e2:=cO_ev ht hx
 have hex:∀{v:Value} {w':World},(Builtin.append_ #[t,t] o.type #[a.eval s,a.eval x]).run P w=.ok v w'->(execOp a.eval o).run P w=.ok (.value v) w':=λhr=>by
  simp[execOp,ho,hb,hargs,hts,resolve,invoke,builtin,hr]
 have h:newsI os (evO ρ x') (λns=>appNI os id sz bytes (evO ρ s') ns K):=h
 obtain⟨ns,h,hsrc⟩:=news_src (sz:=sz) he hu e2 h
 have fin:∀(es:List (List D)) (n:Nat) (base:Option Addr) (olds:List Value),a.eval s=.slice base n n->n=es.length->(∀e∈es,e.length=sz)->(∀e∈ns,e.length=sz)->Src P sz t (.slice base n n) n olds w->
   (∀(i j:Nat) e d,es[i]?=some e->e[j]?=some d->∃u,olds[i*sz+j]?=some u/\Rd M d u)->(es.length+ns.length)*bytes<=140737488355328->es.length+ns.length<=9223372036854775807->ns≠[]->os[id]?=some .hole->
   K (.arr id (es.length+ns.length)) (os.set id (.arr (es++ns) sz 0 false))->OpOK P M G os w K (execOp a.eval o):=by
  intro es n base olds hv hn hes hns hS0 k0 g3 g4 g5 hid hk
  obtain⟨news,hS,k4⟩:=hsrc hns
  obtain⟨cap,ca,hrun,hor⟩:=grow_run (M:=M) (G:=G) (o:=o) hu hs hby hz hpos hzl hn hes hns hS0 k0 hS k4 g3 g4 g5
  rw[hv] at hex
  obtain⟨q1,q2⟩:=fill_hole he.drew hid (.arr (es++ns) sz 0 false) (.cells ca e) cap (hor _ _)
  refine ok_next (hex hrun) q1 ((since_drew M G os w).trans q2) ?_ hk
  exact⟨rfl,_,_,_,_,set_self hid,by simp,λ_=>by simp[Gh.slv,Gh.ext]⟩
 unfold appNI at h
 split at h
 ·rename_i es hse
  rw[hse] at e1
  obtain⟨hid,g1,g2,g3,g4,g5,g6⟩:=h
  obtain⟨ad,olds,hv,hS0,k0⟩:=full_src he hu e1 g2
  exact fin es es.length (some ad) olds hv rfl g2 g1 hS0 k0 g3 g4 g5 hid g6
 ·rename_i hse
  rw[hse] at e1
  obtain⟨hid,g1,g3,g4,g5,g6⟩:=h
  have hv:a.eval s=.slice none 0 0:=by
   have:=va_d e1
   revert this
   generalize a.eval s=v
   intro this
   cases this with|lit _ _=>rfl
  exact fin [] 0 none [] hv rfl (λ_ h=>by cases h) g1 (Src.ofNil w hu 0) (λ_ _ _ _ h=>by simp at h) (by simpa using g3) (by simpa using g4) g5 hid (by simpa using g6)
 ·rename_i hse
  rw[hse] at e1
  obtain⟨hid,g1,g3,g4,g5,g6⟩:=h
  exact fin [] 0 none [] (va_nil e1) rfl (λ_ h=>by cases h) g1 (Src.ofNil w hu 0) (λ_ _ _ _ h=>by simp at h) (by simpa using g3) (by simpa using g4) g5 hid (by simpa using g6)
 ·exact appI_ok he hex e1 hu hs hby hz hpos hzl hsrc h
 ·exact h.elim
theorem arr_ow{M:Mem}{G:Gh}{os:List AO}{cs:List AV}{ca:Array Value}{n sz:Nat}(hl:cs.length=n*sz)(hs:ca.size=n*sz)(hv:∀(j:Nat) c u,cs[j]?=some c->ca[j]?=some u->VC M G os c u) :
  (chunks sz n cs).length=n/\(∀e∈chunks sz n cs,e.length=sz)/\∀(i j:Nat) e x,(chunks sz n cs)[i]?=some e->e[j]?=some x->∃u,ca[i*sz+j]?=some u/\VC M G os x u:=by
 refine⟨chunks_length ..,λe he=>?_,λi j e x hi hj=>?_⟩
 ·obtain⟨i,hi⟩:=List.mem_iff_getElem?.1 he
  rw[chunks_get] at hi
  split at hi
  ·rename_i hlt
   cases hi
   have:(i+1)*sz<=n*sz:=Nat.mul_le_mul_right _ hlt
   rw[Nat.add_mul] at this
   simp
   omega
  ·cases hi
 ·rw[chunks_get] at hi
  split at hi
  ·rename_i hlt
   cases hi
   rw[seg_get] at hj
   split at hj
   ·rename_i hjs
    have hk:i*sz+j<ca.size:=by rw[hs];exact idx_lt hlt hjs
    exact⟨_,Array.getElem?_eq_getElem hk,hv _ x _ hj (Array.getElem?_eq_getElem hk)⟩
   ·cases hj
  ·cases hi
theorem ok_bslr(he:Env M G os w)(ht:Tmps M G os ρ a){o:Oper}{t e:TypeId}{n sz id:Nat}{parts:Array (Nat×Operand)}{zs:List D}{ps:List (Nat×Nat×Opd)}(ho:o.op=.buildSlice t n parts)(hu:P.underlying t=some (.slice e))(hs:tsz P e=some sz)(hz:tz P e=some zs)
  (hpos:0<sz) (hzl:zs.length=sz) (hle:n*sz<=16777216) (hps:cParts (λi=>some (i*sz,sz)) parts.toList=some ps) (h:opI P ρ os K (.bslr id n sz zs ps)):OpOK P M G os w K (execOp a.eval o):=by
 obtain⟨z,h1,h2,h3⟩:=tz_zero (M:=M) hz
 simp only[opI] at h
 subst hzl
 have hcs:=zero_cells (G:=G) (os:=os) h2 h3 n hpos
 obtain⟨cs',ca',g1,g2,g3,g4⟩:=fill_ok ht parts.toList ps hps _ _ hcs h
 split at g4
 ·rename_i hid
  have hcl:cs'.length=n*zs.length:=by rw[g3];simp[List.length_flatten,List.map_replicate,List.sum_replicate_nat]
  have hmx:n<=maxLen:=by
   unfold maxLen
   have:n*1<=n*zs.length:=Nat.mul_le_mul_left _ hpos
   omega
  unfold litV litO at g4
  cases hds:dsOf cs' with
  |some ds=>
   rw[hds] at g4
   have hcs':=dsOf_ok hds
   obtain⟨q1,q2,q3⟩:=arr_or (M:=M) (ca:=ca') (n:=n) (sz:=zs.length) (xs:=ds) (by rw[<- hcl,hcs',List.length_map]) (by rw[g2.1,hcl]) (λj x u hx hu=>g2.2 j (.d x) u (by rw[hcs',List.getElem?_map,hx];rfl) hu)
   have hsm:Since M G os w M (G.ext id w.heap.size n) (os.set id (.arr (chunks zs.length n ds) zs.length 0 false)) (w.alloc (.cells ca' e)):=since_move he hid _ n (λ_ _ h=>h) (λ_ _ h=>.inl h) ⟨_,set_self hid⟩
   obtain⟨e1,e2⟩:=fill_hole he hid (.arr (chunks zs.length n ds) zs.length 0 false) (.cells ca' e) n ⟨hpos,q2,Nat.zero_le _,λh=>(by cases h),λ_=>⟨ca',e,by rw[ext_blk];exact heap_new ..,by simp[Gh.ext,g2.1,hcl],by simp[Gh.ext,q1],by simp only[Gh.ext,if_true];exact hmx,q3,λo ho=>by omega⟩⟩
   refine ok_next (v:=.slice (some ⟨w.heap.size,0,none⟩) n n) (w':=w.alloc (.cells ca' e)) ?_ e1 e2 ?_ g4
   ·have:=run_bslice (P:=P) hu hs h1 h2 hpos hle g1 w
    have hp:(parts.map λp:Nat×Operand=>(p.1,a.eval p.2))=(parts.toList.map λ(i,x)=>(i,a.eval x)).toArray:=by apply Array.ext';simp
    simp only[execOp,ho,Sem.run_bind,hp,this]
    rfl
   ·refine⟨rfl,_,_,_,_,set_self hid,by rw[q1];exact Nat.le_refl _,λ_=>?_⟩
    simp[Gh.slv,Gh.ext,q1]
  |none=>
   rw[hds] at g4
   obtain⟨q1,q2,q3⟩:=arr_ow (M:=M) (G:=G) (os:=os) (ca:=ca') (n:=n) (sz:=zs.length) hcl (by rw[g2.1,hcl]) (λj x u hx hu=>g2.2 j x u hx hu)
   have hsm:Since M G os w M (G.ext id w.heap.size n) (os.set id (.rarr (chunks zs.length n cs') zs.length false)) (w.alloc (.cells ca' e)):=since_move he hid _ n (λ_ _ h=>h) (λ_ _ h=>.inl h) ⟨_,set_self hid⟩
   obtain⟨e1,e2⟩:=fill_hole he hid (.rarr (chunks zs.length n cs') zs.length false) (.cells ca' e) n ⟨hpos,q2,λh=>(by cases h),λ_=>⟨ca',e,by rw[ext_blk];exact heap_new ..,by simp[Gh.ext,g2.1,hcl],by simp[Gh.ext,q1],by simp only[Gh.ext,if_true];exact hmx,λi j e x hi hj=>by
    obtain⟨u,hu,hv⟩:=q3 i j e x hi hj
    exact⟨u,hu,hv.since hsm⟩⟩⟩
   refine ok_next (v:=.slice (some ⟨w.heap.size,0,none⟩) n n) (w':=w.alloc (.cells ca' e)) ?_ e1 e2 ?_ g4
   ·have:=run_bslice (P:=P) hu hs h1 h2 hpos hle g1 w
    have hp:(parts.map λp:Nat×Operand=>(p.1,a.eval p.2))=(parts.toList.map λ(i,x)=>(i,a.eval x)).toArray:=by apply Array.ext';simp
    simp only[execOp,ho,Sem.run_bind,hp,this]
    rfl
   ·refine⟨rfl,_,_,_,set_self hid,by rw[q1];exact Nat.le_refl _,λ_=>?_⟩
    simp[Gh.slv,Gh.ext,q1]
 ·exact g4.elim
theorem opt_map'{α β:Type}{f:α->β}{x:Option α}{y:β}(h:x.map f=some y):∃z,x=some z/\f z=y:=Option.map_eq_some_iff.1 h
theorem ok_mkmap(he:Env M G os w){o:Oper}{t:TypeId}(ho:o.op=.makeMap t none)(h:opI P ρ os K .mkmap):OpOK P M G os w K (execOp a.eval o):=by
 have hnew:=since_new he (.map []) (.map #[] 0) 0
 refine ok_next (v:=.map (some w.heap.size)) (w':=w.alloc (.map #[] 0)) ?_ (env_new he (.map []) (.map #[] 0) 0 (λa v=>cell_alloc_old a v) ?_ (λ_ _ _ _ _ h=>by cases h)) hnew ?_ h
 ·simp[execOp,ho,Instr.makeMap]
 ·exact⟨#[],0,by rw[ext_blk];exact heap_new ..,rfl,λj p e hp=>by simp at hp⟩
 ·exact⟨by simp[Gh.ext],[],snoc_self ..⟩
def skT:SK->TypeDesc->Prop
 |.i,.int _=>True
 |.s,.string=>True
 |.b,.bool=>True
 |_,_=>False
theorem keyK_some{t:TypeId}{sk:SK}(h:keyK P t=some sk):∃d,P.underlying t=some d/\skT sk d:=by
 unfold keyK at h
 split at h
 ·rename_i k hu;cases h;exact⟨_,hu,trivial⟩
 ·rename_i hu;cases h;exact⟨_,hu,trivial⟩
 ·rename_i hu;cases h;exact⟨_,hu,trivial⟩
 ·cases h
theorem bytes_eq(a b:List UInt8):((⟨⟨a⟩⟩:ByteArray)==⟨⟨b⟩⟩)=(a==b):=by
 rw[Bool.eq_iff_iff,MapKept.bytes_beq,beq_iff_eq]
 constructor
 ·intro h;injection h with h;injection h
 ·intro h;rw[h]
theorem same_eq{sk:SK}{d:TypeDesc}(hd:skT sk d){key p:D}{kv pv:Value}(hk:Rd M key kv)(hp:Rd M p pv){b:Bool}(h:eqD sk key p=some b) :
  Instr.sameNow d kv pv=some b/\(b=true->pv=kv):=by
 unfold eqD at h
 split at h
 ·rename_i k x k' y
  cases hk;cases hp
  cases d<;>first|exact hd.elim|skip
  split at h
  ·rename_i e
   subst e
   cases h
   exact⟨by simp[Instr.sameNow],λe=>by rw[beq_iff_eq.1 e]⟩
  ·cases h
 ·cases hk;cases hp
  cases d<;>first|exact hd.elim|skip
  cases h
  exact⟨by simp[Instr.sameNow],λe=>by rw[beq_iff_eq.1 e]⟩
 ·rename_i x y
  cases hk;cases hp
  cases d<;>first|exact hd.elim|skip
  cases h
  exact⟨by simp only[Instr.sameNow,bytes_eq],λe=>by rw[beq_iff_eq.1 e]⟩
 ·cases h
theorem run_check{sk:SK}{d:TypeDesc}(hd:skT sk d){t:TypeId}(hu:P.underlying t=some d)(e:Bool)(n:Nat)(kv:Value)(w:World):(Instr.checkKey e (n+1) t kv).run P w=.ok () w:=by
 unfold Instr.checkKey
 simp only[Sem.run_bind,run_underlying hu,Result.andThen]
 cases sk<;>cases d<;>first|exact hd.elim|rfl
theorem key_bits{sk:SK}{d:TypeDesc}(hd:skT sk d){key:D}{kv:Value}(hk:Rd M key kv)(h:eqD sk key key≠none)(n:Nat):Instr.sameBits n kv kv=true:=by
 unfold eqD at h
 split at h
 ·cases hk;cases n<;>simp[Instr.sameBits]
 ·cases hk;cases n<;>simp[Instr.sameBits]
 ·cases hk;cases n<;>simp[Instr.sameBits,bytes_eq]
 ·exact absurd rfl h
theorem find_mget{sk:SK}{d:TypeDesc}(hd:skT sk d){key:D}{kv:Value}(hk:Rd M key kv):∀(kvs:List (D×AV)) (es:List MapEntry) (i:Nat),es.length=kvs.length->
  (∀(j:Nat) p e,kvs[j]?=some p->es[j]?=some e->Rd M p.1 e.key)->(∀p∈kvs,eqD sk key p.1≠none)->
  (mget sk key kvs=none/\(∀v,mput sk key v kvs=kvs++[(key,v)])/\Instr.findNow d kv es i=some none)\/
  ∃j p e,kvs[j]?=some p/\es[j]?=some e/\mget sk key kvs=some p.2/\(∀v,mput sk key v kvs=kvs.set j (key,v))/\Instr.findNow d kv es i=some (some (i+j,e.val))/\e.key=kv
 |[],[],i,_,_,_=>.inl ⟨rfl,λ_=>rfl,rfl⟩
 |[],_::_,i,h,_,_=>by simp at h
 |_::_,[],i,h,_,_=>by simp at h
 |p::kvs,e::es,i,hl,hr,hn=>by
  have hp:=hr 0 p e rfl rfl
  cases hb:eqD sk key p.1 with
  |none=>exact absurd hb (hn p (by simp))
  |some b=>
   obtain⟨h1,h2⟩:=same_eq hd hk hp hb
   cases b with
   |true=>
    exact .inr ⟨0,p,e,rfl,rfl,by simp[mget,hb],λv=>by simp[mput,hb],by simp[Instr.findNow,h1],h2 rfl⟩
   |false=>
    rcases find_mget hd hk kvs es (i+1) (by simpa using hl) (λj p e hj he=>hr (j+1) p e (by simpa using hj) (by simpa using he)) (λp hp=>hn p (by simp[hp])) with ⟨a1,a2,a3⟩|⟨j,p',e',a1,a2,a3,a4,a5,a6⟩
    ·exact .inl ⟨by simp[mget,hb,a1],λv=>by simp[mput,hb,a2],by simp[Instr.findNow,h1,a3]⟩
    ·refine .inr ⟨j+1,p',e',by simpa using a1,by simpa using a2,by simp[mget,hb,a3],λv=>by simp[mput,hb,a4],?_,a6⟩
     simp only[Instr.findNow,h1,a5]
     congr 3
     omega
theorem one_vg{c:AV}{v:Value}(h:VA M G os c v)(h1:c.one=true):VG M G os c v:=by
 refine va_vg h (λts e=>?_) (λe=>?_)
 ·subst e;cases h1
 ·subst e;cases h1
theorem tzv_ok{t:TypeId}{g:Bool}{zs:List D}(h:tzv P t=some (g,zs)):∃z,(∀w,(zeroValue t).run P w=.ok z w)/\VG M G os (zv g zs) z:=by
 unfold tzv at h
 obtain⟨i,hi,h⟩:=Option.bind_eq_some_iff.1 h
 obtain⟨z,hz,h⟩:=Option.bind_eq_some_iff.1 h
 refine⟨z,λw=>by simp[zeroValue,typeInfo,hi,hz],?_⟩
 split at h
 ·rename_i cs
  obtain⟨xs,hxs,e⟩:=opt_map' h
  cases e
  obtain⟨h1,h2⟩:=mapM_toD (M:=M) hxs
  exact agg_data (by simpa using h1.symm) (λj x u hx hu=>h2 j x u hx (by simpa using hu))
 ·rename_i hv
  obtain⟨x,hx,e⟩:=opt_map' h
  cases e
  exact toD_rd (M:=M) hx
theorem lkK_va{id:Nat}{r:AV}{v:Value}(h:lkK os id r λr=>K r os)(hv:VA M G os r v):∃r',VA M G os r' v/\K r' os:=by
 rcases h with h|⟨rfl,sz,frz,ho,h⟩
 ·exact⟨r,hv,h⟩
 ·refine⟨.arr (id+1) 0,⟨?_,_,_,_,_,ho,Nat.le_refl _,λ_=>?_⟩,h⟩
  ·rw[va_nil hv];rfl
  ·rw[va_nil hv];simp[Gh.slv]
theorem ok_lkup(he:Env M G os w)(ht:Tmps M G os ρ a){o:Oper}{t kt e:TypeId}{m k:Operand}{m' k':Opd}{sk:SK}{ok g:Bool}{zs:List D}(ho:o.op=.lookup t m k ok)(hu:P.underlying t=some (.map kt e))(hkt:keyK P kt=some sk)(hz:tzv P e=some (g,zs))
  (hm:cO m=some m') (hk:cO k=some k') (h:opI P ρ os K (.lkup sk ok g zs m' k')):OpOK P M G os w K (execOp a.eval o):=by
 have e1:=cO_ev ht hm
 have e2:=cO_ev ht hk
 obtain⟨d,hd,hsk⟩:=keyK_some hkt
 simp only[opI] at h
 split at h
 ·rename_i id key h1 h2
  rw[h1] at e1
  rw[h2] at e2
  have e2:=va_d e2
  split at h
  ·rename_i kvs h3
   obtain⟨⟨hok1,hok2⟩,h⟩:=h
   obtain⟨hv,_⟩:=e1
   obtain⟨es,clock,b1,b2,b3⟩:=he.obj id _ h3
   obtain⟨z,hz1,hz2⟩:=tzv_ok (M:=M) (G:=G) (os:=os) hz
   have lift:∀(v:AV) (u:Value),VG M G os v u->(∃u2,VA M G os (if ok then .tup [v,.d (.bool true)] else v) u2/\u2=(if ok then .tuple #[u,.bool true] else u))/\VA M G os (if ok then .tup [v,.d (.bool false)] else v) (if ok then .tuple #[u,.bool false] else u):=by
    intro v u hvu
    have hva:VA M G os v u:=by
     cases v<;>first|exact hvu|trivial|exact hvu.elim
    cases ok with
    |false=>exact⟨⟨_,hva,rfl⟩,hva⟩
    |true=>
     refine⟨⟨_,⟨_,rfl,rfl,λj c u' hj hu=>?_⟩,rfl⟩,⟨_,rfl,rfl,λj c u' hj hu=>?_⟩⟩
     ·match j with
      |0=>simp at hj hu;subst hj;subst hu;exact hvu
      |1=>simp at hj hu;subst hj;subst hu;exact Rd.bool _
      |j+2=>simp at hj
     ·match j with
      |0=>simp at hj hu;subst hj;subst hu;exact hvu
      |1=>simp at hj hu;subst hj;subst hu;exact Rd.bool _
      |j+2=>simp at hj
   rcases find_mget hsk e2 kvs es.toList 0 (by simpa using b2) (λj p e hp he=>(b3 j p e hp (by simpa using he)).1) hok1 with ⟨a1,_,a3⟩|⟨j,p,en,a1,a2,a3,_,a5,_⟩
   ·rw[a1] at h
    obtain⟨r',hva',h⟩:=lkK_va h (lift _ _ hz2).2
    refine ok_value he (v:=if ok then .tuple #[z,.bool false] else z) ?_ hva' h
    simp only[execOp,ho,hv,Instr.lookup,Sem.run_bind,run_underlying hu,MapKept.run_getObj_map b1,Result.andThen,run_check hsk hd,MapKept.run_findKey hd a3,hz1,Sem.run_pure]
   ·rw[a3] at h
    have hvg:=(b3 j p en a1 (by simpa using a2)).2
    have hva0:VA M G os (if ok then .tup [p.2,.d (.bool true)] else p.2) (if ok then .tuple #[en.val,.bool true] else en.val):=by obtain⟨⟨u2,q1,rfl⟩,_⟩:=lift _ _ hvg;exact q1
    obtain⟨r',hva',h⟩:=lkK_va h hva0
    refine ok_value he (v:=if ok then .tuple #[en.val,.bool true] else en.val) ?_ hva' h
    simp only[execOp,ho,hv,Instr.lookup,Sem.run_bind,run_underlying hu,MapKept.run_getObj_map b1,Result.andThen,run_check hsk hd,MapKept.run_findKey hd a5,Sem.run_pure]
  ·exact h.elim
 ·exact h.elim
theorem ok_mupd(he:Env M G os w)(ht:Tmps M G os ρ a){o:Oper}{t kt e:TypeId}{m k v:Operand}{m' k' v':Opd}{sk:SK}(ho:o.op=.mapUpdate t m k v)(hu:P.underlying t=some (.map kt e))(hkt:keyK P kt=some sk)
  (hm:cO m=some m') (hk:cO k=some k') (hvx:cO v=some v') (h:opI P ρ os K (.mupd sk m' k' v')):OpOK P M G os w K (execOp a.eval o):=by
 have e1:=cO_ev ht hm
 have e2:=cO_ev ht hk
 have e3:=cO_ev ht hvx
 obtain⟨d,hd,hsk⟩:=keyK_some hkt
 simp only[opI] at h
 split at h
 ·rename_i id key h1 h2
  rw[h1] at e1
  rw[h2] at e2
  have e2:=va_d e2
  split at h
  ·rename_i kvs h3
   obtain⟨⟨hok1,hok2⟩,hone,h⟩:=h
   obtain⟨hv,_⟩:=e1
   obtain⟨es,clock,b1,b2,b3⟩:=he.obj id _ h3
   have hlt:=(Array.getElem?_eq_some_iff.1 b1).1
   have e3:=one_vg e3 hone
   -- a changed map in its own block
   have fin:∀(es':Array MapEntry) (clock':Nat) (kvs':List (D×AV)),kvs'=mput sk key (evO ρ v') kvs->es'.size=kvs'.length->(∀(j:Nat) p e,kvs'[j]?=some p->es'[j]?=some e->Rd M p.1 e.key/\VG M G os p.2 e.val)->
     (Instr.mapUpdate t (.map (some (G.blk id))) (a.eval k) (a.eval v)).run P w=.ok () {w with heap:=w.heap.setIfInBounds (G.blk id) (.map es' clock')}->OpOK P M G os w K (execOp a.eval o):=by
    intro es' clock' kvs' hkv q1 q2 q3
    subst hkv
    let w':World:={w with heap:=w.heap.setIfInBounds (G.blk id) (.map es' clock')}
    have hoth:∀b,b≠G.blk id->w'.heap[b]?=w.heap[b]?:=λb hb=>by
     show(w.heap.setIfInBounds _ _)[b]?=_
     rw[Array.getElem?_setIfInBounds_ne (by omega)]
    have hK:Keeps G G id (os.set id (.map (mput sk key (evO ρ v') kvs))) (.map kvs):=⟨rfl,_,set_self h3⟩
    have hnoM:∀y u,M y=some u->y.block=G.blk id->False:=λy u hy hb=>by
     obtain⟨es,sz,frz,nl,h6,_⟩:=he.sep id y u (Live.map h3) hy hb
     rw[h3] at h6;cases h6
    have hsu:Since M G os w M G (os.set id (.map (mput sk key (evO ρ v') kvs))) w':=since_upd he h3 rfl rfl rfl rfl (by simp[w']) hoth (λ_ _ h=>h) (λ_ _ h=>.inl h) hK
    refine ok_skip (w':=w') ?_
     (env_upd he h3 rfl rfl rfl rfl (by simp[w']) hoth (λ_ _ h=>h) (λ_ _ h=>.inl h) hK (λ_ _=>rfl) (λy u hy hb=>(hnoM y u hy hb).elim) (λy u hy hb=>(hnoM y u hy hb).elim) ?_) hsu h
    ·simp only[execOp,ho,hv,Sem.run_bind,q3,Result.andThen]
     rfl
    ·refine⟨es',clock',?_,q1,λj p e hp he=>?_⟩
     ·show(w.heap.setIfInBounds _ _)[_]?=_
      simp[hlt]
     ·obtain⟨c2,c3⟩:=q2 j p e hp he
      exact⟨c2,c3.since hsu⟩
   rcases find_mget hsk e2 kvs es.toList 0 (by simpa using b2) (λj p e hp he=>(b3 j p e hp (by simpa using he)).1) hok1 with ⟨a1,a2,a3⟩|⟨j,p,en,a1,a2,a3,a4,a5,a6⟩
   ·refine fin (es.push {key:=a.eval k,val:=a.eval v,born:=clock}) (clock+1) _ (a2 _).symm (by simp[b2]) (λi p e hp he=>?_) ?_
    ·by_cases hi:i<kvs.length
     ·rw[List.getElem?_append_left hi] at hp
      rw[Array.getElem?_push,if_neg (by omega)] at he
      exact b3 i p e hp he
     ·have hi2:=(List.getElem?_eq_some_iff.1 hp).1
      simp at hi2
      have:i=kvs.length:=by omega
      subst this
      rw[List.getElem?_append_right (Nat.le_refl _)] at hp
      simp at hp
      rw[Array.getElem?_push,if_pos (by omega)] at he
      simp at he
      subst hp;subst he
      exact⟨e2,e3⟩
    ·simp only[Instr.mapUpdate,Sem.run_bind,run_underlying hu,MapKept.run_getObj_map b1,Result.andThen,run_check hsk hd,MapKept.run_findKey hd a3,MapKept.run_setObj_map _ b1]
   ·refine fin (es.modify j λe=>{e with key:=a.eval k,val:=a.eval v}) clock _ (a4 _).symm (by simp[b2]) (λi p' e' hp he=>?_) ?_
    ·rw[Array.getElem?_modify] at he
     by_cases hij:j=i
     ·subst hij
      rw[if_pos rfl] at he
      have ha2:es[j]?=some en:=by simpa using a2
      rw[ha2] at he
      simp at he
      have hj:=(List.getElem?_eq_some_iff.1 a1).1
      rw[List.getElem?_set_self hj] at hp
      cases hp
      subst he
      exact⟨e2,e3⟩
     ·rw[if_neg hij] at he
      rw[List.getElem?_set_ne hij] at hp
      exact b3 i p' e' hp he
    ·have hkt:(Instr.keyThatStays (((es[0+j]?).map (·.key)).getD (a.eval k)) (a.eval k)).run P w=.ok (a.eval k) w:=by
      have ha2:es[0+j]?=some en:=by simpa using a2
      rw[ha2]
      simp only[Option.map_some,Option.getD_some,a6]
      simp[Instr.keyThatStays,key_bits hsk e2 hok2]
     simp only[Instr.mapUpdate,Sem.run_bind,run_underlying hu,MapKept.run_getObj_map b1,Result.andThen,run_check hsk hd,MapKept.run_findKey hd a5,hkt,MapKept.run_setObj_map _ b1]
     simp
  ·exact h.elim
 ·exact h.elim
theorem ok_rmap(he:Env M G os w)(ht:Tmps M G os ρ a){o:Oper}{t kt e:TypeId}{x:Operand}{x':Opd}(ho:o.op=.range t x)(hx:cO x=some x')(hu:P.underlying t=some (.map kt e))(h:opI P ρ os K (.rmap x')):OpOK P M G os w K (execOp a.eval o):=by
 simp only[opI] at h
theorem ok_nmap(he:Env M G os w)(ht:Tmps M G os ρ a){o:Oper}{x:Operand}{x':Opd}(ho:o.op=.next x false)(hx:cO x=some x')(h:opI P ρ os K (.nmap x')):OpOK P M G os w K (execOp a.eval o):=by
 simp only[opI] at h
theorem ok_entry(he:Env M G os w)(ht:Tmps M G os ρ a){o:Oper}{x:Operand}{x':Opd}(ho:o.op=.entry x)(hx:cO x=some x')(h:opI P ρ os K (.entry x')):OpOK P M G os w K (execOp a.eval o):=by
 simp only[opI] at h
end
end Go.Bi
