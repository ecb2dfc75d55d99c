/- Soundness of the further operations, second part. No condition. -/
import Derived.Test.YthaildbjjlpdgaaGreatBK3
set_option linter.unusedVariables false
namespace Go.Bi
set_option linter.unusedSectionVars false
variable [Globs]
section
variable {P:Program}{M:Mem}{G:Gh}{os:List AO}{w:World}{ρ:Rho}{a:Act}{K:AV->List AO->Prop}
theorem find_mdel{sk:SK}{d:TypeDesc}(hd:skT sk d){key:D}{kv:Value}(hk:Rd M key kv):∀(kvs:List (D×AV)) (es:List MapEntry) (i:Nat),es.length=kvs.length->
  (∀(j:Nat) p e,kvs[j]?=some p->es[j]?=some e->Rd M p.1 e.key)->(∀p∈kvs,eqD sk key p.1≠none)->
  (mdelL sk key kvs=kvs/\Instr.findNow d kv es i=some none)\/
  ∃j e,j<kvs.length/\mdelL sk key kvs=kvs.eraseIdx j/\Instr.findNow d kv es i=some (some (i+j,e))
 |[],[],i,_,_,_=>.inl ⟨rfl,rfl⟩
 |[],_::_,i,h,_,_=>by simp at h
 |_::_,[],i,h,_,_=>by simp at h
 |p::kvs,e::es,i,hl,hr,hn=>by
  have hp:=hr 0 p e rfl rfl
  cases hb:eqD sk key p.1 with
  |none=>exact absurd hb (hn p (by simp))
  |some b=>
   obtain⟨h1,h2⟩:=same_eq hd hk hp hb
   cases b with
   |true=>
    exact .inr ⟨0,_,by simp,by simp[mdelL,hb],by simp only[Instr.findNow,h1];rfl⟩
   |false=>
    rcases find_mdel hd hk kvs es (i+1) (by simpa using hl) (λj p e hj he=>hr (j+1) p e (by simpa using hj) (by simpa using he)) (λp hp=>hn p (by simp[hp])) with ⟨a1,a2⟩|⟨j,e',a1,a2,a3⟩
    ·exact .inl ⟨by simp[mdelL,hb,a1],by simp[Instr.findNow,h1,a2]⟩
    ·refine .inr ⟨j+1,e',by simp;omega,by simp[mdelL,hb,a2],?_⟩
     simp only[Instr.findNow,h1,a3]
     congr 3
     omega
theorem run_checkE{sk:SK}{d:TypeDesc}(hd:skT sk d){t:TypeId}(hu:P.underlying t=some d)(e:Bool)(kv:Value)(w:World):(Instr.checkKey e 10000 t kv).run P w=.ok () w:=run_check hd hu e 9999 kv w
theorem ok_mdel(he:Env M G os w)(ht:Tmps M G os ρ a){o:Oper}{t t' kt e:TypeId}{m k:Operand}{m' k':Opd}{sk:SK}{c:Call}(ho:o.op=.call c)(hb:c.callee=.builtin .delete)(hargs:c.args=#[m,k])(hts:c.argTypes=#[t,t'])
  (hu:P.underlying t=some (.map kt e)) (hkt:keyK P kt=some sk) (hm:cO m=some m') (hk:cO k=some k') (h:opI P ρ os K (.ex (.mdel sk) [m',k'])):OpOK P M G os w K (execOp a.eval o):=by
 have e1:=cO_ev ht hm
 have e2:=cO_ev ht hk
 obtain⟨d,hd,hsk⟩:=keyK_some hkt
 have h:exI os K (.mdel sk) [evO ρ m',evO ρ k']:=h
 generalize evO ρ m'=c1 at e1 h
 generalize evO ρ k'=c2 at e2 h
 unfold exI at h
 split at h
 all_goals first|exact h.elim|(rename_i q;cases q;done)|(rename_i q _;cases q;done)|skip
 rename_i sk' id key q1 q2
 cases q1
 cases q2
 split at h
 ·rename_i kvs h3
  obtain⟨⟨hok1,hok2⟩,h⟩:=h
  obtain⟨hv,_⟩:=e1
  have e2:=va_d e2
  obtain⟨es,clock,b1,b2,b3⟩:=he.obj id _ h3
  have hlt:=(Array.getElem?_eq_some_iff.1 b1).1
  have fin:∀(es':Array MapEntry) (kvs':List (D×AV)),kvs'=mdelL sk key kvs->es'.size=kvs'.length->(∀(j:Nat) p e,kvs'[j]?=some p->es'[j]?=some e->Rd M p.1 e.key/\VG M G os p.2 e.val)->
    (Builtin.delete_ #[t,t'] o.type #[.map (some (G.blk id)),a.eval k]).run P w=.ok (.tuple #[]) {w with heap:=w.heap.setIfInBounds (G.blk id) (.map es' clock)}->OpOK P M G os w K (execOp a.eval o):=by
   intro es' kvs' hkv q1 q2 q3
   subst hkv
   let w':World:={w with heap:=w.heap.setIfInBounds (G.blk id) (.map es' clock)}
   have hoth:∀b,b≠G.blk id->w'.heap[b]?=w.heap[b]?:=λb hb=>by
    show(w.heap.setIfInBounds _ _)[b]?=_
    rw[Array.getElem?_setIfInBounds_ne (by omega)]
   have hK:Keeps G G id (os.set id (.map (mdelL sk key kvs))) (.map kvs):=⟨rfl,_,set_self h3⟩
   have hnoM:∀y u,M y=some u->y.block=G.blk id->False:=λy u hy hb=>by
    obtain⟨es,sz,frz,nl,h6,_⟩:=he.sep id y u (Live.map h3) hy hb
    rw[h3] at h6;cases h6
   have hsu:Since M G os w M G (os.set id (.map (mdelL sk key kvs))) w':=since_upd he h3 rfl rfl rfl rfl (by simp[w']) hoth (λ_ _ h=>h) (λ_ _ h=>.inl h) hK
   refine ok_next (r:=.junk) (v:=.tuple #[]) (w':=w') ?_
    (env_upd he h3 rfl rfl rfl rfl (by simp[w']) hoth (λ_ _ h=>h) (λ_ _ h=>.inl h) hK (λ_ _=>rfl) (λy u hy hb=>(hnoM y u hy hb).elim) (λy u hy hb=>(hnoM y u hy hb).elim) ?_) hsu trivial h
   ·simp[execOp,ho,hb,hargs,hts,resolve,invoke,builtin,hv,q3,w']
   ·refine⟨es',clock,?_,q1,λj p e hp he=>?_⟩
    ·show(w.heap.setIfInBounds _ _)[_]?=_
     simp[hlt]
    ·obtain⟨c2,c3⟩:=q2 j p e hp he
     exact⟨c2,c3.since hsu⟩
  rcases find_mdel hsk e2 kvs es.toList 0 (by simpa using b2) (λj p e hp he=>(b3 j p e hp (by simpa using he)).1) hok1 with ⟨a1,a2⟩|⟨j,en,a1,a2,a3⟩
  ·refine fin es _ a1.symm (by rw[b2]) (λi p e hp he=>b3 i p e hp he) ?_
   simp[Builtin.delete_,run_underlying hu,MapKept.run_getObj_map b1,run_checkE hsk hd,MapKept.run_findKey hd a2,MapKept.run_setObj_map _ b1]
  ·have hj:j<es.size:=by omega
   have htl:(es.eraseIdxIfInBounds j).toList=es.toList.eraseIdx j:=by simp[Array.eraseIdxIfInBounds,hj]
   refine fin (es.eraseIdxIfInBounds j) _ a2.symm (by rw[<- Array.length_toList,htl,List.length_eraseIdx,List.length_eraseIdx,Array.length_toList,b2]) (λi p e hp he=>?_) ?_
   ·rw[List.getElem?_eraseIdx] at hp
    rw[<- Array.getElem?_toList,htl] at he
    rw[List.getElem?_eraseIdx] at he
    split at hp
    ·rw[if_pos ‹_›] at he
     exact b3 i p e hp (by simpa using he)
    ·rw[if_neg ‹_›] at he
     exact b3 (i+1) p e hp (by simpa using he)
   ·simp only[Nat.zero_add] at a3
    simp[Builtin.delete_,run_underlying hu,MapKept.run_getObj_map b1,run_checkE hsk hd,MapKept.run_findKey hd a3,MapKept.run_setObj_map _ b1]
 ·exact h.elim
theorem bnd_opt{b:Bool}{dflt:Int}{vs:List AV}{K:Int->List AV->Prop}(h:bndV b dflt vs K):(b=false/\K dflt vs)\/∃k n r,b=true/\vs=.d (.int k n)::r/\K n r:=by
 unfold bndV at h
 split at h
 ·rename_i hb
  split at h
  ·exact .inr ⟨_,_,_,hb,rfl,h⟩
  ·exact h.elim
 ·rename_i hb
  exact .inl ⟨by simpa using hb,h⟩
theorem bnds_ok(ht:Tmps M G os ρ a){lo hi:Option Operand}{lo' hi':Option Opd}(hlo:cOpt lo=some lo')(hhi:cOpt hi=some hi'){d:Nat}{K:Int->Int->Prop}
  (h:bndV lo'.isSome 0 ((lo'.toList++hi'.toList).map (evO ρ)) λl vs=>bndV hi'.isSome d vs λh _=>K l h) :
  ∃l m,K l m/\((lo.map a.eval=none/\l=0)\/∃k,lo.map a.eval=some (.int k l))/\((hi.map a.eval=none/\m=d)\/∃k,hi.map a.eval=some (.int k m)):=by
 cases lo with
 |none=>
  simp only[cOpt] at hlo
  cases hlo
  cases hi with
  |none=>
   simp only[cOpt] at hhi
   cases hhi
   exact⟨0,d,h,.inl ⟨rfl,rfl⟩,.inl ⟨rfl,rfl⟩⟩
  |some y=>
   simp only[cOpt] at hhi
   obtain⟨z,hz,rfl⟩:=Option.map_eq_some_iff.1 hhi
   have e1:=cO_ev ht hz
   have h:bndV true d [evO ρ z] (λh _=>K 0 h):=h
   rcases bnd_opt h with ⟨h0,_⟩|⟨k,n,r,_,hvs,hk⟩
   ·cases h0
   ·injection hvs with h1 h2
    rw[h1] at e1
    exact⟨0,n,hk,.inl ⟨rfl,rfl⟩,.inr ⟨k,by simp[va_int e1]⟩⟩
 |some x=>
  simp only[cOpt] at hlo
  obtain⟨z0,hz0,rfl⟩:=Option.map_eq_some_iff.1 hlo
  have e0:=cO_ev ht hz0
  cases hi with
  |none=>
   simp only[cOpt] at hhi
   cases hhi
   have h:bndV true 0 [evO ρ z0] (λl vs=>bndV false d vs λh _=>K l h):=h
   rcases bnd_opt h with ⟨h0,_⟩|⟨k,n,r,_,hvs,hk⟩
   ·cases h0
   ·injection hvs with h1 h2
    rw[h1] at e0
    exact⟨n,d,hk,.inr ⟨k,by simp[va_int e0]⟩,.inl ⟨rfl,rfl⟩⟩
  |some y=>
   simp only[cOpt] at hhi
   obtain⟨z,hz,rfl⟩:=Option.map_eq_some_iff.1 hhi
   have e1:=cO_ev ht hz
   have h:bndV true 0 [evO ρ z0,evO ρ z] (λl vs=>bndV true d vs λh _=>K l h):=h
   rcases bnd_opt h with ⟨h0,_⟩|⟨k,n,r,_,hvs,hk⟩
   ·cases h0
   ·injection hvs with h1 h2
    subst h2
    rw[h1] at e0
    rcases bnd_opt hk with ⟨h0,_⟩|⟨k2,n2,r2,_,hvs2,hk2⟩
    ·cases h0
    ·injection hvs2 with h3 h4
     rw[h3] at e1
     exact⟨n,n2,hk2,.inr ⟨k,by simp[va_int e0]⟩,.inr ⟨k2,by simp[va_int e1]⟩⟩
theorem ok_part(he:Env M G os w){o:Oper}{x:Operand}{lo hi:Option Operand}{t e:TypeId}(ho:o.op=.slice t x lo hi none)(hu:P.underlying t=some (.slice e))(hs:tsz P e=some 1)
  {id tot l1 n1:Nat} {es:List (List D)} {frz:Nat} {nl:Bool} (hid:os[id]?=some (.arr es 1 frz nl)) (htot:tot=es.length) (hln:l1+n1<=tot) (hv:G.sbv id 1 l1 n1 nl (a.eval x)) {l m:Int}
  (hl:(lo.map a.eval=none/\l=0)\/∃k,lo.map a.eval=some (.int k l)) (hm:(hi.map a.eval=none/\m=n1)\/∃k,hi.map a.eval=some (.int k m)) (g1:0<=l) (g2:l<=m) (g3:m<=n1)
  (h:K (.sub id tot (l1+l.toNat) (m.toNat-l.toNat)) os):OpOK P M G os w K (execOp a.eval o):=by
 subst htot
 obtain⟨p1,p2,p3,p4,p5⟩:=he.obj id _ hid
 unfold Gh.sbv at hv
 cases nl with
 |true=>
  have:es=[]:=p4 rfl
  subst this
  simp only[if_true] at hv
  have h0:l1=0/\n1=0:=by simp at hln;omega
  obtain⟨rfl,rfl⟩:=h0
  obtain rfl:m=0:=by omega
  obtain rfl:l=0:=by omega
  have hb:=run_bounds (P:=P) true 0 0 _ _ 0 0 hl hm (by omega) (by omega) (by omega) (Nat.le_refl _)
  refine ok_value (r:=.sub id ([]:List (List D)).length (0+(0:Int).toNat) ((0:Int).toNat-(0:Int).toNat)) he (v:=.slice none 0 0) ?_ ⟨rfl,_,_,_,_,hid,Nat.le_refl _,by simp,λ_=>by simp[Gh.sbv]⟩ h
  simp[execOp,ho,Instr.sliceAt,Instr.slice,run_underlying hu,hv,hb,run_size hs]
 |false=>
  simp only[Bool.false_eq_true,if_false] at hv
  obtain⟨ob,hv,hob⟩:=hv
  obtain⟨ca,t',h6,h7,h8,h9,h10,h11⟩:=p5 rfl
  have hb:=run_bounds (P:=P) true n1 (G.cap id-l1) _ _ l m hl hm g1 g2 g3 (by omega)
  refine ok_value (r:=.sub id es.length (l1+l.toNat) (m.toNat-l.toNat)) he (v:=.slice (some ⟨G.blk id,if G.cap id-l1=l.toNat then ob else ob+l.toNat,none⟩) (m.toNat-l.toNat) (G.cap id-l1-l.toNat)) ?_ ⟨rfl,_,_,_,_,hid,Nat.le_refl _,by omega,λ_=>?_⟩ h
  ·simp only[execOp,ho,Instr.sliceAt,Instr.slice,Sem.run_bind,run_underlying hu,Result.andThen_ok,Option.map_none,hv,hb,run_size hs,Option.map_some]
   split<;>simp[add_none]
  ·unfold Gh.sbv
   simp only[Bool.false_eq_true,if_false]
   refine⟨_,by rw[show G.cap id-l1-l.toNat=G.cap id-(l1+l.toNat) by omega],λhpos=>?_⟩
   have:=hob (by omega)
   rw[if_neg (by omega),this]
   omega
theorem sbv_slv{id n:Nat}{nl:Bool}:G.sbv id 1 0 n nl (G.slv id n nl):=by
 unfold Gh.sbv Gh.slv
 cases nl with
 |true=>simp
 |false=>simp
theorem ok_slu(he:Env M G os w)(ht:Tmps M G os ρ a){o:Oper}{x:Operand}{x':Opd}{lo hi:Option Operand}{lo' hi':Option Opd}{t e:TypeId}(ho:o.op=.slice t x lo hi none)(hx:cO x=some x')(hlo:cOpt lo=some lo')(hhi:cOpt hi=some hi')
  (hu:P.underlying t=some (.slice e)) (hs:tsz P e=some 1) (h:opI P ρ os K (.ex (.slu lo'.isSome hi'.isSome) (x'::(lo'.toList++hi'.toList)))):OpOK P M G os w K (execOp a.eval o):=by
 have e1:=cO_ev ht hx
 have h:sluI os lo'.isSome hi'.isSome (evO ρ x') ((lo'.toList++hi'.toList).map (evO ρ)) (λr=>K r os):=h
 generalize evO ρ x'=c at e1 h
 unfold sluI at h
 split at h
 ·obtain⟨l,m,⟨rfl,rfl,g5⟩,q2,q1⟩:=bnds_ok (d:=0) ht hlo hhi h
  have hv:=va_nil e1
  have hb:=run_bounds (P:=P) true 0 0 _ _ 0 0 q2 q1 (by omega) (by omega) (by omega) (Nat.le_refl _)
  refine ok_value (r:=.d .nil) he (v:=.slice none 0 0) ?_ Rd.nil g5
  simp[execOp,ho,Instr.sliceAt,Instr.slice,run_underlying hu,hv,hb,run_size hs]
 ·rename_i es
  obtain⟨l,m,⟨g1,g2,g3,g4,g5⟩,q2,q1⟩:=bnds_ok ht hlo hhi h
  obtain⟨sa,cap,hv⟩:=va_sl e1
  have f3:=va_d e1
  rw[hv] at f3
  have hcs:es.length<=cap/\((∃b ob,sa=⟨b,ob,none⟩)\/es=[]):=by
   rcases f3 with _|_|_|_|_|_|⟨_,_,_,_,_,_,hc,_,_,_⟩|_
   ·exact⟨hc,.inl ⟨_,_,rfl⟩⟩
   ·exact⟨Nat.zero_le _,.inr rfl⟩
  obtain⟨hcap,hsa⟩:=hcs
  have hb:=run_bounds (P:=P) true es.length cap _ _ l m q2 q1 g1 g2 g3 hcap
  rcases hsa with ⟨b,ob,rfl⟩|rfl
  ·refine ok_value he (r:=.d (.sl ((es.drop l.toNat).take (m.toNat-l.toNat)))) (v:=.slice (some ⟨b,if cap=l.toNat then ob else ob+l.toNat*1,none⟩) (m.toNat-l.toNat) (cap-l.toNat)) ?_
    (show Rd M _ _ from Rd.sub f3 g4 l.toNat m.toNat (cap-l.toNat) (by omega) (by omega) (by omega) _ ?_) g5
   ·simp only[execOp,ho,Instr.sliceAt,Instr.slice,Sem.run_bind,run_underlying hu,Result.andThen_ok,Option.map_none,hv,hb,run_size hs,Option.map_some]
    split<;>simp[add_none]
   ·split
    ·exact .inr (.inl (by omega))
    ·exact .inr (.inr rfl)
  ·simp only[List.length_nil,Int.ofNat_zero] at g3
   obtain rfl:m=0:=by omega
   obtain rfl:l=0:=by omega
   refine ok_value he (r:=.d (.sl [])) (v:=.slice (some sa) 0 cap) ?_ (show Rd M _ _ from Rd.sle _ _) (by simpa using g5)
   simp only[execOp,ho,Instr.sliceAt,Instr.slice,Sem.run_bind,run_underlying hu,Result.andThen_ok,Option.map_none,hv,hb,run_size hs,Option.map_some]
   split<;>simp[Addr.add]
 ·rename_i id len
  simp only[partI] at h
  split at h
  ·rename_i es sz frz nl hid
   obtain⟨hlen,h⟩:=h
   obtain⟨l,m,⟨g1,g2,g3,rfl,g5⟩,q2,q1⟩:=bnds_ok (d:=len) ht hlo hhi h
   obtain⟨_,es',sz',frz',nl',h1,h2,h3⟩:=e1
   rw[hid] at h1
   cases h1
   refine ok_part (l1:=0) (n1:=len) he ho hu hs hid hlen (by omega) ?_ q2 q1 g1 g2 g3 (by simpa using g5)
   rw[h3 hlen,hlen]
   exact sbv_slv
  ·exact h.elim
 ·rename_i id tot l1 n1
  simp only[partI] at h
  split at h
  ·rename_i es sz frz nl hid
   obtain⟨hlen,h⟩:=h
   obtain⟨l,m,⟨g1,g2,g3,rfl,g5⟩,q2,q1⟩:=bnds_ok (d:=n1) ht hlo hhi h
   obtain⟨_,es',sz',frz',nl',h1,h2,hln,h3⟩:=e1
   rw[hid] at h1
   cases h1
   exact ok_part he ho hu hs hid hlen hln (h3 hlen) q2 q1 g1 g2 g3 g5
  ·exact h.elim
 ·exact h.elim
theorem run_firstCells_zero(sz:Nat)(xb:Option Addr)(n c:Nat)(w:World):(Builtin.firstCells sz 0 (.slice xb n c)).run P w=.ok #[] w:=by
 cases xb with
 |none=>exact run_firstCells_none w sz 0 n c
 |some ad=>exact run_firstCells_some w sz 0 ad n c [] (by simp) (λj v hj=>by simp at hj)
theorem cpy_list(es ns:List (List D))(lo n:Nat):es.take lo++ns.take n++es.drop (lo+min ns.length n)=setR es lo (ns.take n):=by
 unfold setR
 rw[List.length_take,Nat.min_comm]
theorem copy_ok(he:Env M G os w){o:Oper}{t t' e:TypeId}{dv sv:Value}{sz:Nat}(hex:∀{v:Value} {w':World},(Builtin.copy_ #[t,t'] o.type #[dv,sv]).run P w=.ok v w'->(execOp a.eval o).run P w=.ok (.value v) w')
  (hu:P.underlying t=some (.slice e)) (hs:tsz P e=some sz) (hpos:0<sz) {ns:List (List D)} (hns:∀e∈ns,e.length=sz)
  (hsrc:(ns=[]/\∃xb c,sv=.slice xb 0 c)\/∃b o c,sv=.slice (some ⟨b,o,none⟩) ns.length c/\
   ((∀e∈ns,e.length=sz)->∀(i j:Nat) e d,ns[i]?=some e->e[j]?=some d->∃u,w.cell? ⟨b,o+(i*sz+j),none⟩=some u/\Rd M d u))
  {id lo n:Nat} {es:List (List D)} {frz:Nat} {nl:Bool} (hid:os[id]?=some (.arr es sz frz nl)) (hln:lo+n<=es.length) (hv:G.sbv id sz lo n nl dv) (hfr:ns.length=0\/frz<=lo)
  (h:K (.d (.int .i64 (min ns.length n:Nat))) (os.set id (.arr (es.take lo++ns.take n++es.drop (lo+min ns.length n)) sz frz nl))):OpOK P M G os w K (execOp a.eval o):=by
 obtain⟨p1,p2,p3,p4,p5⟩:=he.obj id _ hid
 have hsv:∃xb c,sv=.slice xb ns.length c:=by
  rcases hsrc with ⟨rfl,xb,c,rfl⟩|⟨b,ob,c,rfl,_⟩
  ·exact⟨_,_,rfl⟩
  ·exact⟨_,_,rfl⟩
 by_cases hk0:min ns.length n=0
 ·have hset:os.set id (.arr (es.take lo++ns.take n++es.drop (lo+min ns.length n)) sz frz nl)=os:=by
   have:ns.take n=[]:=by
    apply List.length_eq_zero_iff.1
    rw[List.length_take,Nat.min_comm];exact hk0
   rw[hk0,this]
   simp only[List.append_nil,Nat.add_zero,List.take_append_drop]
   exact set_same hid
  rw[hset,hk0] at h
  obtain⟨xb,c,rfl⟩:=hsv
  have hd:∃db dc,dv=.slice db n dc:=by
   unfold Gh.sbv at hv
   cases nl with
   |true=>
    have:es=[]:=p4 rfl
    subst this
    obtain rfl:n=0:=by simp at hln;omega
    exact⟨none,0,by simpa using hv⟩
   |false=>
    simp only[Bool.false_eq_true,if_false] at hv
    obtain⟨ob,hv,_⟩:=hv
    exact⟨_,_,hv⟩
  obtain⟨db,dc,rfl⟩:=hd
  refine ok_value (r:=.d (.int .i64 ((0:Nat):Int))) he (hex (v:=.int .i64 0) ?_) (Rd.int ..) h
  have hf:=run_firstCells_zero (P:=P) sz xb ns.length c w
  have hk1:Nat.min ns.length n=0:=hk0
  cases db<;>simp[Builtin.copy_,run_underlying hu,Builtin.lenOf,run_size hs,hk1,hf,storeCells,goInt]
 ·have hkp:0<min ns.length n:=by omega
  have hn0:0<n:=by omega
  have hnp:0<ns.length:=by omega
  have hfr:frz<=lo:=by rcases hfr with h|h<;>omega
  unfold Gh.sbv at hv
  cases nl with
  |true=>
   have:es=[]:=p4 rfl
   subst this
   simp at hln
   omega
  |false=>
   simp only[Bool.false_eq_true,if_false] at hv
   obtain⟨ob,hv,hob⟩:=hv
   have hob:=hob hn0
   subst hob
   subst hv
   obtain⟨ca,t',h6,h7,h8,h9,h10,h11⟩:=p5 rfl
   rcases hsrc with ⟨rfl,_⟩|⟨b,so,c,rfl,hc⟩
   ·simp at hnp
   have hc:=hc hns
   have htl:(ns.take n).length=min ns.length n:=by rw[List.length_take,Nat.min_comm]
   have hget:∀(i:Nat) y,(ns.take n)[i]?=some y->ns[i]?=some y:=λi y hi=>by
    rw[List.getElem?_take] at hi
    split at hi
    ·exact hi
    ·cases hi
   have hns2:∀e∈ns.take n,e.length=sz:=λy hy=>hns y (List.mem_of_mem_take hy)
   obtain⟨news,k1,k2,k3,k4⟩:=flat_news (M:=M) (w:=w) (ns:=ns.take n) (sz:=sz) hns2 (b:=b) (o:=so) (λi j y d hi hj=>hc i j y d (hget i y hi) hj)
   rw[htl] at k1
   have hf:=run_firstCells_some (P:=P) w sz (min ns.length n) ⟨b,so,none⟩ ns.length c news k1 k2
   have hfit:lo*sz+news.length<=ca.size:=by
    rw[k1,h7,<- Nat.add_mul];exact Nat.mul_le_mul_right _ (by omega)
   have hst:=run_storeCells_at P (G.blk id) (lo*sz) t' news 0 ca w h6 (by simpa using hfit) k3
   simp only[Nat.add_zero] at hst
   have hk1:Nat.min ns.length n=min ns.length n:=rfl
   have hrun:(Builtin.copy_ #[t,t'] o.type #[.slice (some ⟨G.blk id,lo*sz,none⟩) n (G.cap id-lo),.slice (some ⟨b,so,none⟩) ns.length c]).run P w=.ok (.int .i64 (min ns.length n:Nat)) (w.setRow (G.blk id) (setR ca.toList (lo*sz) news).toArray):=by
    simp[Builtin.copy_,run_underlying hu,Builtin.lenOf,run_size hs,hk1,hf,hst,goInt,setR]
   rw[cpy_list] at h
   have hll:(setR es lo (ns.take n)).length=es.length:=setR_length _ _ _ (by rw[htl];omega)
   have hk:Keeps G G id (os.set id (.arr (setR es lo (ns.take n)) sz frz false)) (.arr es sz frz false):=⟨_,frz,false,set_self hid,by rw[hll];exact Nat.le_refl _,λ_=>⟨rfl,rfl,rfl⟩⟩
   have hoth:∀b',b'≠G.blk id->(w.setRow (G.blk id) (setR ca.toList (lo*sz) news).toArray).heap[b']?=w.heap[b']?:=λb' hb'=>setRow_other w _ b' _ hb'
   have hMin:∀y u,M y=some u->y.block=G.blk id->y.off<frz*sz:=λy u hy hb'=>by
    obtain⟨es',sz'',frz',nl',h12,h13⟩:=he.sep id y u (Live.arr hid) hy hb'
    rw[hid] at h12;cases h12
    exact h13
   have hfs:frz*sz<=lo*sz:=Nat.mul_le_mul_right _ hfr
   have hgetc:∀k,(setR ca.toList (lo*sz) news).toArray[k]?=if k<lo*sz then ca[k]? else if k<lo*sz+news.length then news[k-lo*sz]? else ca[k]?:=λk=>by
    rw[List.getElem?_toArray,setR_get _ _ _ (by simp;omega)]
    simp only[list_get]
   have hs':=since_upd he hid rfl (w':=w.setRow (G.blk id) (setR ca.toList (lo*sz) news).toArray) rfl rfl rfl (by simp) hoth (λ_ _ h=>h) (λ_ _ h=>.inl h) hk
   refine ok_next (r:=.d (.int .i64 (min ns.length n:Nat))) (w':=w.setRow (G.blk id) (setR ca.toList (lo*sz) news).toArray) (hex hrun) (env_upd he hid rfl rfl rfl rfl (by simp) hoth (λ_ _ h=>h) (λ_ _ h=>.inl h) hk (λ_ _=>rfl) (λy u hy hb'=>?_) (λy u hy hb'=>⟨_,_,_,_,rfl,hMin y u hy hb'⟩) ?_) hs' (Rd.int ..) h
   ·have hold:=he.mem y u hy
    have:=hMin y u hy hb'
    simp only[World.cell?,hb',h6,setRow_heap w _ ca _ t' _ h6] at hold ⊢
    rw[hgetc,if_pos (show y.off<lo*sz by omega)]
    exact hold
   ·refine⟨p1,λy hy=>?_,by rw[hll];exact p3,λh=>(by cases h),λ_=>⟨_,t',setRow_heap w _ ca _ t' _ h6,?_,by rw[hll];exact h8,h9,λi j y x hi hj=>?_,λk hk'=>?_⟩⟩
    ·unfold setR at hy
     rcases List.mem_append.1 hy with hy|hy
     ·rcases List.mem_append.1 hy with hy|hy
      ·exact p2 y (List.mem_of_mem_take hy)
      ·exact hns2 y hy
     ·exact p2 y (List.mem_of_mem_drop hy)
    ·simp only[List.size_toArray]
     rw[setR_length _ _ _ (by simp;omega)]
     simpa using h7
    ·rw[setR_get _ _ _ (by rw[htl];omega)] at hi
     rw[hgetc]
     have hmul:∀{a b:Nat},a<b->(a*sz+sz<=b*sz):=fun {a b} hab=>by
      have:(a+1)*sz<=b*sz:=Nat.mul_le_mul_right _ hab
      rw[Nat.add_mul] at this;omega
     have hmul2:∀{a b:Nat},a<=b->a*sz<=b*sz:=λhab=>Nat.mul_le_mul_right _ hab
     have hnl:news.length=min ns.length n*sz:=k1
     split at hi
     ·rename_i h1
      have hj':=(List.getElem?_eq_some_iff.1 hj).1
      rw[p2 y (List.mem_of_getElem? hi)] at hj'
      rw[if_pos (by have:=hmul h1;omega)]
      exact h10 i j y x hi hj
     ·rename_i h1
      have h1:lo<=i:=by omega
      split at hi
      ·rename_i h2
       rw[htl] at h2
       have hj':=(List.getElem?_eq_some_iff.1 hj).1
       rw[hns2 y (List.mem_of_getElem? hi)] at hj'
       have e1:=hmul2 h1
       have e2:=hmul h2
       rw[Nat.add_mul] at e2
       rw[if_neg (by omega),if_pos (by omega)]
       obtain⟨u,hu',hr⟩:=k4 (i-lo) j y x hi hj
       rw[Nat.sub_mul] at hu'
       exact⟨u,by rw[show i*sz+j-lo*sz=i*sz-lo*sz+j by omega];exact hu',hr⟩
      ·rename_i h2
       rw[htl] at h2
       have e2:=hmul2 (show lo+min ns.length n<=i by omega)
       rw[Nat.add_mul] at e2
       rw[if_neg (by omega),if_neg (by omega)]
       exact h10 i j y x hi hj
    ·rw[h11 k hk',hgetc,if_pos (by omega)]
theorem ok_cpy(he:Env M G os w)(ht:Tmps M G os ρ a){o:Oper}{t t' e:TypeId}{d s:Operand}{d' s':Opd}{sz:Nat}{c:Call}(ho:o.op=.call c)(hb:c.callee=.builtin .copy)(hargs:c.args=#[d,s])(hts:c.argTypes=#[t,t'])
  (hu:P.underlying t=some (.slice e)) (hs:tsz P e=some sz) (hpos:0<sz) (hd:cO d=some d') (hsx:cO s=some s') (h:opI P ρ os K (.ex (.cpy sz) [d',s'])):OpOK P M G os w K (execOp a.eval o):=by
 have e1:=cO_ev ht hd
 have e2:=cO_ev ht hsx
 have hex:∀{v:Value} {w':World},(Builtin.copy_ #[t,t'] o.type #[a.eval d,a.eval s]).run P w=.ok v w'->(execOp a.eval o).run P w=.ok (.value v) w':=λhr=>by
  simp[execOp,ho,hb,hargs,hts,resolve,invoke,builtin,hr]
 have h:newsI os (evO ρ s') (λns=>partI os (evO ρ d') λid lo n es sz' frz nl=>sz'=sz/\(∀e∈ns,e.length=sz)/\(ns.length=0\/frz<=lo)/\K (.d (.int .i64 (min ns.length n:Nat))) (os.set id (.arr (es.take lo++ns.take n++es.drop (lo+min ns.length n)) sz frz nl))):=h
 obtain⟨ns,h,hsrc⟩:=news_ok (sz:=sz) he e2 h
 unfold partI at h
 split at h
 ·rename_i id len h1
  rw[h1] at e1
  split at h
  ·rename_i es sz' frz nl hid
   obtain⟨hlen,rfl,g1,g2,g3⟩:=h
   obtain⟨_,es',sz',frz',nl',f1,f2,f3⟩:=e1
   rw[hid] at f1
   cases f1
   refine copy_ok (lo:=0) (n:=len) he hex hu hs hpos g1 hsrc hid (by omega) ?_ g2 g3
   rw[f3 hlen,hlen]
   unfold Gh.sbv Gh.slv
   cases nl with
   |true=>simp
   |false=>simp
  ·exact h.elim
 ·rename_i id tot lo n h1
  rw[h1] at e1
  split at h
  ·rename_i es sz' frz nl hid
   obtain⟨hlen,rfl,g1,g2,g3⟩:=h
   obtain⟨_,es',sz',frz',nl',f1,f2,hln,f3⟩:=e1
   rw[hid] at f1
   cases f1
   exact copy_ok he hex hu hs hpos g1 hsrc hid (by omega) (f3 hlen) g2 g3
  ·exact h.elim
 ·exact h.elim
end
end Go.Bi
