/- Soundness of append. No condition. -/
import Derived.Test.YthaildbjjlpdgaaGreatBH
import Derived.Deep.AppendSrc
set_option linter.unusedVariables false
namespace Go.Bi
set_option linter.unusedSectionVars false
variable [Globs]
section
variable {P:Program}{M:Mem}{G:Gh}{os:List AO}{w:World}{ρ:Rho}{a:Act}{K:AV->List AO->Prop}
theorem snoc_self(os:List AO)(o:AO):(os++[o])[os.length]?=some o:=by simp
theorem set_self{os:List AO}{id:Nat}{o o':AO}(h:os[id]?=some o):(os.set id o')[id]?=some o':=by
 simp[(List.getElem?_eq_some_iff.1 h).1]
theorem run_append_room'(t ty e e':TypeId)(i:TypeInfo)(ht:P.underlying t=some (.slice e))(hi:P.info? e=some i)
  (g sLen sCap:Nat) (cur:Array Value) (hg:w.heap[g]?=some (.cells cur e' (0,0)))
  (a:Addr) (m c:Nat) (news:List Value) (hl:news.length=m*i.size) (hnews:∀j u,news[j]?=some u->w.cell? (a.add j)=some u) (h1:∀u∈news,u.oneCell'=true)
  (hroom:sLen+m<=sCap) (hfit:sLen*i.size+news.length<=cur.size) :
  (Builtin.append_ #[t,t] ty #[.slice (some ⟨g,0,none⟩) sLen sCap,.slice (some a) m c]).run P w =
   .ok (.slice (some ⟨g,0,none⟩) (sLen+m) sCap) (w.setRow g (setR cur.toList (sLen*i.size) news).toArray):=by
 have hf:=run_firstCells_some (P:=P) w i.size m a m c news hl hnews
 have hst:=run_storeCells_at P g (sLen*i.size) e' news 0 cur w hg (by simpa using hfit) h1
 simp only[Nat.add_zero] at hst
 simp[Builtin.append_,run_underlying ht,sizeOf,typeInfo,hi,Builtin.lenOf,hroom,hf,Addr.add_lit,hst,setR]
theorem news_ok(he:Env M G os w){x:AV}{v:Value}{sz:Nat}{K:List (List D)->Prop}(hv:VA M G os x v)(h:newsI os x K) :
  ∃ns,K ns/\((ns=[]/\∃xb c,v=.slice xb 0 c)\/∃b o c,v=.slice (some ⟨b,o,none⟩) ns.length c/\
   ((∀e∈ns,e.length=sz)->∀(i j:Nat) e d,ns[i]?=some e->e[j]?=some d->∃u,w.cell? ⟨b,o+(i*sz+j),none⟩=some u/\Rd M d u)):=by
 unfold newsI at h
 split at h
 ·exact⟨[],h,.inl ⟨rfl,_,_,va_nil hv⟩⟩
 ·rename_i es
  cases va_d hv with
  |sle _ _=>exact⟨[],h,.inl ⟨rfl,_,_,rfl⟩⟩
  |sl _ b o cap sz' cv hcap hsz hc hr=>
   refine⟨es,h,.inr ?_⟩
   refine⟨b,o,cap,rfl,λhall i j e d hi hj=>?_⟩
   have hi':=(List.getElem?_eq_some_iff.1 hi).1
   have hj':=(List.getElem?_eq_some_iff.1 hj).1
   have q1:=hsz e (List.mem_of_getElem? hi)
   have q2:=hall e (List.mem_of_getElem? hi)
   have:sz'=sz:=by omega
   subst this
   exact⟨_,he.mem _ _ (hc i j hi' (by omega)),hr i j e d hi hj⟩
 ·rename_i es
  obtain⟨hv,_⟩:=hv
  cases hv with
  |sle _ _=>exact⟨[],h,.inl ⟨rfl,_,_,rfl⟩⟩
  |sl _ b o cap sz' cv hcap hsz hc hr=>
   refine⟨es,h,.inr ?_⟩
   refine⟨b,o,cap,rfl,λhall i j e d hi hj=>?_⟩
   have hi':=(List.getElem?_eq_some_iff.1 hi).1
   have hj':=(List.getElem?_eq_some_iff.1 hj).1
   have q1:=hsz e (List.mem_of_getElem? hi)
   have q2:=hall e (List.mem_of_getElem? hi)
   have:sz'=sz:=by omega
   subst this
   exact⟨_,he.mem _ _ (hc i j hi' (by omega)),hr i j e d hi hj⟩
 ·rename_i id len
  split at h
  ·rename_i es sz' frz nl h1
   obtain⟨_,es',sz'',frz',nl',h2,h3,h4⟩:=hv
   rw[h1] at h2
   cases h2
   have hv:=h4 h.1
   obtain⟨g1,g2,g3,g4,g5⟩:=he.obj id _ h1
   cases nl with
   |true=>
    have:es=[]:=g4 rfl
    subst this
    exact⟨[],h.2,.inl ⟨rfl,_,_,by simpa[Gh.slv] using hv⟩⟩
   |false=>
    obtain⟨ca,t,h6,h7,h8,h9,h10,h11⟩:=g5 rfl
    refine⟨es,h.2,.inr ⟨G.blk id,0,G.cap id,by simpa[Gh.slv] using hv,λhall i j e d hi hj=>?_⟩⟩
    have q1:=g2 e (List.mem_of_getElem? hi)
    have q2:=hall e (List.mem_of_getElem? hi)
    have:sz'=sz:=by omega
    subst this
    obtain⟨u,hu,hr⟩:=h10 i j e d hi hj
    exact⟨u,by simpa[World.cell?,h6] using hu,hr⟩
  ·exact h.elim
 ·exact h.elim
theorem flat_news{ns:List (List D)}{sz:Nat}(hall:∀e∈ns,e.length=sz){b o:Nat}
  (h:∀(i j:Nat) e d,ns[i]?=some e->e[j]?=some d->∃u,w.cell? ⟨b,o+(i*sz+j),none⟩=some u/\Rd M d u) :
  ∃news:List Value,news.length=ns.length*sz/\(∀j u,news[j]?=some u->w.cell? ((⟨b,o,none⟩:Addr).add j)=some u)/\(∀u∈news,u.oneCell'=true)/\
   ∀(i j:Nat) e d,ns[i]?=some e->e[j]?=some d->∃u,news[i*sz+j]?=some u/\Rd M d u:=by
 let news:List Value:=(List.range (ns.length*sz)).map λk=>(w.cell? ⟨b,o+k,none⟩).getD undef
 have hlen:news.length=ns.length*sz:=by simp[news]
 have key:∀k,k<ns.length*sz->∃u d,w.cell? ⟨b,o+k,none⟩=some u/\Rd M d u:=λk hk=>by
  have hsz:0<sz:=by
   rcases Nat.eq_zero_or_pos sz with h0|h0
   ·subst h0;simp at hk
   ·exact h0
  have hi:k / sz<ns.length:=Nat.div_lt_of_lt_mul (by rw[Nat.mul_comm];exact hk)
  have hj:k % sz<(ns[k / sz]).length:=by rw[hall _ (List.getElem_mem hi)];exact Nat.mod_lt _ hsz
  obtain⟨u,hu,hr⟩:=h (k / sz) (k % sz) _ _ (List.getElem?_eq_getElem hi) (List.getElem?_eq_getElem hj)
  rw[Nat.mul_comm,Nat.div_add_mod] at hu
  exact⟨u,_,hu,hr⟩
 have hget:∀k u,news[k]?=some u->w.cell? ⟨b,o+k,none⟩=some u:=λk u hk=>by
  have hlt:k<ns.length*sz:=by rw[<- hlen];exact(List.getElem?_eq_some_iff.1 hk).1
  obtain⟨u',d,hu',_⟩:=key k hlt
  have:news[k]?=some ((w.cell? ⟨b,o+k,none⟩).getD undef):=by simp[news,hlt]
  rw[this,hu'] at hk
  cases hk
  exact hu'
 refine⟨news,hlen,λj u hj=>by rw[add_none];exact hget j u hj,λu hu=>?_,λi j e d hi hj=>?_⟩
 ·obtain⟨k,hk,rfl⟩:=List.mem_iff_getElem.1 hu
  obtain⟨u',d,hu',hr⟩:=key k (by rw[<- hlen];exact hk)
  have:=hget k _ (List.getElem?_eq_getElem hk)
  rw[hu'] at this
  cases this
  exact hr.oneCell
 ·obtain⟨u,hu,hr⟩:=h i j e d hi hj
  have hi':=(List.getElem?_eq_some_iff.1 hi).1
  have hj':=(List.getElem?_eq_some_iff.1 hj).1
  rw[hall e (List.mem_of_getElem? hi)] at hj'
  have hlt:i*sz+j<news.length:=by rw[hlen];exact idx_lt hi' hj'
  refine⟨news[i*sz+j],List.getElem?_eq_getElem hlt,?_⟩
  have:=hget _ _ (List.getElem?_eq_getElem hlt)
  rw[hu] at this
  cases this
  exact hr
theorem join_cells{es ns:List (List D)}{sz:Nat}{ca:Array Value}{olds news:List Value}(ho:olds.length=es.length*sz)(hol:∀(i j:Nat) e x,es[i]?=some e->e[j]?=some x->∃u,olds[i*sz+j]?=some u/\Rd M x u)
  (hel:∀e∈es,e.length=sz) (hnl:∀e∈ns,e.length=sz) (hn:∀(i j:Nat) e x,ns[i]?=some e->e[j]?=some x->∃u,news[i*sz+j]?=some u/\Rd M x u)
  (hca:∀k,k<(es.length+ns.length)*sz->ca[k]?=(olds++news)[k]?) :
  ∀(i j:Nat) e x,(es++ns)[i]?=some e->e[j]?=some x->∃u,ca[i*sz+j]?=some u/\Rd M x u:=by
 intro i j e x hi hj
 have hilt:=(List.getElem?_eq_some_iff.1 hi).1
 have hjlt:=(List.getElem?_eq_some_iff.1 hj).1
 have hes:e.length=sz:=by
  rcases List.mem_append.1 (List.mem_of_getElem? hi) with h|h
  ·exact hel e h
  ·exact hnl e h
 rw[hca _ (idx_lt (by simpa using hilt) (by omega))]
 by_cases h:i<es.length
 ·rw[List.getElem?_append_left h] at hi
  rw[List.getElem?_append_left (by rw[ho];exact idx_lt h (by omega))]
  exact hol i j e x hi hj
 ·rw[List.getElem?_append_right (by omega)] at hi
  have h2:es.length*sz<=i*sz:=Nat.mul_le_mul_right _ (by omega)
  rw[List.getElem?_append_right (by rw[ho];omega),ho]
  obtain⟨u,hu,hr⟩:=hn (i-es.length) j e x hi hj
  refine⟨u,?_,hr⟩
  rw[<- hu]
  congr 1
  rw[Nat.sub_mul]
  omega
theorem flat_newsR{C:Type}{R:C->Value->Prop}(hone:∀c u,R c u->u.oneCell'=true){ns:List (List C)}{sz:Nat}(hall:∀e∈ns,e.length=sz){b o:Nat}
  (h:∀(i j:Nat) e d,ns[i]?=some e->e[j]?=some d->∃u,w.cell? ⟨b,o+(i*sz+j),none⟩=some u/\R d u) :
  ∃news:List Value,news.length=ns.length*sz/\(∀j u,news[j]?=some u->w.cell? ((⟨b,o,none⟩:Addr).add j)=some u)/\(∀u∈news,u.oneCell'=true)/\
   ∀(i j:Nat) e d,ns[i]?=some e->e[j]?=some d->∃u,news[i*sz+j]?=some u/\R d u:=by
 let news:List Value:=(List.range (ns.length*sz)).map λk=>(w.cell? ⟨b,o+k,none⟩).getD undef
 have hlen:news.length=ns.length*sz:=by simp[news]
 have key:∀k,k<ns.length*sz->∃u d,w.cell? ⟨b,o+k,none⟩=some u/\R d u:=λk hk=>by
  have hsz:0<sz:=by
   rcases Nat.eq_zero_or_pos sz with h0|h0
   ·subst h0;simp at hk
   ·exact h0
  have hi:k / sz<ns.length:=Nat.div_lt_of_lt_mul (by rw[Nat.mul_comm];exact hk)
  have hj:k % sz<(ns[k / sz]).length:=by rw[hall _ (List.getElem_mem hi)];exact Nat.mod_lt _ hsz
  obtain⟨u,hu,hr⟩:=h (k / sz) (k % sz) _ _ (List.getElem?_eq_getElem hi) (List.getElem?_eq_getElem hj)
  rw[Nat.mul_comm,Nat.div_add_mod] at hu
  exact⟨u,_,hu,hr⟩
 have hget:∀k u,news[k]?=some u->w.cell? ⟨b,o+k,none⟩=some u:=λk u hk=>by
  have hlt:k<ns.length*sz:=by rw[<- hlen];exact(List.getElem?_eq_some_iff.1 hk).1
  obtain⟨u',d,hu',_⟩:=key k hlt
  have:news[k]?=some ((w.cell? ⟨b,o+k,none⟩).getD undef):=by simp[news,hlt]
  rw[this,hu'] at hk
  cases hk
  exact hu'
 refine⟨news,hlen,λj u hj=>by rw[add_none];exact hget j u hj,λu hu=>?_,λi j e d hi hj=>?_⟩
 ·obtain⟨k,hk,rfl⟩:=List.mem_iff_getElem.1 hu
  obtain⟨u',d,hu',hr⟩:=key k (by rw[<- hlen];exact hk)
  have:=hget k _ (List.getElem?_eq_getElem hk)
  rw[hu'] at this
  cases this
  exact hone _ _ hr
 ·obtain⟨u,hu,hr⟩:=h i j e d hi hj
  have hi':=(List.getElem?_eq_some_iff.1 hi).1
  have hj':=(List.getElem?_eq_some_iff.1 hj).1
  rw[hall e (List.mem_of_getElem? hi)] at hj'
  have hlt:i*sz+j<news.length:=by rw[hlen];exact idx_lt hi' hj'
  refine⟨news[i*sz+j],List.getElem?_eq_getElem hlt,?_⟩
  have:=hget _ _ (List.getElem?_eq_getElem hlt)
  rw[hu] at this
  cases this
  exact hr
theorem join_cellsR{C:Type}{R:C->Value->Prop}{es ns:List (List C)}{sz:Nat}{ca:Array Value}{olds news:List Value}(ho:olds.length=es.length*sz)(hol:∀(i j:Nat) e x,es[i]?=some e->e[j]?=some x->∃u,olds[i*sz+j]?=some u/\R x u)
  (hel:∀e∈es,e.length=sz) (hnl:∀e∈ns,e.length=sz) (hn:∀(i j:Nat) e x,ns[i]?=some e->e[j]?=some x->∃u,news[i*sz+j]?=some u/\R x u)
  (hca:∀k,k<(es.length+ns.length)*sz->ca[k]?=(olds++news)[k]?) :
  ∀(i j:Nat) e x,(es++ns)[i]?=some e->e[j]?=some x->∃u,ca[i*sz+j]?=some u/\R x u:=by
 intro i j e x hi hj
 have hilt:=(List.getElem?_eq_some_iff.1 hi).1
 have hjlt:=(List.getElem?_eq_some_iff.1 hj).1
 have hes:e.length=sz:=by
  rcases List.mem_append.1 (List.mem_of_getElem? hi) with h|h
  ·exact hel e h
  ·exact hnl e h
 rw[hca _ (idx_lt (by simpa using hilt) (by omega))]
 by_cases h:i<es.length
 ·rw[List.getElem?_append_left h] at hi
  rw[List.getElem?_append_left (by rw[ho];exact idx_lt h (by omega))]
  exact hol i j e x hi hj
 ·rw[List.getElem?_append_right (by omega)] at hi
  have h2:es.length*sz<=i*sz:=Nat.mul_le_mul_right _ (by omega)
  rw[List.getElem?_append_right (by rw[ho];omega),ho]
  obtain⟨u,hu,hr⟩:=hn (i-es.length) j e x hi hj
  refine⟨u,?_,hr⟩
  rw[<- hu]
  congr 1
  rw[Nat.sub_mul]
  omega
theorem env_nil(he:Env M G os w)(sz:Nat)(hsz:0<sz):Env M G (os++[.arr [] sz 0 true]) w/\Since M G os w M G (os++[.arr [] sz 0 true]) w:=by
 have hlv:∀i,Live (os++[.arr [] sz 0 true]) i->Live os i:=λi hi=>by
  rcases live_snoc hi with h|⟨_,h⟩
  ·exact h
  ·cases h
 have hs:Since M G os w M G (os++[.arr [] sz 0 true]) w:={
  sys:=rfl,tape:=rfl,output:=rfl,size:=Nat.le_refl _,frame:=λ_ _ _=>rfl,grow:=λ_ _ h=>h,fresh:=λ_ _ h=>.inl h
  own:=λi hi=>.inr ⟨i,hlv i hi,rfl⟩
  keep:=λi o ho=>Keeps.same (by rw[List.getElem?_append_left (List.getElem?_eq_some_iff.1 ho).1];exact ho) rfl rfl}
 refine⟨⟨he.mem,λid o ho=>?_,λi j hi hj=>he.inj i j (hlv i hi) (hlv j hj),λi x v hi hx hb=>?_,glb_since hs he.glb⟩,hs⟩
 ·rcases Nat.lt_trichotomy id os.length with h1|h1|h1
  ·rw[List.getElem?_append_left h1] at ho
   exact OR.since hs (he.obj id o ho) rfl rfl rfl (λ_ _=>rfl)
  ·subst h1
   simp at ho
   subst ho
   exact⟨hsz,λ_ h=>(by cases h),Nat.le_refl _,λ_=>rfl,λh=>by cases h⟩
  ·rw[List.getElem?_append_right (by omega),List.getElem?_eq_none (by simp;omega)] at ho
   cases ho
 ·obtain⟨es,sz',frz,nl,h1,h2⟩:=he.sep i x v (hlv i hi) hx hb
  exact⟨es,sz',frz,nl,by rw[List.getElem?_append_left (List.getElem?_eq_some_iff.1 h1).1];exact h1,h2⟩
theorem ok_appr(he:Env M G os w)(ht:Tmps M G os ρ a){o:Oper}{t e:TypeId}{s x:Operand}{s' x':Opd}{sz bytes:Nat}{zs:List D}{c:Call}(ho:o.op=.call c)(hb:c.callee=.builtin .append)(hargs:c.args=#[s,x])(hts:c.argTypes=#[t,t])
  (hsx:cO s=some s') (hx:cO x=some x') (hu:P.underlying t=some (.slice e)) (hs:tsz P e=some sz) (hby:tby P e=some bytes) (hz:tz P e=some zs) (hpos:0<sz) (hzl:zs.length=sz)
  {id2 len2:Nat} (hx2:evO ρ x'=.rs id2 len2) {ns:List (List AV)} {sz2:Nat} (ho2:os[id2]?=some (.rarr ns sz2 false)) (hl2:len2=ns.length) (hn2:0<ns.length) (h:apprI os sz bytes (evO ρ s') ns K):OpOK P M G os w K (execOp a.eval o):=by
 have e1:=cO_ev ht hsx
 have e2:=cO_ev ht hx
 obtain⟨i,hi,hisz⟩:=Option.map_eq_some_iff.1 hs
 obtain⟨i',hi',hiby⟩:=Option.map_eq_some_iff.1 hby
 rw[hi] at hi'
 cases hi'
 obtain⟨i2,z,hi2,hz',hrz⟩:=tz_info hz
 rw[hi] at hi2
 cases hi2
 obtain⟨z2,hz1,hz2,hz3⟩:=tz_zero (M:=M) hz
 have hzz:z=z2:=by
  have h4:=hrz w
  rw[hz1 w] at h4
  cases h4
  rfl
 subst hzz
 have hzs:z.cells.size=sz:=by omega
 have hex:∀{v:Value} {w':World},(Builtin.append_ #[t,t] o.type #[a.eval s,a.eval x]).run P w=.ok v w'->(execOp a.eval o).run P w=.ok (.value v) w':=λhr=>by
  simp[execOp,ho,hb,hargs,hts,resolve,invoke,builtin,hr]
 -- the new elements
 rw[hx2] at e2
 obtain⟨_,ns',sz2',nl2',b1,b2,b3⟩:=e2
 rw[ho2] at b1
 cases b1
 have hxv:=b3 hl2
 simp only[Gh.slv,Bool.false_eq_true,if_false] at hxv
 obtain⟨_,c2,_,c4⟩:=he.obj id2 _ ho2
 obtain⟨ca2,t2,d6,d7,d8,d9,d10⟩:=c4 rfl
 unfold apprI at h
 split at h
 rotate_left
 ·exact h.elim
 rename_i id len hse
 rw[hse] at e1
 split at h
 rotate_left
 ·exact h.elim
 rename_i es sz' nl hid
 obtain⟨g0,rfl,g1,g2,g3,g4⟩:=h
 have hszz:sz2=sz':=by
  have q1:=c2 _ (List.getElem_mem hn2)
  have q2:=g3 _ (List.getElem_mem hn2)
  omega
 subst hszz
 obtain⟨news,k1,k2,k3,k4⟩:=flat_newsR (w:=w) (R:=VC M G os) (λ_ _ h=>VC.oneCell h) g3 (b:=G.blk id2) (o:=0) (λi j e d hi hj=>by
  obtain⟨u,hu,hr⟩:=d10 i j e d hi hj
  exact⟨u,by simpa[World.cell?,d6] using hu,hr⟩)
 obtain⟨_,es',sz'',nl',f1,f2,f3⟩:=e1
 rw[hid] at f1
 cases f1
 have hsv:=f3 g0
 obtain⟨p1,p2,p4,p5⟩:=he.obj id _ hid
 have hie:(nl&&ns.isEmpty)=false:=by cases ns with|nil=>simp at hn2|cons=>simp
 rw[hie] at g4
 have he':=he.drew
 have moves:∀(olds:List Value) (cap:Nat),olds.length=es.length*sz2->es.length+ns.length<=cap->cap<=maxLen->(∀(i j:Nat) e x,es[i]?=some e->e[j]?=some x->∃u,olds[i*sz2+j]?=some u/\VC M G os x u)->
   (Builtin.append_ #[t,t] o.type #[a.eval s,a.eval x]).run P w=.ok (.slice (some ⟨w.heap.size,0,none⟩) (es.length+ns.length) cap) (w.drew.alloc (.cells (olds.toArray++news.toArray++Builtin.zeroCells z.cells (cap-(es.length+ns.length))) e))->
   OpOK P M G os w K (execOp a.eval o):=by
  intro olds cap q1 q2 q3 q4 hrun
  let ca:=olds.toArray++news.toArray++Builtin.zeroCells z.cells (cap-(es.length+ns.length))
  have hk:Keeps G (G.ext id w.drew.heap.size cap) id (os.set id (.rarr (es++ns) sz2 false)) (.rarr es sz2 nl):=⟨_,false,set_self hid,by simp,λhc=>by rw[List.length_append] at hc;omega⟩
  have hmv:=since_move he' hid (.cells ca e) cap (λ_ _ h=>h) (λ_ _ h=>.inl h) hk
  have hno:∀y v,M y=some v->y.block=w.drew.heap.size->False:=λy v hy hb'=>by
   have:=World.block_lt_of_cell? w y (he.mem y v hy)
   have hb':y.block=w.heap.size:=hb'
   omega
  refine ok_next (hex hrun) (env_move he' hid (.cells ca e) cap (λ_ _ h=>h) (λ_ _ h=>.inl h) hk (λ_ _=>rfl) (λy v hy hb'=>(hno y v hy hb').elim) (λy v hy hb'=>(hno y v hy hb').elim) ?_) ((since_drew M G os w).trans hmv) ?_ g4
  ·refine⟨p1,λy hy=>?_,λh=>(by cases h),λ_=>⟨ca,e,by rw[ext_blk];exact heap_new w.drew _,?_,by rw[ext_cap];simpa using q2,by rw[ext_cap];exact q3,λi j y x hi hj=>?_⟩⟩
   ·rcases List.mem_append.1 hy with h|h
    ·exact p2 y h
    ·exact g3 y h
   ·rw[ext_cap]
    show(olds.toArray++news.toArray++Builtin.zeroCells z.cells (cap-(es.length+ns.length))).size=_
    simp only[Array.size_append,List.size_toArray,size_zeroCells,hzs,q1,k1]
    rw[<- Nat.add_mul,<- Nat.add_mul]
    congr 1
    omega
   ·obtain⟨u,hu',hr⟩:=join_cellsR (R:=VC M G os) (ca:=ca) q1 q4 p2 g3 k4 (λk hk=>by
     have:k<(olds.toArray++news.toArray).size:=by simp[q1,k1,<- Nat.add_mul];omega
     show(olds.toArray++news.toArray++Builtin.zeroCells z.cells (cap-(es.length+ns.length)))[k]?=_
     rw[Array.getElem?_append_left this]
     simp) i j y x hi hj
    exact⟨u,hu',(hr.since (since_drew M G os w)).since hmv⟩
  ·exact⟨rfl,_,_,_,set_self hid,by simp,λ_=>by simp[Gh.slv,Gh.ext]⟩
 cases nl with
 |true=>
  have:es=[]:=p4 rfl
  subst this
  simp only[Gh.slv,if_true] at hsv
  have hrun:=run_append_nil (P:=P) w t o.type e i z hu hi hz' ⟨G.blk id2,0,none⟩ ns.length (G.cap id2) news (by rw[hisz];exact k1) k2 hn2 (by simp at g2;omega) (by rw[hiby];simp at g1;omega)
  have hge:=grownCap_ge w ns.length 0 e
  have hle:=grownCap_le_maxLen w ns.length 0 e (by unfold maxLen;simp at g2;omega)
  refine moves [] (grownCap w ns.length 0 e) (by simp) (by simpa using hge) hle (λ_ _ _ _ h=>by simp at h) ?_
  rw[hsv,hxv,hrun]
  simp
 |false=>
  obtain⟨ca,t',h6,h7,h8,h9,h10⟩:=p5 rfl
  simp only[Gh.slv,Bool.false_eq_true,if_false] at hsv
  have hlc:es.length*sz2<=ca.size:=by rw[h7];exact Nat.mul_le_mul_right _ h8
  by_cases hroom:es.length+ns.length<=G.cap id
  ·have hfit:es.length*sz2+news.length<=ca.size:=by
    rw[k1,h7,<- Nat.add_mul];exact Nat.mul_le_mul_right _ hroom
   have hrun:=run_append_room' (P:=P) (w:=w) t o.type e t' i hu hi (G.blk id) es.length (G.cap id) ca h6 ⟨G.blk id2,0,none⟩ ns.length (G.cap id2) news (by rw[hisz];exact k1) k2 k3 hroom (by rw[hisz];exact hfit)
   rw[hisz] at hrun
   have hk:Keeps G G id (os.set id (.rarr (es++ns) sz2 false)) (.rarr es sz2 false):=⟨_,false,set_self hid,by simp,λ_=>⟨rfl,rfl,rfl⟩⟩
   have hoth:∀b',b'≠G.blk id->(w.setRow (G.blk id) (setR ca.toList (es.length*sz2) news).toArray).heap[b']?=w.heap[b']?:=λb' hb'=>setRow_other w _ b' _ hb'
   have hMin:∀y u,M y=some u->y.block=G.blk id->False:=λy u hy hb'=>by
    obtain⟨es',sz'',frz',nl',h12,h13⟩:=he.sep id y u (Live.rarr hid) hy hb'
    rw[hid] at h12;cases h12
   have hget:∀k,(setR ca.toList (es.length*sz2) news).toArray[k]?=if k<es.length*sz2 then ca[k]? else if k<es.length*sz2+news.length then news[k-es.length*sz2]? else ca[k]?:=λk=>by
    rw[List.getElem?_toArray,setR_get _ _ _ (by simp;omega)]
    simp only[list_get]
   have hs':=since_upd he hid rfl (w':=w.setRow (G.blk id) (setR ca.toList (es.length*sz2) news).toArray) rfl rfl rfl (by simp) hoth (λ_ _ h=>h) (λ_ _ h=>.inl h) hk
   refine ok_next (w':=w.setRow (G.blk id) (setR ca.toList (es.length*sz2) news).toArray) (hex (by rw[hsv,hxv];exact hrun)) (env_upd he hid rfl rfl rfl rfl (by simp) hoth (λ_ _ h=>h) (λ_ _ h=>.inl h) hk (λ_ _=>rfl) (λy u hy hb'=>(hMin y u hy hb').elim) (λy u hy hb'=>(hMin y u hy hb').elim) ?_) hs' ?_ g4
   ·refine⟨p1,λy hy=>?_,λh=>(by cases h),λ_=>⟨_,t',setRow_heap w _ ca _ t' _ h6,?_,by simpa using hroom,h9,λi j y x hi hj=>?_⟩⟩
    ·rcases List.mem_append.1 hy with h|h
     ·exact p2 y h
     ·exact g3 y h
    ·simp only[List.size_toArray]
     rw[setR_length _ _ _ (by simp;omega)]
     simpa using h7
    ·obtain⟨u,hu',hr⟩:=join_cellsR (R:=VC M G os) (ca:=(setR ca.toList (es.length*sz2) news).toArray) (olds:=ca.toList.take (es.length*sz2)) (news:=news) (by simp;omega) (λi j y x hi hj=>by
      obtain⟨u,hu',hr⟩:=h10 i j y x hi hj
      have hi':=(List.getElem?_eq_some_iff.1 hi).1
      have hj':=(List.getElem?_eq_some_iff.1 hj).1
      rw[p2 y (List.mem_of_getElem? hi)] at hj'
      refine⟨u,?_,hr⟩
      rw[List.getElem?_take,if_pos (idx_lt hi' hj'),list_get]
      exact hu') p2 g3 k4 (λk hk'=>by
      rw[hget]
      rw[Nat.add_mul,<- k1] at hk'
      by_cases hk2:k<es.length*sz2
      ·rw[if_pos hk2,List.getElem?_append_left (by simp;omega),List.getElem?_take,if_pos hk2,list_get]
      ·rw[if_neg hk2,if_pos (by omega),List.getElem?_append_right (by simp;omega)]
       congr 1
       simp
       omega) i j y x hi hj
     exact⟨u,hu',hr.since hs'⟩
   ·exact⟨rfl,_,_,_,set_self hid,by simp,λ_=>by simp[Gh.slv]⟩
  ·have hge:=grownCap_ge w (es.length+ns.length) (G.cap id) e
   have hle:=grownCap_le_maxLen w (es.length+ns.length) (G.cap id) e (by unfold maxLen;omega)
   have hol:∀j v,(ca.toList.take (es.length*sz2))[j]?=some v->w.cell? ((⟨G.blk id,0,none⟩:Addr).add j)=some v:=λj v hj=>by
    rw[List.getElem?_take] at hj
    split at hj
    ·rw[add_none,Nat.zero_add]
     simp only[World.cell?,h6]
     simpa using hj
    ·cases hj
   have hrun:=run_append_grow (P:=P) w t o.type e i z hu hi hz' ⟨G.blk id,0,none⟩ es.length (G.cap id) (ca.toList.take (es.length*sz2)) (by rw[hisz];simp;omega) hol ⟨G.blk id2,0,none⟩ ns.length (G.cap id2) news (by rw[hisz];exact k1) k2 (by omega) (by omega) (by rw[hiby];exact growslice_fits (by omega) g1)
   refine moves (ca.toList.take (es.length*sz2)) (grownCap w (es.length+ns.length) (G.cap id) e) (by simp;omega) hge hle (λi j y x hi hj=>?_) (by rw[hsv,hxv];exact hrun)
   obtain⟨u,hu',hr⟩:=h10 i j y x hi hj
   have hi':=(List.getElem?_eq_some_iff.1 hi).1
   have hj':=(List.getElem?_eq_some_iff.1 hj).1
   rw[p2 y (List.mem_of_getElem? hi)] at hj'
   refine⟨u,?_,hr⟩
   rw[List.getElem?_take,if_pos (idx_lt hi' hj'),list_get]
   exact hu'
theorem news_src(he:Env M G os w){x:AV}{v:Value}{sz:Nat}{tx e':TypeId}(hk:P.underlying tx=some (.slice e')){K:List (List D)->Prop}(hv:VA M G os x v)(h:newsI os x K) :
  ∃ns,K ns/\((∀e∈ns,e.length=sz)->∃news,Src P sz tx v ns.length news w/\∀(i j:Nat) e d,ns[i]?=some e->e[j]?=some d->∃u,news[i*sz+j]?=some u/\Rd M d u):=by
 obtain⟨ns,h1,h2⟩:=news_ok (sz:=sz) he hv h
 refine⟨ns,h1,λhall=>?_⟩
 rcases h2 with ⟨rfl,xb,c,rfl⟩|⟨b,o,c,rfl,hcells⟩
 ·refine⟨[],?_,λi j e d hi=>by simp at hi⟩
  cases xb with
  |none=>
   refine⟨.inl ⟨e',hk⟩,λ_=>rfl,?_,?_,by simp,λ_ h=>by cases h⟩
   ·exact run_firstCells_none w sz 0 0 c
   ·exact run_firstCells_none w.drew sz 0 0 c
  |some a=>exact Src.ofSlice w hk a 0 c [] (by simp) (λj u h=>by simp at h) (λ_ h=>by cases h)
 ·obtain⟨news,k1,k2,k3,k4⟩:=flat_news hall (hcells hall)
  exact⟨news,Src.ofSlice w hk ⟨b,o,none⟩ ns.length c news k1 k2 k3,k4⟩
theorem string_src{s:List UInt8}{tx:TypeId}(hk:P.underlying tx=some .string):∃news,Src P 1 tx (.string ⟨⟨s⟩⟩) (byteL s).length news w/\∀(i j:Nat) e d,(byteL s)[i]?=some e->e[j]?=some d->∃u,news[i*1+j]?=some u/\Rd M d u:=by
 have h:=Src.ofString (P:=P) w hk ⟨⟨s⟩⟩
 have e:(ByteArray.mk ⟨s⟩).size=(byteL s).length:=by simp[byteL,size_mk]
 rw[e] at h
 refine⟨_,h,λi j e d hi hj=>?_⟩
 simp only[byteL,List.getElem?_map,Option.map_eq_some_iff] at hi
 obtain⟨c,hc,rfl⟩:=hi
 cases j with
 |succ j=>simp at hj
 |zero=>
  simp at hj
  subst hj
  refine⟨.int .u8 c.toNat,?_,.int ..⟩
  simp[byteCells,hc]
theorem run_append_zeroS{t tx e:TypeId}{sz:Nat}(ty:TypeId)(hu:P.underlying t=some (.slice e))(hs:tsz P e=some sz)(sb:Option Addr)(n cap:Nat){x:Value}(hx:Src P sz tx x 0 [] w)(hn:n<=cap) :
  (Builtin.append_ #[t,tx] ty #[.slice sb n cap,x]).run P w=.ok (.slice sb n cap) w:=by
 rcases hx.kind with ⟨e',hk⟩|hk<;>cases sb<;>simp[Builtin.append_,run_underlying hu,run_underlying hk,run_size hs,hx.len,hn,hx.cells,storeCells]
theorem run_append_roomS(t tx ty e e':TypeId)(i:TypeInfo)(ht:P.underlying t=some (.slice e))(hi:P.info? e=some i)
  (g sLen sCap:Nat) (cur:Array Value) (hg:w.heap[g]?=some (.cells cur e' (0,0)))
  (x:Value) (m:Nat) (news:List Value) (hx:Src P i.size tx x m news w)
  (hroom:sLen+m<=sCap) (hfit:sLen*i.size+news.length<=cur.size) :
  (Builtin.append_ #[t,tx] ty #[.slice (some ⟨g,0,none⟩) sLen sCap,x]).run P w =
   .ok (.slice (some ⟨g,0,none⟩) (sLen+m) sCap) (w.setRow g (setR cur.toList (sLen*i.size) news).toArray):=by
 have hst:=run_storeCells_at P g (sLen*i.size) e' news 0 cur w hg (by simpa using hfit) hx.one
 simp only[Nat.add_zero] at hst
 rcases hx.kind with ⟨e',hk⟩|hk<;>simp[Builtin.append_,run_underlying ht,run_underlying hk,sizeOf,typeInfo,hi,hx.len,hroom,hx.cells,Addr.add_lit,hst,setR]
theorem appI_ok(he:Env M G os w){t tx e:TypeId}{s:AV}{sv xv:Value}{o:Oper}(hex:∀{v:Value} {w':World},(Builtin.append_ #[t,tx] o.type #[sv,xv]).run P w=.ok v w'->(execOp a.eval o).run P w=.ok (.value v) w')
  (e1:VA M G os s sv) {sz bytes:Nat} {zs:List D} (hu:P.underlying t=some (.slice e)) (hs:tsz P e=some sz) (hby:tby P e=some bytes) (hz:tz P e=some zs) (hpos:0<sz) (hzl:zs.length=sz) {ns:List (List D)}
  (hsrc:(∀e∈ns,e.length=sz)->∃news,Src P sz tx xv ns.length news w/\∀(i j:Nat) e d,ns[i]?=some e->e[j]?=some d->∃u,news[i*sz+j]?=some u/\Rd M d u)
  (h:appI os sz bytes s ns K):OpOK P M G os w K (execOp a.eval o):=by
 obtain⟨i,hi,hisz⟩:=Option.map_eq_some_iff.1 hs
 obtain⟨i',hi',hiby⟩:=Option.map_eq_some_iff.1 hby
 rw[hi] at hi'
 cases hi'
 obtain⟨i2,z,hi2,hz',hrz⟩:=tz_info hz
 rw[hi] at hi2
 cases hi2
 obtain⟨z2,hz1,hz2,hz3⟩:=tz_zero (M:=M) hz
 have hzz:z=z2:=by
  have h4:=hrz w
  rw[hz1 w] at h4
  cases h4
  rfl
 subst hzz
 have hzs:z.cells.size=sz:=by omega
 -- what a grown slice looks like
 have grown:∀(es:List (List D)) (olds news:List Value) (cap:Nat) (id frz:Nat) (os':List AO) (M':Mem),olds.length=es.length*sz->news.length=ns.length*sz->es.length+ns.length<=cap->cap<=maxLen->(∀e∈es,e.length=sz)->(∀e∈ns,e.length=sz)->frz<=es.length->
   (∀a v,M a=some v->M' a=some v)->
   (∀(i j:Nat) e x,es[i]?=some e->e[j]?=some x->∃u,olds[i*sz+j]?=some u/\Rd M x u)->(∀(i j:Nat) e x,ns[i]?=some e->e[j]?=some x->∃u,news[i*sz+j]?=some u/\Rd M x u)->
   (∀k,k<frz*sz->M' ⟨w.heap.size,k,none⟩=(olds.toArray++news.toArray++Builtin.zeroCells z.cells (cap-(es.length+ns.length)))[k]?)->
   OR M' (G.ext id w.heap.size cap) os' (w.drew.alloc (.cells (olds.toArray++news.toArray++Builtin.zeroCells z.cells (cap-(es.length+ns.length))) e)) id (.arr (es++ns) sz frz false):=by
  intro es olds news cap id frz os' M' q1 q2 q3 q4 q5 q6 q7 q8 q9 q10 q11
  refine⟨hpos,λy hy=>?_,by simp;omega,λh=>(by cases h),λ_=>⟨_,e,by rw[ext_blk];exact heap_new w.drew _,?_,by rw[ext_cap];simpa using q3,by rw[ext_cap];exact q4,λi j y x hi hj=>?_,λk hk=>by rw[ext_blk];exact q11 k hk⟩⟩
  ·rcases List.mem_append.1 hy with h|h
   ·exact q5 y h
   ·exact q6 y h
  ·rw[ext_cap]
   simp only[Array.size_append,List.size_toArray,size_zeroCells,hzs,q1,q2]
   rw[<- Nat.add_mul,<- Nat.add_mul]
   congr 1
   omega
  ·obtain⟨u,hu',hr⟩:=join_cells (M:=M) (ca:=olds.toArray++news.toArray++Builtin.zeroCells z.cells (cap-(es.length+ns.length))) q1 q9 q5 q6 q10 (λk hk=>by
    have:k<(olds.toArray++news.toArray).size:=by simp[q1,q2,<- Nat.add_mul];omega
    rw[Array.getElem?_append_left this]
    simp) i j y x hi hj
   exact⟨u,hu',hr.mono q8⟩
 unfold appI at h
 split at h
 ·rename_i hse
  have hsv:=va_nil e1
  obtain⟨g1,g2,g3,g4⟩:=h
  obtain⟨news,hS,k4⟩:=hsrc g3
  have k1:=hS.newsLen
  ·by_cases hn0:ns=[]
   ·subst hn0
    have hn1:news=[]:=List.length_eq_zero_iff.1 (by simpa using k1)
    subst hn1
    obtain⟨n1,n2⟩:=env_nil he sz hpos
    refine ok_next (hex (by rw[hsv];exact run_append_zeroS _ hu hs none 0 0 hS (Nat.le_refl _))) n1 n2 ?_ g4
    exact⟨rfl,_,_,_,_,snoc_self ..,Nat.le_refl _,λ_=>by simp[Gh.slv]⟩
   ·have hnp:0<ns.length:=by cases ns with|nil=>exact absurd rfl hn0|cons=>simp
    have hrun:=run_append_grow_src (P:=P) w t tx o.type e i z hu hi hz' none 0 0 [] (run_firstCells_none w.drew i.size 0 0 0) xv ns.length news (by rw[hisz];exact hS) (by omega) (by simp;omega) (by rw[hiby];have:=growslice_fits (need:=ns.length) (old:=0) (bytes:=bytes) (by omega) (by simpa using g1);simpa using this)
    simp only[Nat.zero_add,List.nil_append] at hrun
    have hge:=grownCap_ge w ns.length 0 e
    have hle:=grownCap_le_maxLen w ns.length 0 e (by unfold maxLen;omega)
    have hor:=grown [] [] news (grownCap w ns.length 0 e) os.length 0 (os++[.arr ns sz 0 false]) M (by simp) k1 (by simpa using hge) hle (λ_ h=>by cases h) g3 (Nat.le_refl _) (λ_ _ h=>h) (λ_ _ _ _ h=>by simp at h) k4 (λk hk=>by omega)
    simp only[List.nil_append,List.length_nil,Nat.zero_add,Array.empty_append] at hor
    have he':=he.drew
    have hie:ns.isEmpty=false:=by cases ns with|nil=>exact absurd rfl hn0|cons=>rfl
    rw[hie] at g4
    have hnew:=since_new he' (.arr ns sz 0 false) (.cells (news.toArray++Builtin.zeroCells z.cells (grownCap w ns.length 0 e-ns.length)) e) (grownCap w ns.length 0 e)
    refine ok_next (hex (by rw[hsv];exact hrun)) (env_new he' (.arr ns sz 0 false) (.cells (news.toArray++Builtin.zeroCells z.cells (grownCap w ns.length 0 e-ns.length)) e) (grownCap w ns.length 0 e) (λa v=>cell_alloc_old a v) ?_ (λ_ _ _ _ _ h=>by cases h;rfl)) ((since_drew M G os w).trans hnew) ?_ g4
    ·simpa using hor
    ·exact⟨rfl,_,_,_,_,snoc_self ..,Nat.le_refl _,λ_=>by simp[Gh.slv,Gh.ext]⟩
 ·rename_i id len
  split at h
  ·rename_i es sz' frz nl hid
   obtain⟨g0,rfl,g1,g2,g3,g4⟩:=h
   obtain⟨_,es',sz'',frz',nl',f1,f2,f3⟩:=e1
   rw[hid] at f1
   cases f1
   have hsv:=f3 g0
   obtain⟨p1,p2,p3,p4,p5⟩:=he.obj id _ hid
   have hlt:=(List.getElem?_eq_some_iff.1 hid).1
   -- nothing to append
   obtain⟨news,hS,k4⟩:=hsrc g3
   have k1:=hS.newsLen
   have k3:=hS.one
   have zero:ns=[]->OpOK P M G os w K (execOp a.eval o):=by
    intro hn
    subst hn
    have hn1:news=[]:=List.length_eq_zero_iff.1 (by simpa using k1)
    subst hn1
    have hset:os.set id (.arr (es++[]) sz' frz (nl&&([]:List (List D)).isEmpty))=os:=by
     simp only[List.append_nil,List.isEmpty_nil,Bool.and_true]
     exact set_same hid
    rw[hset] at g4
    cases nl with
    |true=>
     have:es=[]:=p4 rfl
     subst this
     refine ok_value he (hex (v:=.slice none 0 0) ?_) ?_ g4
     ·rw[hsv]
      exact run_append_zeroS _ hu hs none 0 0 hS (Nat.le_refl _)
     ·exact⟨rfl,_,_,_,_,hid,Nat.le_refl _,λ_=>by simp[Gh.slv]⟩
    |false=>
     obtain⟨ca,t',h6,h7,h8,h9,h10,h11⟩:=p5 rfl
     refine ok_value he (hex (v:=.slice (some ⟨G.blk id,0,none⟩) es.length (G.cap id)) ?_) ?_ g4
     ·rw[hsv]
      simp only[Gh.slv,Bool.false_eq_true,if_false]
      exact run_append_zeroS _ hu hs _ _ _ hS h8
     ·exact⟨rfl,_,_,_,_,hid,by simp,λ_=>by simp[Gh.slv]⟩
   by_cases hn0:ns=[]
   ·exact zero hn0
   have hnp:0<ns.length:=by cases ns with|nil=>exact absurd rfl hn0|cons=>simp
   have hie:(nl&&ns.isEmpty)=false:=by cases ns with|nil=>exact absurd rfl hn0|cons=>simp
   rw[hie] at g4
   have he':=he.drew
   -- the slice moves
   have moves:∀(olds:List Value) (cap:Nat),olds.length=es.length*sz'->es.length+ns.length<=cap->cap<=maxLen->(∀(i j:Nat) e x,es[i]?=some e->e[j]?=some x->∃u,olds[i*sz'+j]?=some u/\Rd M x u)->
     (Builtin.append_ #[t,tx] o.type #[sv,xv]).run P w=.ok (.slice (some ⟨w.heap.size,0,none⟩) (es.length+ns.length) cap) (w.drew.alloc (.cells (olds.toArray++news.toArray++Builtin.zeroCells z.cells (cap-(es.length+ns.length))) e))->
     OpOK P M G os w K (execOp a.eval o):=by
    intro olds cap q1 q2 q3 q4 hrun
    let ca:=olds.toArray++news.toArray++Builtin.zeroCells z.cells (cap-(es.length+ns.length))
    let M':Mem:=Mem.with M (w.drew.alloc (.cells ca e)) w.heap.size (frz*sz')
    have hcn:∀k,(w.drew.alloc (.cells ca e)).cell? ⟨w.heap.size,k,none⟩=ca[k]?:=λk=>by
     have:=heap_new w.drew (.cells ca e)
     simp only[World.cell?]
     rw[show w.heap.size=w.drew.heap.size from rfl,this]
     simp
    have hgrow:∀y v,M y=some v->M' y=some v:=λy v hy=>by
     show Mem.with _ _ _ _ y=_
     unfold Mem.with
     split
     ·exact cell_alloc_old y v (he'.mem y v hy)
     ·exact hy
    have hnew:∀y v,M' y=some v->M y=some v\/y.block=w.heap.size:=λy v hy=>by
     have hy:Mem.with _ _ _ _ y=_:=hy
     unfold Mem.with at hy
     split at hy
     ·rename_i hc;exact .inr hc.1
     ·exact .inl hy
    have hk:Keeps G (G.ext id w.drew.heap.size cap) id (os.set id (.arr (es++ns) sz' frz false)) (.arr es sz' frz nl):=⟨_,frz,false,set_self hid,by simp,λhc=>by rw[List.length_append] at hc;omega⟩
    have hor:=grown es olds news cap id frz (os.set id (.arr (es++ns) sz' frz false)) M' q1 k1 q2 q3 p2 g3 p3 hgrow q4 k4 (λk hk'=>by
     show Mem.with _ _ _ _ _=_
     unfold Mem.with
     rw[if_pos ⟨rfl,rfl,hk'⟩]
     exact hcn k)
    have hfs:frz*sz'<=es.length*sz':=Nat.mul_le_mul_right _ p3
    have hmv:=since_move he' hid (.cells ca e) cap hgrow hnew hk
    refine ok_next (hex hrun) (env_move he' hid (.cells ca e) cap hgrow hnew hk (λy hy=>?_) (λy v hy hb'=>?_) (λy v hy hb'=>?_) hor) ((since_drew M G os w).trans hmv) ?_ g4
    ·show Mem.with _ _ _ _ y=_
     unfold Mem.with
     rw[if_neg (λhc=>hy hc.1)]
    ·have hy:Mem.with _ _ _ _ y=_:=hy
     unfold Mem.with at hy
     split at hy
     ·exact hy
     ·exact cell_alloc_old y v (he'.mem y v hy)
    ·have hy:Mem.with _ _ _ _ y=_:=hy
     refine⟨_,_,_,_,rfl,?_⟩
     unfold Mem.with at hy
     split at hy
     ·rename_i hc;exact hc.2.2
     ·have:=World.block_lt_of_cell? w y (he.mem y v hy)
      have hb':y.block=w.heap.size:=hb'
      omega
    ·exact⟨rfl,_,_,_,_,set_self hid,by simp,λ_=>by simp[Gh.slv,Gh.ext]⟩
   cases nl with
   |true=>
    have:es=[]:=p4 rfl
    subst this
    simp only[Gh.slv,if_true] at hsv
    have hrun:=run_append_grow_src (P:=P) w t tx o.type e i z hu hi hz' none 0 0 [] (run_firstCells_none w.drew i.size 0 0 0) xv ns.length news (by rw[hisz];exact hS) (by omega) (by simp at g2 ⊢;omega) (by rw[hiby];have:=growslice_fits (need:=ns.length) (old:=0) (bytes:=bytes) (by omega) (by simpa using g1);simpa using this)
    simp only[Nat.zero_add,List.nil_append] at hrun
    have hge:=grownCap_ge w ns.length 0 e
    have hle:=grownCap_le_maxLen w ns.length 0 e (by unfold maxLen;simp at g2;omega)
    refine moves [] (grownCap w ns.length 0 e) (by simp) (by simpa using hge) hle (λ_ _ _ _ h=>by simp at h) ?_
    rw[hsv,hrun]
    simp
   |false=>
    obtain⟨ca,t',h6,h7,h8,h9,h10,h11⟩:=p5 rfl
    simp only[Gh.slv,Bool.false_eq_true,if_false] at hsv
    have hlc:es.length*sz'<=ca.size:=by rw[h7];exact Nat.mul_le_mul_right _ h8
    by_cases hroom:es.length+ns.length<=G.cap id
    ·have hfit:es.length*sz'+news.length<=ca.size:=by
      rw[k1,h7,<- Nat.add_mul];exact Nat.mul_le_mul_right _ hroom
     have hrun:=run_append_roomS (P:=P) (w:=w) t tx o.type e t' i hu hi (G.blk id) es.length (G.cap id) ca h6 xv ns.length news (by rw[hisz];exact hS) hroom (by rw[hisz];exact hfit)
     rw[hisz] at hrun
     have hk:Keeps G G id (os.set id (.arr (es++ns) sz' frz false)) (.arr es sz' frz false):=⟨_,frz,false,set_self hid,by simp,λ_=>⟨rfl,rfl,rfl⟩⟩
     have hoth:∀b',b'≠G.blk id->(w.setRow (G.blk id) (setR ca.toList (es.length*sz') news).toArray).heap[b']?=w.heap[b']?:=λb' hb'=>setRow_other w _ b' _ hb'
     have hMin:∀y u,M y=some u->y.block=G.blk id->y.off<frz*sz':=λy u hy hb'=>by
      obtain⟨es',sz'',frz',nl',h12,h13⟩:=he.sep id y u (Live.arr hid) hy hb'
      rw[hid] at h12;cases h12
      exact h13
     have hfs:frz*sz'<=es.length*sz':=Nat.mul_le_mul_right _ p3
     have hget:∀k,(setR ca.toList (es.length*sz') news).toArray[k]?=if k<es.length*sz' then ca[k]? else if k<es.length*sz'+news.length then news[k-es.length*sz']? else ca[k]?:=λk=>by
      rw[List.getElem?_toArray,setR_get _ _ _ (by simp;omega)]
      simp only[list_get]
     have hs':=since_upd he hid rfl (w':=w.setRow (G.blk id) (setR ca.toList (es.length*sz') news).toArray) rfl rfl rfl (by simp) hoth (λ_ _ h=>h) (λ_ _ h=>.inl h) hk
     refine ok_next (w':=w.setRow (G.blk id) (setR ca.toList (es.length*sz') news).toArray) (hex (by rw[hsv];exact hrun)) (env_upd he hid rfl rfl rfl rfl (by simp) hoth (λ_ _ h=>h) (λ_ _ h=>.inl h) hk (λ_ _=>rfl) (λy u hy hb'=>?_) (λy u hy hb'=>⟨_,_,_,_,rfl,hMin y u hy hb'⟩) ?_) hs' ?_ g4
     ·have hold:=he.mem y u hy
      have:=hMin y u hy hb'
      simp only[World.cell?,hb',h6,setRow_heap w _ ca _ t' _ h6] at hold ⊢
      rw[hget,if_pos (show y.off<es.length*sz' by omega)]
      exact hold
     ·refine⟨p1,λy hy=>?_,by simp;omega,λh=>(by cases h),λ_=>⟨_,t',setRow_heap w _ ca _ t' _ h6,?_,by simpa using hroom,h9,?_,λk hk'=>?_⟩⟩
      ·rcases List.mem_append.1 hy with h|h
       ·exact p2 y h
       ·exact g3 y h
      ·simp only[List.size_toArray]
       rw[setR_length _ _ _ (by simp;omega)]
       simpa using h7
      ·refine join_cells (olds:=ca.toList.take (es.length*sz')) (news:=news) (by simp;omega) (λi j y x hi hj=>?_) p2 g3 k4 (λk hk'=>?_)
       ·obtain⟨u,hu',hr⟩:=h10 i j y x hi hj
        have hi':=(List.getElem?_eq_some_iff.1 hi).1
        have hj':=(List.getElem?_eq_some_iff.1 hj).1
        rw[p2 y (List.mem_of_getElem? hi)] at hj'
        refine⟨u,?_,hr⟩
        rw[List.getElem?_take,if_pos (idx_lt hi' hj'),list_get]
        exact hu'
       ·rw[hget]
        rw[Nat.add_mul,<- k1] at hk'
        by_cases hk2:k<es.length*sz'
        ·rw[if_pos hk2,List.getElem?_append_left (by simp;omega),List.getElem?_take,if_pos hk2,list_get]
        ·rw[if_neg hk2,if_pos (by omega),List.getElem?_append_right (by simp;omega)]
         congr 1
         simp
         omega
      ·rw[h11 k hk',hget,if_pos (by omega)]
     ·exact⟨rfl,_,_,_,_,set_self hid,by simp,λ_=>by simp[Gh.slv]⟩
    ·have hge:=grownCap_ge w (es.length+ns.length) (G.cap id) e
     have hle:=grownCap_le_maxLen w (es.length+ns.length) (G.cap id) e (by unfold maxLen;omega)
     have hol:∀j v,(ca.toList.take (es.length*sz'))[j]?=some v->w.cell? ((⟨G.blk id,0,none⟩:Addr).add j)=some v:=λj v hj=>by
      rw[List.getElem?_take] at hj
      split at hj
      ·rw[add_none,Nat.zero_add]
       simp only[World.cell?,h6]
       simpa using hj
      ·cases hj
     have hrun:=run_append_grow_src (P:=P) w t tx o.type e i z hu hi hz' (some ⟨G.blk id,0,none⟩) es.length (G.cap id) (ca.toList.take (es.length*sz')) (run_firstCells_some w.drew i.size es.length ⟨G.blk id,0,none⟩ es.length (G.cap id) _ (by rw[hisz];simp;omega) (by simpa using hol)) xv ns.length news (by rw[hisz];exact hS) (by omega) (by omega) (by rw[hiby];exact growslice_fits (by omega) g1)
     refine moves (ca.toList.take (es.length*sz')) (grownCap w (es.length+ns.length) (G.cap id) e) (by simp;omega) hge hle (λi j y x hi hj=>?_) (by rw[hsv,hrun];simp[List.append_toArray])
     obtain⟨u,hu',hr⟩:=h10 i j y x hi hj
     have hi':=(List.getElem?_eq_some_iff.1 hi).1
     have hj':=(List.getElem?_eq_some_iff.1 hj).1
     rw[p2 y (List.mem_of_getElem? hi)] at hj'
     refine⟨u,?_,hr⟩
     rw[List.getElem?_take,if_pos (idx_lt hi' hj'),list_get]
     exact hu'
  ·exact h.elim
 ·exact h.elim
theorem appD_ok(he:Env M G os w){t tx e:TypeId}{base:Option Addr}{n:Nat}{xv:Value}{o:Oper}(hex:∀{v:Value} {w':World},(Builtin.append_ #[t,tx] o.type #[.slice base n n,xv]).run P w=.ok v w'->(execOp a.eval o).run P w=.ok (.value v) w')
  {sz bytes:Nat} {zs:List D} (hu:P.underlying t=some (.slice e)) (hs:tsz P e=some sz) (hby:tby P e=some bytes) (hz:tz P e=some zs) (hpos:0<sz) (hzl:zs.length=sz) {es ns:List (List D)} (hn:n=es.length) (hes:∀e∈es,e.length=sz) (hns:∀e∈ns,e.length=sz)
  {olds:List Value} (hS0:Src P sz t (.slice base n n) n olds w) (k0:∀(i j:Nat) e d,es[i]?=some e->e[j]?=some d->∃u,olds[i*sz+j]?=some u/\Rd M d u)
  {news:List Value} (hS:Src P sz tx xv ns.length news w) (k4:∀(i j:Nat) e d,ns[i]?=some e->e[j]?=some d->∃u,news[i*sz+j]?=some u/\Rd M d u)
  (g1:(es.length+ns.length)*bytes<=140737488355328) (g2:es.length+ns.length<=9223372036854775807) {r0:D} (hr0:Rd M r0 (.slice base n n)) (h:K (.d (if ns.isEmpty then r0 else .sl (es++ns))) os):OpOK P M G os w K (execOp a.eval o):=by
 obtain⟨i,hi,hisz⟩:=Option.map_eq_some_iff.1 hs
 obtain⟨i',hi',hiby⟩:=Option.map_eq_some_iff.1 hby
 rw[hi] at hi'
 cases hi'
 obtain⟨i2,z,hi2,hz',hrz⟩:=tz_info hz
 rw[hi] at hi2
 cases hi2
 obtain⟨z2,hz1,hz2,hz3⟩:=tz_zero (M:=M) hz
 have hzz:z=z2:=by
  have h4:=hrz w
  rw[hz1 w] at h4
  cases h4
  rfl
 subst hzz
 have hzs:z.cells.size=sz:=by omega
 have k1:=hS.newsLen
 have k2:=hS0.newsLen
 by_cases hn0:ns=[]
 ·subst hn0
  have hn1:news=[]:=List.length_eq_zero_iff.1 (by simpa using k1)
  subst hn1
  exact ok_value (r:=.d r0) he (hex (run_append_zeroS _ hu hs base n n hS (Nat.le_refl _))) hr0 h
 ·have hnp:0<ns.length:=by cases ns with|nil=>exact absurd rfl hn0|cons=>simp
  have hie:ns.isEmpty=false:=by cases ns with|nil=>exact absurd rfl hn0|cons=>rfl
  rw[hie] at h
  have hrun:=run_append_grow_src (P:=P) w t tx o.type e i z hu hi hz' base n n olds (by rw[hisz];exact hS0.cellsD) xv ns.length news (by rw[hisz];exact hS) (by omega) (by omega) (by rw[hiby];exact growslice_fits (by omega) (by rw[hn];exact g1))
  have hge:=grownCap_ge w (n+ns.length) n e
  generalize grownCap w (n+ns.length) n e=cap at hrun hge
  have he':=he.drew
  obtain⟨t1,t2,t3⟩:=env_ro he' ((olds++news).toArray++Builtin.zeroCells z.cells (cap-(n+ns.length))) e
  have hsize:((olds++news).toArray++Builtin.zeroCells z.cells (cap-(n+ns.length))).size=cap*sz:=by
   simp only[Array.size_append,List.size_toArray,List.length_append,size_zeroCells,hzs,k1,k2]
   rw[<- Nat.add_mul,<- Nat.add_mul]
   congr 1
   omega
  have hall:∀e∈es++ns,e.length=sz:=λy hy=>by
   rcases List.mem_append.1 hy with h|h
   ·exact hes y h
   ·exact hns y h
  have hjoin:=join_cells (M:=M) (ca:=(olds++news).toArray++Builtin.zeroCells z.cells (cap-(n+ns.length))) (by rw[k2,hn]) k0 hes hns k4 (λk hk=>by
   have:k<(olds++news).toArray.size:=by simp[k1,k2,hn,<- Nat.add_mul];omega
   rw[Array.getElem?_append_left this]
   simp)
  refine ok_next (hex hrun) t1 ((since_drew M G os w).trans t2) ?_ h
  have:=Rd.sl (M:=Mem.with M (w.drew.alloc (.cells ((olds++news).toArray++Builtin.zeroCells z.cells (cap-(n+ns.length))) e)) w.drew.heap.size ((olds++news).toArray++Builtin.zeroCells z.cells (cap-(n+ns.length))).size) (es++ns) w.heap.size 0 cap sz (λi j=>((((olds++news).toArray++Builtin.zeroCells z.cells (cap-(n+ns.length))))[i*sz+j]?).getD undef) (by rw[List.length_append];omega) hall (λi j hi hj=>?_) (λi j e x hi hj=>?_)
  ·rw[List.length_append,<- hn] at this;exact this
  ·rw[List.length_append] at hi
   have hk:i*sz+j<((olds++news).toArray++Builtin.zeroCells z.cells (cap-(n+ns.length))).size:=by rw[hsize];exact idx_lt (by omega) hj
   rw[Nat.zero_add]
   refine(t3 _ hk).trans ?_
   simp only[Array.getElem?_eq_getElem hk,Option.getD_some]
  ·obtain⟨u,hu',hr⟩:=hjoin i j e x hi hj
   simp only[hu',Option.getD_some]
   exact hr.mono t2.grow
theorem appDI_ok(he:Env M G os w){t tx e:TypeId}{s:AV}{sv xv:Value}{o:Oper}(hex:∀{v:Value} {w':World},(Builtin.append_ #[t,tx] o.type #[sv,xv]).run P w=.ok v w'->(execOp a.eval o).run P w=.ok (.value v) w')
  (e1:VA M G os s sv) {sz bytes:Nat} {zs:List D} (hu:P.underlying t=some (.slice e)) (hs:tsz P e=some sz) (hby:tby P e=some bytes) (hz:tz P e=some zs) (hpos:0<sz) (hzl:zs.length=sz) {ns:List (List D)}
  (hsrc:(∀e∈ns,e.length=sz)->∃news,Src P sz tx xv ns.length news w/\∀(i j:Nat) e d,ns[i]?=some e->e[j]?=some d->∃u,news[i*sz+j]?=some u/\Rd M d u)
  (h:appDI os sz bytes s ns λr=>K r os):OpOK P M G os w K (execOp a.eval o):=by
 unfold appDI at h
 split at h
 ·rename_i es
  obtain⟨g1,g2,g3,g4,g5⟩:=h
  obtain⟨f1,ad,rfl⟩:=e1
  obtain⟨news,hS,k4⟩:=hsrc g1
  obtain⟨ns',hK,hsr⟩:=news_src (P:=P) (sz:=sz) (K:=λy=>y=es) (x:=.full es) he hu (v:=.slice (some ad) es.length es.length) ⟨f1,ad,rfl⟩ rfl
  subst hK
  obtain⟨olds,hS0,k0⟩:=hsr g2
  refine appD_ok (r0:=.sl ns') he hex hu hs hby hz hpos hzl rfl g2 g1 hS0 k0 hS k4 g3 g4 f1 ?_
  cases ns with
  |nil=>simpa using g5
  |cons=>exact g5
 ·obtain⟨g1,g3,g4,g5⟩:=h
  obtain⟨news,hS,k4⟩:=hsrc g1
  have hsv:sv=.slice none 0 0:=by
   cases(va_d e1) with
   |lit _ _=>rfl
  subst hsv
  refine appD_ok (r0:=.nil) (es:=[]) he hex hu hs hby hz hpos hzl rfl (λ_ h=>by cases h) g1 (Src.ofNil w hu 0) (λ_ _ _ _ h=>by simp at h) hS k4 (by simpa using g3) (by simpa using g4) Rd.nil ?_
  simpa using g5
 ·exact h.elim
theorem grow_run{t tx e:TypeId}{base:Option Addr}{n:Nat}{xv:Value}{o:Oper}
  {sz bytes:Nat} {zs:List D} (hu:P.underlying t=some (.slice e)) (hs:tsz P e=some sz) (hby:tby P e=some bytes) (hz:tz P e=some zs) (hpos:0<sz) (hzl:zs.length=sz) {es ns:List (List D)} (hn:n=es.length) (hes:∀e∈es,e.length=sz) (hns:∀e∈ns,e.length=sz)
  {olds:List Value} (hS0:Src P sz t (.slice base n n) n olds w) (k0:∀(i j:Nat) e d,es[i]?=some e->e[j]?=some d->∃u,olds[i*sz+j]?=some u/\Rd M d u)
  {news:List Value} (hS:Src P sz tx xv ns.length news w) (k4:∀(i j:Nat) e d,ns[i]?=some e->e[j]?=some d->∃u,news[i*sz+j]?=some u/\Rd M d u)
  (g1:(es.length+ns.length)*bytes<=140737488355328) (g2:es.length+ns.length<=9223372036854775807) (hn0:ns≠[]) :
  ∃cap ca,(Builtin.append_ #[t,tx] o.type #[.slice base n n,xv]).run P w=.ok (.slice (some ⟨w.heap.size,0,none⟩) (es.length+ns.length) cap) (w.drew.alloc (.cells ca e))/\
   ∀(id:Nat) (os':List AO),OR M (G.ext id w.heap.size cap) os' (w.drew.alloc (.cells ca e)) id (.arr (es++ns) sz 0 false):=by
 obtain⟨i,hi,hisz⟩:=Option.map_eq_some_iff.1 hs
 obtain⟨i',hi',hiby⟩:=Option.map_eq_some_iff.1 hby
 rw[hi] at hi'
 cases hi'
 obtain⟨i2,z,hi2,hz',hrz⟩:=tz_info hz
 rw[hi] at hi2
 cases hi2
 obtain⟨z2,hz1,hz2,hz3⟩:=tz_zero (M:=M) hz
 have hzz:z=z2:=by
  have h4:=hrz w
  rw[hz1 w] at h4
  cases h4
  rfl
 subst hzz
 have hzs:z.cells.size=sz:=by omega
 have k1:=hS.newsLen
 have k2:=hS0.newsLen
 have hnp:0<ns.length:=by cases ns with|nil=>exact absurd rfl hn0|cons=>simp
 have hrun:=run_append_grow_src (P:=P) w t tx o.type e i z hu hi hz' base n n olds (by rw[hisz];exact hS0.cellsD) xv ns.length news (by rw[hisz];exact hS) (by omega) (by omega) (by rw[hiby];exact growslice_fits (by omega) (by rw[hn];exact g1))
 have hge:=grownCap_ge w (n+ns.length) n e
 have hle:=grownCap_le_maxLen w (n+ns.length) n e (by unfold maxLen;omega)
 generalize grownCap w (n+ns.length) n e=cap at hrun hge hle
 refine⟨cap,_,by rw[<- hn];exact hrun,λid os'=>?_⟩
 refine⟨hpos,λy hy=>?_,Nat.zero_le _,λh=>(by cases h),λ_=>⟨_,e,by rw[ext_blk];exact heap_new w.drew _,?_,by rw[ext_cap];simp;omega,by rw[ext_cap];exact hle,λi j y x hi hj=>?_,λk hk=>by omega⟩⟩
 ·rcases List.mem_append.1 hy with h|h
  ·exact hes y h
  ·exact hns y h
 ·rw[ext_cap]
  simp only[Array.size_append,List.size_toArray,List.length_append,size_zeroCells,hzs,k1,k2]
  rw[<- Nat.add_mul,<- Nat.add_mul]
  congr 1
  omega
 ·refine join_cells (M:=M) (olds:=olds) (news:=news) (by rw[k2,hn]) k0 hes hns k4 (λk hk=>?_) i j y x hi hj
  have:k<(olds++news).toArray.size:=by simp[k1,k2,hn,<- Nat.add_mul];omega
  rw[Array.getElem?_append_left this]
  simp
theorem full_src(he:Env M G os w){es:List (List D)}{v:Value}{t e:TypeId}{sz:Nat}(hu:P.underlying t=some (.slice e))(hv:VA M G os (.full es) v)(hes:∀e∈es,e.length=sz) :
  ∃ad olds,v=.slice (some ad) es.length es.length/\Src P sz t (.slice (some ad) es.length es.length) es.length olds w/\∀(i j:Nat) e d,es[i]?=some e->e[j]?=some d->∃u,olds[i*sz+j]?=some u/\Rd M d u:=by
 obtain⟨f1,ad,rfl⟩:=hv
 obtain⟨ns',hK,hsr⟩:=news_src (P:=P) (sz:=sz) (K:=λy=>y=es) (x:=.full es) he hu (v:=.slice (some ad) es.length es.length) ⟨f1,ad,rfl⟩ rfl
 subst hK
 obtain⟨olds,hS0,k0⟩:=hsr hes
 exact⟨ad,olds,rfl,hS0,k0⟩
theorem appXI_ok(he:Env M G os w){t tx e:TypeId}{s:AV}{sv xv:Value}{o:Oper}(hex:∀{v:Value} {w':World},(Builtin.append_ #[t,tx] o.type #[sv,xv]).run P w=.ok v w'->(execOp a.eval o).run P w=.ok (.value v) w')
  (e1:VA M G os s sv) {sz bytes:Nat} {zs:List D} (hu:P.underlying t=some (.slice e)) (hs:tsz P e=some sz) (hby:tby P e=some bytes) (hz:tz P e=some zs) (hpos:0<sz) (hzl:zs.length=sz) {ns:List (List D)}
  (hsrc:(∀e∈ns,e.length=sz)->∃news,Src P sz tx xv ns.length news w/\∀(i j:Nat) e d,ns[i]?=some e->e[j]?=some d->∃u,news[i*sz+j]?=some u/\Rd M d u)
  (h:appXI os sz bytes s ns K):OpOK P M G os w K (execOp a.eval o):=by
 unfold appXI at h
 split at h
 ·rename_i es
  obtain⟨g1,g2,g3,g4,g5,g6⟩:=h
  obtain⟨news,hS,k4⟩:=hsrc g1
  obtain⟨ad,olds,rfl,hS0,k0⟩:=full_src he hu e1 g2
  obtain⟨cap,ca,hrun,hor⟩:=grow_run (M:=M) (G:=G) (o:=o) hu hs hby hz hpos hzl rfl g2 g1 hS0 k0 hS k4 g3 g4 g5
  have he':=he.drew
  have hnew:=since_new he' (.arr (es++ns) sz 0 false) (.cells ca e) cap
  refine ok_next (hex hrun) (env_new he' (.arr (es++ns) sz 0 false) (.cells ca e) cap (λa v=>cell_alloc_old a v) (hor _ _) (λ_ _ _ _ _ h=>by cases h;rfl)) ((since_drew M G os w).trans hnew) ?_ g6
  exact⟨rfl,_,_,_,_,snoc_self ..,by simp,λ_=>by simp[Gh.slv,Gh.ext]⟩
 ·have hsv:sv=.slice none 0 0:=by
   cases(va_d e1) with
   |lit _ _=>rfl
  subst hsv
  exact appI_ok he hex (s:=.d .nil) Rd.nil hu hs hby hz hpos hzl hsrc h
 ·exact appI_ok he hex e1 hu hs hby hz hpos hzl hsrc h
theorem ok_app(he:Env M G os w)(ht:Tmps M G os ρ a){o:Oper}{t e:TypeId}{s x:Operand}{s' x':Opd}{sz bytes:Nat}{zs:List D}{c:Call}(ho:o.op=.call c)(hb:c.callee=.builtin .append)(hargs:c.args=#[s,x])(hts:c.argTypes=#[t,t])
  (hsx:cO s=some s') (hx:cO x=some x') (hu:P.underlying t=some (.slice e)) (hs:tsz P e=some sz) (hby:tby P e=some bytes) (hz:tz P e=some zs) (hpos:0<sz) (hzl:zs.length=sz)
  (h:opI P ρ os K (.app sz bytes s' x')):OpOK P M G os w K (execOp a.eval o):=by
 have e1:=cO_ev ht hsx
 have e2:=cO_ev ht hx
 have hex:∀{v:Value} {w':World},(Builtin.append_ #[t,t] o.type #[a.eval s,a.eval x]).run P w=.ok v w'->(execOp a.eval o).run P w=.ok (.value v) w':=λhr=>by
  simp[execOp,ho,hb,hargs,hts,resolve,invoke,builtin,hr]
 simp only[opI] at h
 split at h
 ·rename_i id2 len2 hx2
  split at h
  ·rename_i ns sz2 ho2
   exact ok_appr he ht ho hb hargs hts hsx hx hu hs hby hz hpos hzl hx2 ho2 h.1 h.2.1 h.2.2
  ·exact h.elim
 obtain⟨ns,h,hnews⟩:=news_src (sz:=sz) he hu e2 h
 exact appXI_ok he hex e1 hu hs hby hz hpos hzl hnews h
theorem ok_apps(he:Env M G os w)(ht:Tmps M G os ρ a){o:Oper}{t tx e:TypeId}{s x:Operand}{s' x':Opd}{sz bytes:Nat}{zs:List D}{c:Call}(ho:o.op=.call c)(hb:c.callee=.builtin .append)(hargs:c.args=#[s,x])(hts:c.argTypes=#[t,tx])
  (hsx:cO s=some s') (hx:cO x=some x') (hu:P.underlying t=some (.slice e)) (htx:P.underlying tx=some .string) (hs:tsz P e=some sz) (hby:tby P e=some bytes) (hz:tz P e=some zs) (h1:sz=1) (hzl:zs.length=sz)
  (h:opI P ρ os K (.ex (.apps sz bytes) [s',x'])):OpOK P M G os w K (execOp a.eval o):=by
 have e1:=cO_ev ht hsx
 have e2:=cO_ev ht hx
 have hex:∀{v:Value} {w':World},(Builtin.append_ #[t,tx] o.type #[a.eval s,a.eval x]).run P w=.ok v w'->(execOp a.eval o).run P w=.ok (.value v) w':=λhr=>by
  simp[execOp,ho,hb,hargs,hts,resolve,invoke,builtin,hr]
 have h:exI os K (.apps sz bytes) [evO ρ s',evO ρ x']:=h
 cases hx2:evO ρ x' with
 |d y=>
  cases y with
  |str t'=>
   rw[hx2] at h e2
   have h:appI os sz bytes (evO ρ s') (byteL t') K:=h
   rw[va_str e2] at hex
   subst h1
   exact appI_ok he hex e1 hu hs hby hz (by omega) hzl (λ_=>string_src htx) h
  |_=>rw[hx2] at h;exact(show False from h).elim
 |_=>rw[hx2] at h;exact(show False from h).elim
theorem ok_appd(he:Env M G os w)(ht:Tmps M G os ρ a){o:Oper}{t e:TypeId}{s x:Operand}{s' x':Opd}{sz bytes:Nat}{zs:List D}{c:Call}(ho:o.op=.call c)(hb:c.callee=.builtin .append)(hargs:c.args=#[s,x])(hts:c.argTypes=#[t,t])
  (hsx:cO s=some s') (hx:cO x=some x') (hu:P.underlying t=some (.slice e)) (hs:tsz P e=some sz) (hby:tby P e=some bytes) (hz:tz P e=some zs) (hpos:0<sz) (hzl:zs.length=sz)
  (h:opI P ρ os K (.ex (.appd sz bytes) [s',x'])):OpOK P M G os w K (execOp a.eval o):=by
 have e1:=cO_ev ht hsx
 have e2:=cO_ev ht hx
 have hex:∀{v:Value} {w':World},(Builtin.append_ #[t,t] o.type #[a.eval s,a.eval x]).run P w=.ok v w'->(execOp a.eval o).run P w=.ok (.value v) w':=λhr=>by
  simp[execOp,ho,hb,hargs,hts,resolve,invoke,builtin,hr]
 have h:newsI os (evO ρ x') (λns=>appDI os sz bytes (evO ρ s') ns λr=>K r os):=h
 obtain⟨ns,h,hnews⟩:=news_src (sz:=sz) he hu e2 h
 exact appDI_ok he hex e1 hu hs hby hz hpos hzl hnews h
end
end Go.Bi
