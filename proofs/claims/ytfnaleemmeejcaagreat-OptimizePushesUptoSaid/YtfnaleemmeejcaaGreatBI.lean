/- Soundness of append. No condition. -/
import Derived.Test.YtfnaleemmeejcaaGreatBH
set_option linter.unusedVariables false
namespace Go.Bi
set_option linter.unusedSectionVars false
variable [N0]
section
variable {P:Program}{M:D4}{G:Gh}{os:List AO}{w:World}{ρ:D5}{a:Act}{K:AV->List AO->Prop}
theorem A3S(os:List AO)(o:AO):(os++[o])[os.length]?=some o:=by simp
theorem X7{os:List AO}{id:Nat}{o o':AO}(h:os[id]?=some o):(os.set id o')[id]?=some o':=by
 simp[(B4.1 h).1]
theorem A9C{t e:TypeId}{sz:Nat}(ty:TypeId)(hu:P.underlying t=some (.slice e))(hs:M3 P e=some sz)(sb xb:Option Addr)(n cap c:Nat)(hn:n<=cap)(w:World) :
  (Builtin.append_ #[t,t] ty #[.slice sb n cap,.slice xb 0 c]).run P w=.ok (.slice sb n cap) w:=by
 have hf:∀w,(Builtin.firstCells sz 0 (.slice xb 0 c)).run P w=.ok #[] w:=λw=>by
  cases xb with
  |none=>simp[Builtin.firstCells]
  |some x=>simpa using run_firstCells_some (P:=P) w sz 0 x 0 c [] (by simp) (λj v h=>by simp at h)
 cases sb<;>simp[Builtin.append_,run_underlying hu,j9 hs,Builtin.lenOf,hn,hf,storeCells]
theorem C3x(t ty e e':TypeId)(i:TypeInfo)(ht:P.underlying t=some (.slice e))(hi:P.info? e=some i)
  (g sLen sCap:Nat) (cur:Array Value) (hg:w.heap[g]?=some (.cells cur e' (0,0)))
  (a:Addr) (m c:Nat) (news:List Value) (hl:news.length=m*i.size) (hnews:∀j u,news[j]?=some u->w.cell? (a.add j)=some u) (h1:∀u∈news,u.oneCell'=true)
  (hroom:sLen+m<=sCap) (hfit:sLen*i.size+news.length<=cur.size) :
  (Builtin.append_ #[t,t] ty #[.slice (some ⟨g,0,none⟩) sLen sCap,.slice (some a) m c]).run P w =
   .ok (.slice (some ⟨g,0,none⟩) (sLen+m) sCap) (w.setRow g (I6 cur.toList (sLen*i.size) news).toArray):=by
 have hf:=run_firstCells_some (P:=P) w i.size m a m c news hl hnews
 have hst:=run_storeCells_at P g (sLen*i.size) e' news 0 cur w hg (by simpa using hfit) h1
 simp only[A3d] at hst
 simp[Builtin.append_,run_underlying ht,sizeOf,typeInfo,hi,Builtin.lenOf,hroom,hf,Addr.add_lit,hst,I6]
theorem D7E(he:C9 M G os w){x:AV}{v:Value}{sz:Nat}{K:List (List D)->Prop}(hv:VA M G os x v)(h:p7 os x K) :
  ∃ns,K ns/\((ns=[]/\∃xb c,v=.slice xb 0 c)\/∃b o c,v=.slice (some ⟨b,o,none⟩) ns.length c/\
   ((∀e∈ns,e.length=sz)->∀(i j:Nat) e d,ns[i]?=some e->e[j]?=some d->∃u,w.cell? ⟨b,o+(i*sz+j),none⟩=some u/\Rd M d u)):=by
 unfold p7 at h
 split at h
 ·exact⟨[],h,.inl ⟨rfl,_,_,A1R hv⟩⟩
 ·rename_i es
  cases A2p hv with
  |sle _ _=>exact⟨[],h,.inl ⟨rfl,_,_,rfl⟩⟩
  |sl _ b o cap sz' cv hcap hsz hc hr=>
   refine⟨es,h,.inr ?_⟩
   refine⟨b,o,cap,rfl,λhall i j e d hi hj=>?_⟩
   have hi':=(B4.1 hi).1
   have hj':=(B4.1 hj).1
   have q1:=hsz e (C3 hi)
   have q2:=hall e (C3 hi)
   have:sz'=sz:=by omega
   subst this
   exact⟨_,he.mem _ _ (hc i j hi' (by omega)),hr i j e d hi hj⟩
 ·rename_i id len
  split at h
  ·rename_i es sz' frz nl h1
   obtain⟨_,es',sz'',frz',nl',h2,h3,h4⟩:=hv
   rw[h1] at h2
   cases h2
   have hv:=h4 h.1
   obtain⟨g1,g2,g3,g4,g5⟩:=he.obj id _ h1
   cases nl with
   |true=>
    have:es=[]:=g4 rfl
    subst this
    exact⟨[],h.2,.inl ⟨rfl,_,_,by simpa[Gh.slv] using hv⟩⟩
   |false=>
    obtain⟨ca,t,h6,h7,h8,h9,h10,h11⟩:=g5 rfl
    refine⟨es,h.2,.inr ⟨G.blk id,0,G.cap id,by simpa[Gh.slv] using hv,λhall i j e d hi hj=>?_⟩⟩
    have q1:=g2 e (C3 hi)
    have q2:=hall e (C3 hi)
    have:sz'=sz:=by omega
    subst this
    obtain⟨u,hu,hr⟩:=h10 i j e d hi hj
    exact⟨u,by simpa[World.cell?,h6] using hu,hr⟩
  ·exact h.elim
 ·exact h.elim
theorem C1G{ns:List (List D)}{sz:Nat}(hall:∀e∈ns,e.length=sz){b o:Nat}
  (h:∀(i j:Nat) e d,ns[i]?=some e->e[j]?=some d->∃u,w.cell? ⟨b,o+(i*sz+j),none⟩=some u/\Rd M d u) :
  ∃news:List Value,news.length=ns.length*sz/\(∀j u,news[j]?=some u->w.cell? ((⟨b,o,none⟩:Addr).add j)=some u)/\(∀u∈news,u.oneCell'=true)/\
   ∀(i j:Nat) e d,ns[i]?=some e->e[j]?=some d->∃u,news[i*sz+j]?=some u/\Rd M d u:=by
 let news:List Value:=(List.range (ns.length*sz)).map λk=>(w.cell? ⟨b,o+k,none⟩).getD undef
 have hlen:news.length=ns.length*sz:=by simp[news]
 have key:∀k,k<ns.length*sz->∃u d,w.cell? ⟨b,o+k,none⟩=some u/\Rd M d u:=λk hk=>by
  have hsz:0<sz:=by
   rcases Nat.eq_zero_or_pos sz with h0|h0
   ·subst h0;simp at hk
   ·exact h0
  have hi:k / sz<ns.length:=Nat.div_lt_of_lt_mul (by rw[Nat.mul_comm];exact hk)
  have hj:k % sz<(ns[k / sz]).length:=by rw[hall _ (A2z hi)];exact Nat.mod_lt _ hsz
  obtain⟨u,hu,hr⟩:=h (k / sz) (k % sz) _ _ (F4 hi) (F4 hj)
  rw[Nat.mul_comm,Nat.div_add_mod] at hu
  exact⟨u,_,hu,hr⟩
 have hget:∀k u,news[k]?=some u->w.cell? ⟨b,o+k,none⟩=some u:=λk u hk=>by
  have hlt:k<ns.length*sz:=by rw[<- hlen];exact(B4.1 hk).1
  obtain⟨u',d,hu',_⟩:=key k hlt
  have:news[k]?=some ((w.cell? ⟨b,o+k,none⟩).getD undef):=by simp[news,hlt]
  rw[this,hu'] at hk
  cases hk
  exact hu'
 refine⟨news,hlen,λj u hj=>by rw[A1o];exact hget j u hj,λu hu=>?_,λi j e d hi hj=>?_⟩
 ·obtain⟨k,hk,rfl⟩:=A1n.1 hu
  obtain⟨u',d,hu',hr⟩:=key k (by rw[<- hlen];exact hk)
  have:=hget k _ (F4 hk)
  rw[hu'] at this
  cases this
  exact hr.oneCell
 ·obtain⟨u,hu,hr⟩:=h i j e d hi hj
  have hi':=(B4.1 hi).1
  have hj':=(B4.1 hj).1
  rw[hall e (C3 hi)] at hj'
  have hlt:i*sz+j<news.length:=by rw[hlen];exact j4 hi' hj'
  refine⟨news[i*sz+j],F4 hlt,?_⟩
  have:=hget _ _ (F4 hlt)
  rw[hu] at this
  cases this
  exact hr
theorem C2d{es ns:List (List D)}{sz:Nat}{ca:Array Value}{olds news:List Value}(ho:olds.length=es.length*sz)(hol:∀(i j:Nat) e x,es[i]?=some e->e[j]?=some x->∃u,olds[i*sz+j]?=some u/\Rd M x u)
  (hel:∀e∈es,e.length=sz) (hnl:∀e∈ns,e.length=sz) (hn:∀(i j:Nat) e x,ns[i]?=some e->e[j]?=some x->∃u,news[i*sz+j]?=some u/\Rd M x u)
  (hca:∀k,k<(es.length+ns.length)*sz->ca[k]?=(olds++news)[k]?) :
  ∀(i j:Nat) e x,(es++ns)[i]?=some e->e[j]?=some x->∃u,ca[i*sz+j]?=some u/\Rd M x u:=by
 intro i j e x hi hj
 have hilt:=(B4.1 hi).1
 have hjlt:=(B4.1 hj).1
 have hes:e.length=sz:=by
  rcases K8.1 (C3 hi) with h|h
  ·exact hel e h
  ·exact hnl e h
 rw[hca _ (j4 (by simpa using hilt) (by omega))]
 by_cases h:i<es.length
 ·rw[P8 h] at hi
  rw[P8 (by rw[ho];exact j4 h (by omega))]
  exact hol i j e x hi hj
 ·rw[W4 (by omega)] at hi
  have h2:es.length*sz<=i*sz:=i6 _ (by omega)
  rw[W4 (by rw[ho];omega),ho]
  obtain⟨u,hu,hr⟩:=hn (i-es.length) j e x hi hj
  refine⟨u,?_,hr⟩
  rw[<- hu]
  congr 1
  rw[Nat.sub_mul]
  omega
theorem D6m{C:Type}{R:C->Value->Prop}(hone:∀c u,R c u->u.oneCell'=true){ns:List (List C)}{sz:Nat}(hall:∀e∈ns,e.length=sz){b o:Nat}
  (h:∀(i j:Nat) e d,ns[i]?=some e->e[j]?=some d->∃u,w.cell? ⟨b,o+(i*sz+j),none⟩=some u/\R d u) :
  ∃news:List Value,news.length=ns.length*sz/\(∀j u,news[j]?=some u->w.cell? ((⟨b,o,none⟩:Addr).add j)=some u)/\(∀u∈news,u.oneCell'=true)/\
   ∀(i j:Nat) e d,ns[i]?=some e->e[j]?=some d->∃u,news[i*sz+j]?=some u/\R d u:=by
 let news:List Value:=(List.range (ns.length*sz)).map λk=>(w.cell? ⟨b,o+k,none⟩).getD undef
 have hlen:news.length=ns.length*sz:=by simp[news]
 have key:∀k,k<ns.length*sz->∃u d,w.cell? ⟨b,o+k,none⟩=some u/\R d u:=λk hk=>by
  have hsz:0<sz:=by
   rcases Nat.eq_zero_or_pos sz with h0|h0
   ·subst h0;simp at hk
   ·exact h0
  have hi:k / sz<ns.length:=Nat.div_lt_of_lt_mul (by rw[Nat.mul_comm];exact hk)
  have hj:k % sz<(ns[k / sz]).length:=by rw[hall _ (A2z hi)];exact Nat.mod_lt _ hsz
  obtain⟨u,hu,hr⟩:=h (k / sz) (k % sz) _ _ (F4 hi) (F4 hj)
  rw[Nat.mul_comm,Nat.div_add_mod] at hu
  exact⟨u,_,hu,hr⟩
 have hget:∀k u,news[k]?=some u->w.cell? ⟨b,o+k,none⟩=some u:=λk u hk=>by
  have hlt:k<ns.length*sz:=by rw[<- hlen];exact(B4.1 hk).1
  obtain⟨u',d,hu',_⟩:=key k hlt
  have:news[k]?=some ((w.cell? ⟨b,o+k,none⟩).getD undef):=by simp[news,hlt]
  rw[this,hu'] at hk
  cases hk
  exact hu'
 refine⟨news,hlen,λj u hj=>by rw[A1o];exact hget j u hj,λu hu=>?_,λi j e d hi hj=>?_⟩
 ·obtain⟨k,hk,rfl⟩:=A1n.1 hu
  obtain⟨u',d,hu',hr⟩:=key k (by rw[<- hlen];exact hk)
  have:=hget k _ (F4 hk)
  rw[hu'] at this
  cases this
  exact hone _ _ hr
 ·obtain⟨u,hu,hr⟩:=h i j e d hi hj
  have hi':=(B4.1 hi).1
  have hj':=(B4.1 hj).1
  rw[hall e (C3 hi)] at hj'
  have hlt:i*sz+j<news.length:=by rw[hlen];exact j4 hi' hj'
  refine⟨news[i*sz+j],F4 hlt,?_⟩
  have:=hget _ _ (F4 hlt)
  rw[hu] at this
  cases this
  exact hr
theorem C2e{C:Type}{R:C->Value->Prop}{es ns:List (List C)}{sz:Nat}{ca:Array Value}{olds news:List Value}(ho:olds.length=es.length*sz)(hol:∀(i j:Nat) e x,es[i]?=some e->e[j]?=some x->∃u,olds[i*sz+j]?=some u/\R x u)
  (hel:∀e∈es,e.length=sz) (hnl:∀e∈ns,e.length=sz) (hn:∀(i j:Nat) e x,ns[i]?=some e->e[j]?=some x->∃u,news[i*sz+j]?=some u/\R x u)
  (hca:∀k,k<(es.length+ns.length)*sz->ca[k]?=(olds++news)[k]?) :
  ∀(i j:Nat) e x,(es++ns)[i]?=some e->e[j]?=some x->∃u,ca[i*sz+j]?=some u/\R x u:=by
 intro i j e x hi hj
 have hilt:=(B4.1 hi).1
 have hjlt:=(B4.1 hj).1
 have hes:e.length=sz:=by
  rcases K8.1 (C3 hi) with h|h
  ·exact hel e h
  ·exact hnl e h
 rw[hca _ (j4 (by simpa using hilt) (by omega))]
 by_cases h:i<es.length
 ·rw[P8 h] at hi
  rw[P8 (by rw[ho];exact j4 h (by omega))]
  exact hol i j e x hi hj
 ·rw[W4 (by omega)] at hi
  have h2:es.length*sz<=i*sz:=i6 _ (by omega)
  rw[W4 (by rw[ho];omega),ho]
  obtain⟨u,hu,hr⟩:=hn (i-es.length) j e x hi hj
  refine⟨u,?_,hr⟩
  rw[<- hu]
  congr 1
  rw[Nat.sub_mul]
  omega
theorem A8T(he:C9 M G os w)(sz:Nat)(hsz:0<sz):C9 M G (os++[.arr [] sz 0 true]) w/\G7 M G os w M G (os++[.arr [] sz 0 true]) w:=by
 have hlv:∀i,H6 (os++[.arr [] sz 0 true]) i->H6 os i:=λi hi=>by
  rcases A72 hi with h|⟨_,h⟩
  ·exact h
  ·cases h
 have hs:G7 M G os w M G (os++[.arr [] sz 0 true]) w:={
  sys:=rfl,tape:=rfl,output:=rfl,size:=D3 _,frame:=λ_ _ _=>rfl,grow:=λ_ _ h=>h,fresh:=λ_ _ h=>.inl h
  own:=λi hi=>.inr ⟨i,hlv i hi,rfl⟩
  keep:=λi o ho=>P4.same (by rw[P8 (B4.1 ho).1];exact ho) rfl rfl}
 refine⟨⟨he.mem,λid o ho=>?_,λi j hi hj=>he.inj i j (hlv i hi) (hlv j hj),λi x v hi hx hb=>?_,A29 hs he.glb⟩,hs⟩
 ·rcases Nat.lt_trichotomy id os.length with h1|h1|h1
  ·rw[P8 h1] at ho
   exact OR.since hs (he.obj id o ho) rfl rfl rfl (λ_ _=>rfl)
  ·subst h1
   simp at ho
   subst ho
   exact⟨hsz,λ_ h=>(by cases h),D3 _,λ_=>rfl,λh=>by cases h⟩
  ·rw[W4 (by omega),A1m (by simp;omega)] at ho
   cases ho
 ·obtain⟨es,sz',frz,nl,h1,h2⟩:=he.sep i x v (hlv i hi) hx hb
  exact⟨es,sz',frz,nl,by rw[P8 (B4.1 h1).1];exact h1,h2⟩
theorem D7M(he:C9 M G os w)(ht:J3 M G os ρ a){o:Oper}{t e:TypeId}{s x:Operand}{s' x':C1}{sz bytes:Nat}{zs:List D}{c:Call}(ho:o.op=.call c)(hb:c.callee=.builtin .append)(hargs:c.args=#[s,x])(hts:c.argTypes=#[t,t])
  (hsx:cO s=some s') (hx:cO x=some x') (hu:P.underlying t=some (.slice e)) (hs:M3 P e=some sz) (hby:tby P e=some bytes) (hz:tz P e=some zs) (hpos:0<sz) (hzl:zs.length=sz)
  {id2 n8:Nat} (hx2:C0 ρ x'=.rs id2 n8) {ns:List (List AV)} {sz2:Nat} (ho2:os[id2]?=some (.rarr ns sz2 false)) (hl2:n8=ns.length) (hn2:0<ns.length) (h:A1q os sz bytes (C0 ρ s') ns K):G6 P M G os w K (execOp a.eval o):=by
 have e1:=I8 ht hsx
 have e2:=I8 ht hx
 obtain⟨i,hi,hisz⟩:=J7.1 hs
 obtain⟨i',hi',hiby⟩:=J7.1 hby
 rw[hi] at hi'
 cases hi'
 obtain⟨i2,z,hi2,hz',hrz⟩:=B3h hz
 rw[hi] at hi2
 cases hi2
 obtain⟨z2,hz1,hz2,hz3⟩:=A30 (M:=M) hz
 have hzz:z=z2:=by
  have h4:=hrz w
  rw[hz1 w] at h4
  cases h4
  rfl
 subst hzz
 have hzs:z.cells.size=sz:=by omega
 have hex:∀{v:Value} {w':World},(Builtin.append_ #[t,t] o.type #[a.eval s,a.eval x]).run P w=.ok v w'->(execOp a.eval o).run P w=.ok (.value v) w':=λhr=>by
  simp[execOp,ho,hb,hargs,hts,resolve,invoke,builtin,hr]
 -- the new elements
 rw[hx2] at e2
 obtain⟨_,ns',sz2',nl2',b1,b2,b3⟩:=e2
 rw[ho2] at b1
 cases b1
 have hxv:=b3 hl2
 simp only[Gh.slv,O2,if_false] at hxv
 obtain⟨_,c2,_,c4⟩:=he.obj id2 _ ho2
 obtain⟨ca2,t2,d6,d7,d8,d9,d10⟩:=c4 rfl
 unfold A1q at h
 split at h
 rotate_left
 ·exact h.elim
 rename_i id len hse
 rw[hse] at e1
 split at h
 rotate_left
 ·exact h.elim
 rename_i es sz' nl hid
 obtain⟨g0,rfl,g1,g2,g3,g4⟩:=h
 have hszz:sz2=sz':=by
  have q1:=c2 _ (A2z hn2)
  have q2:=g3 _ (A2z hn2)
  omega
 subst hszz
 obtain⟨news,k1,k2,k3,k4⟩:=D6m (w:=w) (R:=VC M G os) (λ_ _ h=>VC.oneCell h) g3 (b:=G.blk id2) (o:=0) (λi j e d hi hj=>by
  obtain⟨u,hu,hr⟩:=d10 i j e d hi hj
  exact⟨u,by simpa[World.cell?,d6] using hu,hr⟩)
 obtain⟨_,es',sz'',nl',f1,f2,f3⟩:=e1
 rw[hid] at f1
 cases f1
 have hsv:=f3 g0
 obtain⟨p1,p2,p4,p5⟩:=he.obj id _ hid
 have hie:(nl&&ns.isEmpty)=false:=by cases ns with|nil=>simp at hn2|cons=>simp
 rw[hie] at g4
 have he':=he.drew
 have moves:∀(olds:List Value) (cap:Nat),olds.length=es.length*sz2->es.length+ns.length<=cap->cap<=maxLen->(∀(i j:Nat) e x,es[i]?=some e->e[j]?=some x->∃u,olds[i*sz2+j]?=some u/\VC M G os x u)->
   (Builtin.append_ #[t,t] o.type #[a.eval s,a.eval x]).run P w=.ok (.slice (some ⟨w.heap.size,0,none⟩) (es.length+ns.length) cap) (w.drew.alloc (.cells (olds.toArray++news.toArray++Builtin.zeroCells z.cells (cap-(es.length+ns.length))) e))->
   G6 P M G os w K (execOp a.eval o):=by
  intro olds cap q1 q2 q3 q4 hrun
  let ca:=olds.toArray++news.toArray++Builtin.zeroCells z.cells (cap-(es.length+ns.length))
  have hk:P4 G (G.ext id w.drew.heap.size cap) id (os.set id (.rarr (es++ns) sz2 false)) (.rarr es sz2 nl):=⟨_,false,X7 hid,by simp,λhc=>by rw[H8] at hc;omega⟩
  have hmv:=A3R he' hid (.cells ca e) cap (λ_ _ h=>h) (λ_ _ h=>.inl h) hk
  have hno:∀y v,M y=some v->y.block=w.drew.heap.size->False:=λy v hy hb'=>by
   have:=World.block_lt_of_cell? w y (he.mem y v hy)
   have hb':y.block=w.heap.size:=hb'
   omega
  refine W1 (hex hrun) (B1R he' hid (.cells ca e) cap (λ_ _ h=>h) (λ_ _ h=>.inl h) hk (λ_ _=>rfl) (λy v hy hb'=>(hno y v hy hb').elim) (λy v hy hb'=>(hno y v hy hb').elim) ?_) ((A4x M G os w).trans hmv) ?_ g4
  ·refine⟨p1,λy hy=>?_,λh=>(by cases h),λ_=>⟨ca,e,by rw[A0b];exact A0d w.drew _,?_,by rw[A5i];simpa using q2,by rw[A5i];exact q3,λi j y x hi hj=>?_⟩⟩
   ·rcases K8.1 hy with h|h
    ·exact p2 y h
    ·exact g3 y h
   ·rw[A5i]
    show(olds.toArray++news.toArray++Builtin.zeroCells z.cells (cap-(es.length+ns.length))).size=_
    simp only[Array.size_append,A3a,size_zeroCells,hzs,q1,k1]
    rw[<- V8,<- V8]
    congr 1
    omega
   ·obtain⟨u,hu',hr⟩:=C2e (R:=VC M G os) (ca:=ca) q1 q4 p2 g3 k4 (λk hk=>by
     have:k<(olds.toArray++news.toArray).size:=by simp[q1,k1,<- V8];omega
     show(olds.toArray++news.toArray++Builtin.zeroCells z.cells (cap-(es.length+ns.length)))[k]?=_
     rw[A2t this]
     simp) i j y x hi hj
    exact⟨u,hu',(hr.since (A4x M G os w)).since hmv⟩
  ·exact⟨rfl,_,_,_,X7 hid,by simp,λ_=>by simp[Gh.slv,Gh.ext]⟩
 cases nl with
 |true=>
  have:es=[]:=p4 rfl
  subst this
  simp only[Gh.slv,if_true] at hsv
  have hrun:=run_append_nil (P:=P) w t o.type e i z hu hi hz' ⟨G.blk id2,0,none⟩ ns.length (G.cap id2) news (by rw[hisz];exact k1) k2 hn2 (by simp at g2;omega) (by rw[hiby];simp at g1;omega)
  have hge:=grownCap_ge w ns.length 0 e
  have hle:=grownCap_le_maxLen w ns.length 0 e (by unfold maxLen;simp at g2;omega)
  refine moves [] (grownCap w ns.length 0 e) (by simp) (by simpa using hge) hle (λ_ _ _ _ h=>by simp at h) ?_
  rw[hsv,hxv,hrun]
  simp
 |false=>
  obtain⟨ca,t',h6,h7,h8,h9,h10⟩:=p5 rfl
  simp only[Gh.slv,O2,if_false] at hsv
  have hlc:es.length*sz2<=ca.size:=by rw[h7];exact i6 _ h8
  by_cases hroom:es.length+ns.length<=G.cap id
  ·have hfit:es.length*sz2+news.length<=ca.size:=by
    rw[k1,h7,<- V8];exact i6 _ hroom
   have hrun:=C3x (P:=P) (w:=w) t o.type e t' i hu hi (G.blk id) es.length (G.cap id) ca h6 ⟨G.blk id2,0,none⟩ ns.length (G.cap id2) news (by rw[hisz];exact k1) k2 k3 hroom (by rw[hisz];exact hfit)
   rw[hisz] at hrun
   have hk:P4 G G id (os.set id (.rarr (es++ns) sz2 false)) (.rarr es sz2 false):=⟨_,false,X7 hid,by simp,λ_=>⟨rfl,rfl,rfl⟩⟩
   have hoth:∀b',b'≠G.blk id->(w.setRow (G.blk id) (I6 ca.toList (es.length*sz2) news).toArray).heap[b']?=w.heap[b']?:=λb' hb'=>setRow_other w _ b' _ hb'
   have hMin:∀y u,M y=some u->y.block=G.blk id->False:=λy u hy hb'=>by
    obtain⟨es',sz'',frz',nl',h12,h13⟩:=he.sep id y u (H6.rarr hid) hy hb'
    rw[hid] at h12;cases h12
   have hget:∀k,(I6 ca.toList (es.length*sz2) news).toArray[k]?=if k<es.length*sz2 then ca[k]? else if k<es.length*sz2+news.length then news[k-es.length*sz2]? else ca[k]?:=λk=>by
    rw[A4N,A2k _ _ _ (by simp;omega)]
    simp only[A11]
   have hs':=A0B he hid rfl (w':=w.setRow (G.blk id) (I6 ca.toList (es.length*sz2) news).toArray) rfl rfl rfl (by simp) hoth (λ_ _ h=>h) (λ_ _ h=>.inl h) hk
   refine W1 (w':=w.setRow (G.blk id) (I6 ca.toList (es.length*sz2) news).toArray) (hex (by rw[hsv,hxv];exact hrun)) (A1B he hid rfl rfl rfl rfl (by simp) hoth (λ_ _ h=>h) (λ_ _ h=>.inl h) hk (λ_ _=>rfl) (λy u hy hb'=>(hMin y u hy hb').elim) (λy u hy hb'=>(hMin y u hy hb').elim) ?_) hs' ?_ g4
   ·refine⟨p1,λy hy=>?_,λh=>(by cases h),λ_=>⟨_,t',setRow_heap w _ ca _ t' _ h6,?_,by simpa using hroom,h9,λi j y x hi hj=>?_⟩⟩
    ·rcases K8.1 hy with h|h
     ·exact p2 y h
     ·exact g3 y h
    ·simp only[A3a]
     rw[A2Y _ _ _ (by simp;omega)]
     simpa using h7
    ·obtain⟨u,hu',hr⟩:=C2e (R:=VC M G os) (ca:=(I6 ca.toList (es.length*sz2) news).toArray) (olds:=ca.toList.take (es.length*sz2)) (news:=news) (by simp;omega) (λi j y x hi hj=>by
      obtain⟨u,hu',hr⟩:=h10 i j y x hi hj
      have hi':=(B4.1 hi).1
      have hj':=(B4.1 hj).1
      rw[p2 y (C3 hi)] at hj'
      refine⟨u,?_,hr⟩
      rw[A02,if_pos (j4 hi' hj'),A11]
      exact hu') p2 g3 k4 (λk hk'=>by
      rw[hget]
      rw[V8,<- k1] at hk'
      by_cases hk2:k<es.length*sz2
      ·rw[if_pos hk2,P8 (by simp;omega),A02,if_pos hk2,A11]
      ·rw[if_neg hk2,if_pos (by omega),W4 (by simp;omega)]
       congr 1
       simp
       omega) i j y x hi hj
     exact⟨u,hu',hr.since hs'⟩
   ·exact⟨rfl,_,_,_,X7 hid,by simp,λ_=>by simp[Gh.slv]⟩
  ·have hge:=grownCap_ge w (es.length+ns.length) (G.cap id) e
   have hle:=grownCap_le_maxLen w (es.length+ns.length) (G.cap id) e (by unfold maxLen;omega)
   have hol:∀j v,(ca.toList.take (es.length*sz2))[j]?=some v->w.cell? ((⟨G.blk id,0,none⟩:Addr).add j)=some v:=λj v hj=>by
    rw[A02] at hj
    split at hj
    ·rw[A1o,A0Q]
     simp only[World.cell?,h6]
     simpa using hj
    ·cases hj
   have hrun:=run_append_grow (P:=P) w t o.type e i z hu hi hz' ⟨G.blk id,0,none⟩ es.length (G.cap id) (ca.toList.take (es.length*sz2)) (by rw[hisz];simp;omega) hol ⟨G.blk id2,0,none⟩ ns.length (G.cap id2) news (by rw[hisz];exact k1) k2 (by omega) (by omega) (by rw[hiby];exact growslice_fits (by omega) g1)
   refine moves (ca.toList.take (es.length*sz2)) (grownCap w (es.length+ns.length) (G.cap id) e) (by simp;omega) hge hle (λi j y x hi hj=>?_) (by rw[hsv,hxv];exact hrun)
   obtain⟨u,hu',hr⟩:=h10 i j y x hi hj
   have hi':=(B4.1 hi).1
   have hj':=(B4.1 hj).1
   rw[p2 y (C3 hi)] at hj'
   refine⟨u,?_,hr⟩
   rw[A02,if_pos (j4 hi' hj'),A11]
   exact hu'
theorem D7L(he:C9 M G os w)(ht:J3 M G os ρ a){o:Oper}{t e:TypeId}{s x:Operand}{s' x':C1}{sz bytes:Nat}{zs:List D}{c:Call}(ho:o.op=.call c)(hb:c.callee=.builtin .append)(hargs:c.args=#[s,x])(hts:c.argTypes=#[t,t])
  (hsx:cO s=some s') (hx:cO x=some x') (hu:P.underlying t=some (.slice e)) (hs:M3 P e=some sz) (hby:tby P e=some bytes) (hz:tz P e=some zs) (hpos:0<sz) (hzl:zs.length=sz)
  (h:A7 P ρ os K (.app sz bytes s' x')):G6 P M G os w K (execOp a.eval o):=by
 have e1:=I8 ht hsx
 have e2:=I8 ht hx
 obtain⟨i,hi,hisz⟩:=J7.1 hs
 obtain⟨i',hi',hiby⟩:=J7.1 hby
 rw[hi] at hi'
 cases hi'
 obtain⟨i2,z,hi2,hz',hrz⟩:=B3h hz
 rw[hi] at hi2
 cases hi2
 obtain⟨z2,hz1,hz2,hz3⟩:=A30 (M:=M) hz
 have hzz:z=z2:=by
  have h4:=hrz w
  rw[hz1 w] at h4
  cases h4
  rfl
 subst hzz
 have hzs:z.cells.size=sz:=by omega
 have hex:∀{v:Value} {w':World},(Builtin.append_ #[t,t] o.type #[a.eval s,a.eval x]).run P w=.ok v w'->(execOp a.eval o).run P w=.ok (.value v) w':=λhr=>by
  simp[execOp,ho,hb,hargs,hts,resolve,invoke,builtin,hr]
 simp only[A7] at h
 split at h
 ·rename_i id2 n8 hx2
  split at h
  ·rename_i ns sz2 ho2
   exact D7M he ht ho hb hargs hts hsx hx hu hs hby hz hpos hzl hx2 ho2 h.1 h.2.1 h.2.2
  ·exact h.elim
 obtain⟨ns,h,hnews⟩:=D7E (sz:=sz) he e2 h
 -- what a grown slice looks like
 have grown:∀(es:List (List D)) (olds news:List Value) (cap:Nat) (id frz:Nat) (os':List AO) (M':D4),olds.length=es.length*sz->news.length=ns.length*sz->es.length+ns.length<=cap->cap<=maxLen->(∀e∈es,e.length=sz)->(∀e∈ns,e.length=sz)->frz<=es.length->
   (∀a v,M a=some v->M' a=some v)->
   (∀(i j:Nat) e x,es[i]?=some e->e[j]?=some x->∃u,olds[i*sz+j]?=some u/\Rd M x u)->(∀(i j:Nat) e x,ns[i]?=some e->e[j]?=some x->∃u,news[i*sz+j]?=some u/\Rd M x u)->
   (∀k,k<frz*sz->M' ⟨w.heap.size,k,none⟩=(olds.toArray++news.toArray++Builtin.zeroCells z.cells (cap-(es.length+ns.length)))[k]?)->
   OR M' (G.ext id w.heap.size cap) os' (w.drew.alloc (.cells (olds.toArray++news.toArray++Builtin.zeroCells z.cells (cap-(es.length+ns.length))) e)) id (.arr (es++ns) sz frz false):=by
  intro es olds news cap id frz os' M' q1 q2 q3 q4 q5 q6 q7 q8 q9 q10 q11
  refine⟨hpos,λy hy=>?_,by simp;omega,λh=>(by cases h),λ_=>⟨_,e,by rw[A0b];exact A0d w.drew _,?_,by rw[A5i];simpa using q3,by rw[A5i];exact q4,λi j y x hi hj=>?_,λk hk=>by rw[A0b];exact q11 k hk⟩⟩
  ·rcases K8.1 hy with h|h
   ·exact q5 y h
   ·exact q6 y h
  ·rw[A5i]
   simp only[Array.size_append,A3a,size_zeroCells,hzs,q1,q2]
   rw[<- V8,<- V8]
   congr 1
   omega
  ·obtain⟨u,hu',hr⟩:=C2d (M:=M) (ca:=olds.toArray++news.toArray++Builtin.zeroCells z.cells (cap-(es.length+ns.length))) q1 q9 q5 q6 q10 (λk hk=>by
    have:k<(olds.toArray++news.toArray).size:=by simp[q1,q2,<- V8];omega
    rw[A2t this]
    simp) i j y x hi hj
   exact⟨u,hu',hr.mono q8⟩
 unfold A0T at h
 split at h
 ·rename_i hse
  rw[hse] at e1
  have hsv:=A1R e1
  obtain⟨g1,g2,g3,g4⟩:=h
  rcases hnews with ⟨rfl,xb,cx,hxv⟩|⟨b,ob,cx,hxv,hcells⟩
  ·obtain⟨n1,n2⟩:=A8T he sz hpos
   refine W1 (hex (by rw[hsv,hxv];exact A9C _ hu hs none xb 0 0 cx (D3 _) w)) n1 n2 ?_ g4
   exact⟨rfl,_,_,_,_,A3S ..,D3 _,λ_=>by simp[Gh.slv]⟩
  ·by_cases hn0:ns=[]
   ·subst hn0
    obtain⟨n1,n2⟩:=A8T he sz hpos
    refine W1 (hex (by rw[hsv,hxv];exact A9C _ hu hs none _ 0 0 cx (D3 _) w)) n1 n2 ?_ g4
    exact⟨rfl,_,_,_,_,A3S ..,D3 _,λ_=>by simp[Gh.slv]⟩
   ·have hnp:0<ns.length:=by cases ns with|nil=>exact absurd rfl hn0|cons=>simp
    obtain⟨news,k1,k2,k3,k4⟩:=C1G g3 (hcells g3)
    have hrun:=run_append_nil (P:=P) w t o.type e i z hu hi hz' ⟨b,ob,none⟩ ns.length cx news (by rw[hisz];exact k1) k2 hnp (by omega) (by rw[hiby];omega)
    have hge:=grownCap_ge w ns.length 0 e
    have hle:=grownCap_le_maxLen w ns.length 0 e (by unfold maxLen;omega)
    have hor:=grown [] [] news (grownCap w ns.length 0 e) os.length 0 (os++[.arr ns sz 0 false]) M (by simp) k1 (by simpa using hge) hle (λ_ h=>by cases h) g3 (D3 _) (λ_ _ h=>h) (λ_ _ _ _ h=>by simp at h) k4 (λk hk=>by omega)
    simp only[A0M,l9,A0Q,A3Y] at hor
    have he':=he.drew
    have hie:ns.isEmpty=false:=by cases ns with|nil=>exact absurd rfl hn0|cons=>rfl
    rw[hie] at g4
    have hnew:=A2l he' (.arr ns sz 0 false) (.cells (news.toArray++Builtin.zeroCells z.cells (grownCap w ns.length 0 e-ns.length)) e) (grownCap w ns.length 0 e)
    refine W1 (hex (by rw[hsv,hxv];exact hrun)) (A3w he' (.arr ns sz 0 false) (.cells (news.toArray++Builtin.zeroCells z.cells (grownCap w ns.length 0 e-ns.length)) e) (grownCap w ns.length 0 e) (λa v=>A0v a v) ?_ (λ_ _ _ _ _ h=>by cases h;rfl)) ((A4x M G os w).trans hnew) ?_ g4
    ·simpa using hor
    ·exact⟨rfl,_,_,_,_,A3S ..,D3 _,λ_=>by simp[Gh.slv,Gh.ext]⟩
 ·rename_i id len hse
  rw[hse] at e1
  split at h
  ·rename_i es sz' frz nl hid
   obtain⟨g0,rfl,g1,g2,g3,g4⟩:=h
   obtain⟨_,es',sz'',frz',nl',f1,f2,f3⟩:=e1
   rw[hid] at f1
   cases f1
   have hsv:=f3 g0
   obtain⟨p1,p2,p3,p4,p5⟩:=he.obj id _ hid
   have hlt:=(B4.1 hid).1
   -- nothing to append
   have zero:ns=[]->(∃xb cx,a.eval x=.slice xb 0 cx)->G6 P M G os w K (execOp a.eval o):=by
    intro hn ⟨xb,cx,hxv⟩
    subst hn
    have hset:os.set id (.arr (es++[]) sz' frz (nl&&([]:List (List D)).isEmpty))=os:=by
     simp only[U9,List.isEmpty_nil,Bool.and_true]
     exact C3G hid
    rw[hset] at g4
    cases nl with
    |true=>
     have:es=[]:=p4 rfl
     subst this
     refine L4 he (hex (v:=.slice none 0 0) ?_) ?_ g4
     ·rw[hsv,hxv]
      exact A9C _ hu hs none xb 0 0 cx (D3 _) w
     ·exact⟨rfl,_,_,_,_,hid,D3 _,λ_=>by simp[Gh.slv]⟩
    |false=>
     obtain⟨ca,t',h6,h7,h8,h9,h10,h11⟩:=p5 rfl
     refine L4 he (hex (v:=.slice (some ⟨G.blk id,0,none⟩) es.length (G.cap id)) ?_) ?_ g4
     ·rw[hsv,hxv]
      simp only[Gh.slv,O2,if_false]
      exact A9C _ hu hs _ xb _ _ cx h8 w
     ·exact⟨rfl,_,_,_,_,hid,by simp,λ_=>by simp[Gh.slv]⟩
   rcases hnews with ⟨rfl,xb,cx,hxv⟩|⟨b,ob,cx,hxv,hcells⟩
   ·exact zero rfl ⟨xb,cx,hxv⟩
   by_cases hn0:ns=[]
   ·subst hn0
    exact zero rfl ⟨_,cx,hxv⟩
   have hnp:0<ns.length:=by cases ns with|nil=>exact absurd rfl hn0|cons=>simp
   have hie:(nl&&ns.isEmpty)=false:=by cases ns with|nil=>exact absurd rfl hn0|cons=>simp
   rw[hie] at g4
   obtain⟨news,k1,k2,k3,k4⟩:=C1G g3 (hcells g3)
   have he':=he.drew
   -- the slice moves
   have moves:∀(olds:List Value) (cap:Nat),olds.length=es.length*sz'->es.length+ns.length<=cap->cap<=maxLen->(∀(i j:Nat) e x,es[i]?=some e->e[j]?=some x->∃u,olds[i*sz'+j]?=some u/\Rd M x u)->
     (Builtin.append_ #[t,t] o.type #[a.eval s,a.eval x]).run P w=.ok (.slice (some ⟨w.heap.size,0,none⟩) (es.length+ns.length) cap) (w.drew.alloc (.cells (olds.toArray++news.toArray++Builtin.zeroCells z.cells (cap-(es.length+ns.length))) e))->
     G6 P M G os w K (execOp a.eval o):=by
    intro olds cap q1 q2 q3 q4 hrun
    let ca:=olds.toArray++news.toArray++Builtin.zeroCells z.cells (cap-(es.length+ns.length))
    let M':D4:=D4.with M (w.drew.alloc (.cells ca e)) w.heap.size (frz*sz')
    have hcn:∀k,(w.drew.alloc (.cells ca e)).cell? ⟨w.heap.size,k,none⟩=ca[k]?:=λk=>by
     have:=A0d w.drew (.cells ca e)
     simp only[World.cell?]
     rw[show w.heap.size=w.drew.heap.size from rfl,this]
     simp
    have hgrow:∀y v,M y=some v->M' y=some v:=λy v hy=>by
     show D4.with _ _ _ _ y=_
     unfold D4.with
     split
     ·exact A0v y v (he'.mem y v hy)
     ·exact hy
    have hnew:∀y v,M' y=some v->M y=some v\/y.block=w.heap.size:=λy v hy=>by
     have hy:D4.with _ _ _ _ y=_:=hy
     unfold D4.with at hy
     split at hy
     ·rename_i hc;exact .inr hc.1
     ·exact .inl hy
    have hk:P4 G (G.ext id w.drew.heap.size cap) id (os.set id (.arr (es++ns) sz' frz false)) (.arr es sz' frz nl):=⟨_,frz,false,X7 hid,by simp,λhc=>by rw[H8] at hc;omega⟩
    have hor:=grown es olds news cap id frz (os.set id (.arr (es++ns) sz' frz false)) M' q1 k1 q2 q3 p2 g3 p3 hgrow q4 k4 (λk hk'=>by
     show D4.with _ _ _ _ _=_
     unfold D4.with
     rw[if_pos ⟨rfl,rfl,hk'⟩]
     exact hcn k)
    have hfs:frz*sz'<=es.length*sz':=i6 _ p3
    have hmv:=A3R he' hid (.cells ca e) cap hgrow hnew hk
    refine W1 (hex hrun) (B1R he' hid (.cells ca e) cap hgrow hnew hk (λy hy=>?_) (λy v hy hb'=>?_) (λy v hy hb'=>?_) hor) ((A4x M G os w).trans hmv) ?_ g4
    ·show D4.with _ _ _ _ y=_
     unfold D4.with
     rw[if_neg (λhc=>hy hc.1)]
    ·have hy:D4.with _ _ _ _ y=_:=hy
     unfold D4.with at hy
     split at hy
     ·exact hy
     ·exact A0v y v (he'.mem y v hy)
    ·have hy:D4.with _ _ _ _ y=_:=hy
     refine⟨_,_,_,_,rfl,?_⟩
     unfold D4.with at hy
     split at hy
     ·rename_i hc;exact hc.2.2
     ·have:=World.block_lt_of_cell? w y (he.mem y v hy)
      have hb':y.block=w.heap.size:=hb'
      omega
    ·exact⟨rfl,_,_,_,_,X7 hid,by simp,λ_=>by simp[Gh.slv,Gh.ext]⟩
   cases nl with
   |true=>
    have:es=[]:=p4 rfl
    subst this
    simp only[Gh.slv,if_true] at hsv
    have hrun:=run_append_nil (P:=P) w t o.type e i z hu hi hz' ⟨b,ob,none⟩ ns.length cx news (by rw[hisz];exact k1) k2 hnp (by simp at g2;omega) (by rw[hiby];simp at g1;omega)
    have hge:=grownCap_ge w ns.length 0 e
    have hle:=grownCap_le_maxLen w ns.length 0 e (by unfold maxLen;simp at g2;omega)
    refine moves [] (grownCap w ns.length 0 e) (by simp) (by simpa using hge) hle (λ_ _ _ _ h=>by simp at h) ?_
    rw[hsv,hxv,hrun]
    simp
   |false=>
    obtain⟨ca,t',h6,h7,h8,h9,h10,h11⟩:=p5 rfl
    simp only[Gh.slv,O2,if_false] at hsv
    have hlc:es.length*sz'<=ca.size:=by rw[h7];exact i6 _ h8
    by_cases hroom:es.length+ns.length<=G.cap id
    ·have hfit:es.length*sz'+news.length<=ca.size:=by
      rw[k1,h7,<- V8];exact i6 _ hroom
     have hrun:=C3x (P:=P) (w:=w) t o.type e t' i hu hi (G.blk id) es.length (G.cap id) ca h6 ⟨b,ob,none⟩ ns.length cx news (by rw[hisz];exact k1) k2 k3 hroom (by rw[hisz];exact hfit)
     rw[hisz] at hrun
     have hk:P4 G G id (os.set id (.arr (es++ns) sz' frz false)) (.arr es sz' frz false):=⟨_,frz,false,X7 hid,by simp,λ_=>⟨rfl,rfl,rfl⟩⟩
     have hoth:∀b',b'≠G.blk id->(w.setRow (G.blk id) (I6 ca.toList (es.length*sz') news).toArray).heap[b']?=w.heap[b']?:=λb' hb'=>setRow_other w _ b' _ hb'
     have hMin:∀y u,M y=some u->y.block=G.blk id->y.off<frz*sz':=λy u hy hb'=>by
      obtain⟨es',sz'',frz',nl',h12,h13⟩:=he.sep id y u (H6.arr hid) hy hb'
      rw[hid] at h12;cases h12
      exact h13
     have hfs:frz*sz'<=es.length*sz':=i6 _ p3
     have hget:∀k,(I6 ca.toList (es.length*sz') news).toArray[k]?=if k<es.length*sz' then ca[k]? else if k<es.length*sz'+news.length then news[k-es.length*sz']? else ca[k]?:=λk=>by
      rw[A4N,A2k _ _ _ (by simp;omega)]
      simp only[A11]
     have hs':=A0B he hid rfl (w':=w.setRow (G.blk id) (I6 ca.toList (es.length*sz') news).toArray) rfl rfl rfl (by simp) hoth (λ_ _ h=>h) (λ_ _ h=>.inl h) hk
     refine W1 (w':=w.setRow (G.blk id) (I6 ca.toList (es.length*sz') news).toArray) (hex (by rw[hsv,hxv];exact hrun)) (A1B he hid rfl rfl rfl rfl (by simp) hoth (λ_ _ h=>h) (λ_ _ h=>.inl h) hk (λ_ _=>rfl) (λy u hy hb'=>?_) (λy u hy hb'=>⟨_,_,_,_,rfl,hMin y u hy hb'⟩) ?_) hs' ?_ g4
     ·have hold:=he.mem y u hy
      have:=hMin y u hy hb'
      simp only[World.cell?,hb',h6,setRow_heap w _ ca _ t' _ h6] at hold ⊢
      rw[hget,if_pos (show y.off<es.length*sz' by omega)]
      exact hold
     ·refine⟨p1,λy hy=>?_,by simp;omega,λh=>(by cases h),λ_=>⟨_,t',setRow_heap w _ ca _ t' _ h6,?_,by simpa using hroom,h9,?_,λk hk'=>?_⟩⟩
      ·rcases K8.1 hy with h|h
       ·exact p2 y h
       ·exact g3 y h
      ·simp only[A3a]
       rw[A2Y _ _ _ (by simp;omega)]
       simpa using h7
      ·refine C2d (olds:=ca.toList.take (es.length*sz')) (news:=news) (by simp;omega) (λi j y x hi hj=>?_) p2 g3 k4 (λk hk'=>?_)
       ·obtain⟨u,hu',hr⟩:=h10 i j y x hi hj
        have hi':=(B4.1 hi).1
        have hj':=(B4.1 hj).1
        rw[p2 y (C3 hi)] at hj'
        refine⟨u,?_,hr⟩
        rw[A02,if_pos (j4 hi' hj'),A11]
        exact hu'
       ·rw[hget]
        rw[V8,<- k1] at hk'
        by_cases hk2:k<es.length*sz'
        ·rw[if_pos hk2,P8 (by simp;omega),A02,if_pos hk2,A11]
        ·rw[if_neg hk2,if_pos (by omega),W4 (by simp;omega)]
         congr 1
         simp
         omega
      ·rw[h11 k hk',hget,if_pos (by omega)]
     ·exact⟨rfl,_,_,_,_,X7 hid,by simp,λ_=>by simp[Gh.slv]⟩
    ·have hge:=grownCap_ge w (es.length+ns.length) (G.cap id) e
     have hle:=grownCap_le_maxLen w (es.length+ns.length) (G.cap id) e (by unfold maxLen;omega)
     have hol:∀j v,(ca.toList.take (es.length*sz'))[j]?=some v->w.cell? ((⟨G.blk id,0,none⟩:Addr).add j)=some v:=λj v hj=>by
      rw[A02] at hj
      split at hj
      ·rw[A1o,A0Q]
       simp only[World.cell?,h6]
       simpa using hj
      ·cases hj
     have hrun:=run_append_grow (P:=P) w t o.type e i z hu hi hz' ⟨G.blk id,0,none⟩ es.length (G.cap id) (ca.toList.take (es.length*sz')) (by rw[hisz];simp;omega) hol ⟨b,ob,none⟩ ns.length cx news (by rw[hisz];exact k1) k2 (by omega) (by omega) (by rw[hiby];exact growslice_fits (by omega) g1)
     refine moves (ca.toList.take (es.length*sz')) (grownCap w (es.length+ns.length) (G.cap id) e) (by simp;omega) hge hle (λi j y x hi hj=>?_) (by rw[hsv,hxv];exact hrun)
     obtain⟨u,hu',hr⟩:=h10 i j y x hi hj
     have hi':=(B4.1 hi).1
     have hj':=(B4.1 hj).1
     rw[p2 y (C3 hi)] at hj'
     refine⟨u,?_,hr⟩
     rw[A02,if_pos (j4 hi' hj'),A11]
     exact hu'
  ·exact h.elim
 ·exact h.elim
end
end Go.Bi
