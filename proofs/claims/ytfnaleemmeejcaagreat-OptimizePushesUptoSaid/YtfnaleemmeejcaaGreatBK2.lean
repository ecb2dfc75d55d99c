/- Soundness of maps, and of variables at places that were kept for them. No condition. -/
import Derived.Test.YtfnaleemmeejcaaGreatBK
import Derived.MapKept
import Derived.Laws.IdiomRangeMap
set_option linter.unusedVariables false
namespace Go.Bi
set_option linter.unusedSectionVars false
variable [N0]
section
variable {P:Program}{M:D4}{G:Gh}{os:List AO}{w:World}{ρ:D5}{a:Act}{K:AV->List AO->Prop}
theorem A90(he:C9 M G os w){id:Nat}(ho:os[id]?=some .hole)(o':AO)(ob:Obj)(c:Nat)(hor:OR M (G.ext id w.heap.size c) (os.set id o') (w.alloc ob) id o') :
  C9 M (G.ext id w.heap.size c) (os.set id o') (w.alloc ob)/\G7 M G os w M (G.ext id w.heap.size c) (os.set id o') (w.alloc ob):=by
 have hno:∀a v,M a=some v->a.block=w.heap.size->False:=λa v h hb=>by
  have:=World.block_lt_of_cell? w a (he.mem a v h);omega
 have hlive:AO.live .hole=false:=rfl
 refine⟨?_,?_⟩
 ·exact B1R he ho ob c (λ_ _ h=>h) (λ_ _ h=>.inl h) ⟨_,X7 ho⟩ (λ_ _=>rfl) (λa v h hb=>(hno a v h hb).elim) (λa v h hb=>(hno a v h hb).elim) hor
 ·exact A3R he ho ob c (λ_ _ h=>h) (λ_ _ h=>.inl h) ⟨_,X7 ho⟩
theorem D7K(he:C9 M G os w){o:Oper}{t:TypeId}{zs:List D}{id:Nat}(ho:o.op=.alloc t)(hz:tz P t=some zs)(h:A7 P ρ os K (.alloca id zs)):G6 P M G os w K (execOp a.eval o):=by
 obtain⟨z,h1,h2,h3⟩:=A30 (M:=M) hz
 simp only[A7] at h
 split at h
 ·rename_i hid
  obtain⟨e1,e2⟩:=A90 he hid (.cells (zs.map .d)) (.cells z.cells t) 0 ⟨z.cells,t,by rw[A0b];exact A0d ..,by simp[h2],λj c u hc hu=>by
   rw[J1] at hc
   obtain⟨x,hx,rfl⟩:=J7.1 hc
   exact h3 j x u hx hu⟩
  refine W1 (v:=.pointer (some ⟨w.heap.size,0,none⟩)) (w':=w.alloc (.cells z.cells t)) ?_ e1 e2 ?_ h
  ·simp[execOp,ho,Instr.alloc,h1,newVar,newRow]
  ·exact⟨by simp[Gh.ext],_,X7 hid⟩
 ·exact h.elim
theorem D7O(he:C9 M G os w)(ht:J3 M G os ρ a){o:Oper}{t:TypeId}{x:Operand}{x':C1}{n id:Nat}(ho:o.op=.box t x)(hx:cO x=some x')(h:A7 P ρ os K (.boxa id n x')):G6 P M G os w K (execOp a.eval o):=by
 have e1:=I8 ht hx
 simp only[A7] at h
 split at h
 ·rename_i xs hid hxs
  obtain⟨c1,c2⟩:=A8E hxs e1
  have hsm:G7 M G os w M (G.ext id w.heap.size 0) (os.set id (.cells xs)) (w.alloc (.cells (a.eval x).cells t)):=A3R he hid _ 0 (λ_ _ h=>h) (λ_ _ h=>.inl h) ⟨_,X7 hid⟩
  obtain⟨e1,e2⟩:=A90 he hid (.cells xs) (.cells (a.eval x).cells t) 0 ⟨_,t,by rw[A0b];exact A0d ..,c1,λj c u hc hu=>(c2 j c u hc hu).since hsm⟩
  refine W1 (v:=.pointer (some ⟨w.heap.size,0,none⟩)) (w':=w.alloc (.cells (a.eval x).cells t)) ?_ e1 e2 ?_ h.2
  ·simp[execOp,ho,Instr.box,newVar,newRow]
  ·exact⟨by simp[Gh.ext],_,X7 hid⟩
 ·exact h.elim
theorem D5Y{M':D4}{G':Gh}{w':World}{id:Nat}{es:List (List D)}{sz:Nat}{nl:Bool}(he:C9 M G os w)(hid:os[id]?=some .hole)(he':C9 M' G' [.arr es sz 0 nl] w')(hs:G7 M G [] w M' G' [.arr es sz 0 nl] w') :
  C9 M' (G.ext id (G'.blk 0) (G'.cap 0)) (os.set id (.arr es sz 0 nl)) w'/\G7 M G os w M' (G.ext id (G'.blk 0) (G'.cap 0)) (os.set id (.arr es sz 0 nl)) w':=by
 have hlt:=(B4.1 hid).1
 have hblk:∀i,i≠id->(G.ext id (G'.blk 0) (G'.cap 0)).blk i=G.blk i:=λi hi=>by simp[Gh.ext,hi]
 have hcap:∀i,i≠id->(G.ext id (G'.blk 0) (G'.cap 0)).cap i=G.cap i:=λi hi=>by simp[Gh.ext,hi]
 have hget:∀i,i≠id->(os.set id (.arr es sz 0 nl))[i]?=os[i]?:=λi hi=>by rw[i0 (λh=>hi h.symm)]
 have hself:(os.set id (.arr es sz 0 nl))[id]?=some (.arr es sz 0 nl):=X7 hid
 have hown:H6 [.arr es sz 0 nl] 0->w.heap.size<=G'.blk 0:=λhi=>by
  rcases hs.own 0 hi with h|⟨j,hj,_⟩
  ·exact h
  ·exact(A1H hj).elim
 have hheap:∀b,b<w.heap.size->w'.heap[b]?=w.heap[b]?:=λb hb=>hs.frame b hb (λi hi=>(A1H hi).elim)
 have hmem:∀y,y.block<w.heap.size->M' y=M y:=λy hy=>by
  cases hq:M y with
  |some v=>exact hs.grow y v hq
  |none=>
   cases hq':M' y with
   |none=>rfl
   |some v=>
    rcases hs.fresh y v hq' with h|h|⟨i,hi,_⟩
    ·rw[hq] at h;cases h
    ·omega
    ·exact(A1H hi).elim
 have hlive:∀i,H6 (os.set id (.arr es sz 0 nl)) i->(i≠id/\H6 os i)\/(i=id/\H6 [.arr es sz 0 nl] 0):=λi hi=>by
  obtain⟨o,ho,hl⟩:=hi
  by_cases hii:i=id
  ·subst hii
   rw[hself] at ho
   cases ho
   exact .inr ⟨rfl,_,rfl,hl⟩
  ·rw[hget i hii] at ho
   exact .inl ⟨hii,o,ho,hl⟩
 have hsince:G7 M G os w M' (G.ext id (G'.blk 0) (G'.cap 0)) (os.set id (.arr es sz 0 nl)) w':={
  sys:=hs.sys,tape:=hs.tape,output:=hs.output,size:=hs.size
  frame:=λb hb _=>hheap b hb
  grow:=hs.grow
  fresh:=λy v hy=>by
   rcases hs.fresh y v hy with h|h|⟨i,hi,_⟩
   ·exact .inl h
   ·exact .inr (.inl h)
   ·exact(A1H hi).elim
  own:=λi hi=>by
   rcases hlive i hi with ⟨h1,h2⟩|⟨h1,h2⟩
   ·exact .inr ⟨i,h2,by rw[hblk i h1]⟩
   ·exact .inl (by subst h1;simp only[Gh.ext,if_true];exact hown h2)
  keep:=λi o ho=>by
   by_cases hii:i=id
   ·subst hii
    rw[hid] at ho
    cases ho
    exact⟨_,hself⟩
   ·exact P4.same (by rw[hget i hii];exact ho) (hblk i hii) (hcap i hii)}
 refine⟨⟨he'.mem,λi o ho=>?_,λi j hi hj hij=>?_,λi y v hi hy hb=>?_,A29 hsince he.glb⟩,hsince⟩
 ·by_cases hii:i=id
  ·subst hii
   rw[hself] at ho
   cases ho
   obtain⟨h1,h2,h3,h4,h5⟩:=he'.obj 0 _ rfl
   refine⟨h1,h2,h3,h4,λhn=>?_⟩
   simp only[Gh.ext,if_true]
   exact h5 hn
  ·rw[hget i hii] at ho
   have hold:=he.obj i o ho
   by_cases hl:o.live=true
   ·have hlt:=he.lt ⟨o,ho,hl⟩
    exact OR.since hsince hold (hblk i hii) (hcap i hii) (hheap _ hlt) (λy hy=>hmem y (by omega))
   ·cases o with
    |cells cs=>exact absurd rfl hl
    |iter s p=>exact absurd rfl hl
    |hole=>trivial
    |map kvs=>exact absurd rfl hl
    |mit m n s=>exact absurd rfl hl
    |arr es sz frz nl=>
     cases nl with
     |false=>exact absurd rfl hl
     |true=>exact⟨hold.1,hold.2.1,hold.2.2.1,hold.2.2.2.1,λh=>by cases h⟩
    |rarr es sz nl=>
     cases nl with
     |false=>exact absurd rfl hl
     |true=>exact⟨hold.1,hold.2.1,hold.2.2.1,λh=>by cases h⟩
 ·rcases hlive i hi with ⟨h1,h2⟩|⟨h1,h2⟩<;>rcases hlive j hj with ⟨h3,h4⟩|⟨h3,h4⟩
  ·rw[hblk i h1,hblk j h3] at hij
   exact he.inj i j h2 h4 hij
  ·rw[hblk i h1] at hij
   subst h3
   simp only[Gh.ext,if_true] at hij
   have:=he.lt h2
   have:=hown h4
   omega
  ·rw[hblk j h3] at hij
   subst h1
   simp only[Gh.ext,if_true] at hij
   have:=he.lt h4
   have:=hown h2
   omega
  ·omega
 ·rcases hlive i hi with ⟨h1,h2⟩|⟨h1,h2⟩
  ·rw[hblk i h1] at hb
   have hlt:=he.lt h2
   rw[hmem y (by omega)] at hy
   obtain⟨es,sz,frz,nl,h3,h4⟩:=he.sep i y v h2 hy hb
   exact⟨es,sz,frz,nl,by rw[hget i h1];exact h3,h4⟩
  ·subst h1
   simp only[Gh.ext,if_true] at hb
   obtain⟨es,sz,frz,nl,h3,h4⟩:=he'.sep 0 y v h2 hy hb
   exact⟨es,sz,frz,nl,by rw[hself];exact h3,h4⟩
theorem D7S(he:C9 M G os w)(ht:J3 M G os ρ a){o:Oper}{f:Operand}{f':C1}{args':List C1}{c:Call}{id:Nat}(ho:o.op=.call c)(hb:c.callee=.value f)(hf:cO f=some f')(hargs:c.args.toList.mapM cO=some args')
  (h:A7 P ρ os K (.calln id f' args')):G6 P M G os w K (execOp a.eval o):=by
 have e1:=I8 ht hf
 obtain⟨l1,e2⟩:=A8A ht hargs
 simp only[A7] at h
 split at h
 ·rename_i g hev
  rw[hev] at e1
  have hfv:=A7K e1
  have hvs:(c.args.map a.eval).toList=c.args.toList.map a.eval:=by simp
  have key:(execOp a.eval o).run P w=(callFunc g (c.args.map a.eval)).run P w:=by
   simp only[execOp,ho,resolve,hb,hfv,Deferred.ofValue,Sem.run_bind,Sem.run_pure,Result.andThen_ok,invoke,A3Y,A37]
  split at h
  ·rename_i as os1 hp
   obtain⟨hos,hid,h⟩:=h
   rcases h with ⟨es,sz,nl,h,hk⟩|⟨r,h,hk⟩
   rotate_left
   ·have hset:os.set id .hole=os:=by
     obtain⟨hlt,he'⟩:=B4.1 hid
     rw[<- he'];exact List.set_getElem_self hlt
    rw[hset] at hk
    refine C2Q (f':=f') (args':=args') he ht ho hb hf hargs ?_
    simp only[A7,hev,hp]
    exact .inl ⟨hos,r,h,hk⟩
   have hpv:=B2a hp
   obtain⟨M1,p1,p2,p3,p4,p5⟩:=A96 _ he hp (vs:=c.args.toList.map a.eval) (by simp[l1]) (λj c u hc hu=>A32 (e2 j c u hc hu) (hpv c (C3 hc)).1 (hpv c (C3 hc)).2)
   rw[hos] at p1 p2 p5
   unfold G6
   rw[key,A1K h.1]
   refine⟨rfl,(h.2 M1 G w (c.args.map a.eval) p1.none (by simp[p3,l1]) λj x u hx hu=>(p5 j x u hx (by rw[<- hvs];simpa using hu)).of_isD (p4 x (C3 hx))).mono ?_⟩
   rintro e w' ⟨v,rfl,M',G',r,os2,h1,h2,h3,h4⟩
   obtain⟨h4,h5⟩:=h4
   subst h4
   subst h5
   obtain⟨q1,q2⟩:=D5Y p1 hid h1 h2
   refine⟨v,rfl,M',_,_,_,q1,p2.trans q2,?_,hk⟩
   obtain⟨h0,es',sz',frz',nl',h6,h7,h8⟩:=h3
   cases h6
   exact⟨h0,es,sz,0,nl,X7 hid,h7,λe=>by rw[h8 e];simp[Gh.slv,Gh.ext]⟩
  ·exact h.elim
 ·exact h.elim
theorem D7T(he:C9 M G os w)(ht:J3 M G os ρ a){o:Oper}{f:Operand}{f':C1}{args':List C1}{c:Call}(ho:o.op=.call c)(hb:c.callee=.value f)(hf:cO f=some f')(hargs:c.args.toList.mapM cO=some args')
  {id len:Nat} {as:List AV} (hmap:args'.map (C0 ρ)=.arr id len::as) (h:A7 P ρ os K (.callo f' args')):G6 P M G os w K (execOp a.eval o):=by
 simp only[A7,hmap] at h
 split at h
 ·rename_i g hev
  split at h
  ·rename_i es sz frz nl hid
   obtain⟨hdb,es',nl',h1,hk⟩:=h
   have e1:=I8 ht hf
   obtain⟨l1,e2⟩:=A8A ht hargs
   rw[hev] at e1
   have hfv:=A7K e1
   have h:=h1 os hid
   have key:(execOp a.eval o).run P w=(callFunc g (c.args.map a.eval)).run P w:=by
    simp only[execOp,ho,resolve,hb,hfv,Deferred.ofValue,Sem.run_bind,Sem.run_pure,Result.andThen_ok,invoke,A3Y,A37]
   have hvs:(c.args.map a.eval).toList=c.args.toList.map a.eval:=by simp
   have hone:∀x∈args'.map (C0 ρ),AV.one x=true:=by
    rw[hmap]
    intro x hx
    rcases H2.1 hx with rfl|hx
    ·rfl
    ·have:=L7.1 hdb x hx
     cases x<;>first|rfl|cases this
   rw[<- hmap] at h
   unfold G6
   rw[key,A1K h.1]
   refine⟨rfl,(h.2 M G w _ he (by simp[l1]) λj x u hx hu=>?_).mono ?_⟩
   ·have h1:=hone x (C3 hx)
    refine A32 (e2 j x u hx (by rw[<- hvs];simpa using hu)) (λts e=>?_) (λe=>?_)
    ·subst e;cases h1
    ·subst e;cases h1
   ·rintro e w' ⟨v,rfl,M',G',r,os2,h1,h2,h3,h4,h5⟩
    subst h4
    subst h5
    exact⟨v,rfl,M',G',_,_,h1,h2,h3,hk⟩
  ·exact h.elim
 ·exact h.elim
theorem D4D{M:D4}{G:Gh}{os:List AO}{cs:List AV}{ca:Array Value}{n sz:Nat}(hl:cs.length=n*sz)(hs:ca.size=n*sz)(hv:∀(j:Nat) c u,cs[j]?=some c->ca[j]?=some u->VC M G os c u) :
  (S8 sz n cs).length=n/\(∀e∈S8 sz n cs,e.length=sz)/\∀(i j:Nat) e x,(S8 sz n cs)[i]?=some e->e[j]?=some x->∃u,ca[i*sz+j]?=some u/\VC M G os x u:=by
 refine⟨B1B ..,λe he=>?_,λi j e x hi hj=>?_⟩
 ·obtain⟨i,hi⟩:=List.mem_iff_getElem?.1 he
  rw[A6w] at hi
  split at hi
  ·rename_i hlt
   cases hi
   have:(i+1)*sz<=n*sz:=i6 _ hlt
   rw[V8] at this
   simp
   omega
  ·cases hi
 ·rw[A6w] at hi
  split at hi
  ·rename_i hlt
   cases hi
   rw[A3P] at hj
   split at hj
   ·rename_i hjs
    have hk:i*sz+j<ca.size:=by rw[hs];exact j4 hlt hjs
    exact⟨_,O0 hk,hv _ x _ hj (O0 hk)⟩
   ·cases hj
  ·cases hi
theorem D7Q(he:C9 M G os w)(ht:J3 M G os ρ a){o:Oper}{t e:TypeId}{n sz id:Nat}{parts:Array (Nat×Operand)}{zs:List D}{ps:List (Nat×Nat×C1)}(ho:o.op=.buildSlice t n parts)(hu:P.underlying t=some (.slice e))(hs:M3 P e=some sz)(hz:tz P e=some zs)
  (hpos:0<sz) (hzl:zs.length=sz) (hle:n*sz<=16777216) (hps:A1v (λi=>some (i*sz,sz)) parts.toList=some ps) (h:A7 P ρ os K (.bslr id n sz zs ps)):G6 P M G os w K (execOp a.eval o):=by
 obtain⟨z,h1,h2,h3⟩:=A30 (M:=M) hz
 simp only[A7] at h
 subst hzl
 have hcs:=B09 (G:=G) (os:=os) h2 h3 n hpos
 obtain⟨cs',ca',g1,g2,g3,g4⟩:=A6Q ht parts.toList ps hps _ _ hcs h
 split at g4
 ·rename_i hid
  have hcl:cs'.length=n*zs.length:=by rw[g3];simp[A88,A89,A8d]
  have hmx:n<=maxLen:=by
   unfold maxLen
   have:n*1<=n*zs.length:=Nat.mul_le_mul_left _ hpos
   omega
  unfold B2n B2m at g4
  cases hds:A26 cs' with
  |some ds=>
   rw[hds] at g4
   have hcs':=C16 hds
   obtain⟨q1,q2,q3⟩:=B1v (M:=M) (ca:=ca') (n:=n) (sz:=zs.length) (xs:=ds) (by rw[<- hcl,hcs',D8]) (by rw[g2.1,hcl]) (λj x u hx hu=>g2.2 j (.d x) u (by rw[hcs',J1,hx];rfl) hu)
   have hsm:G7 M G os w M (G.ext id w.heap.size n) (os.set id (.arr (S8 zs.length n ds) zs.length 0 false)) (w.alloc (.cells ca' e)):=A3R he hid _ n (λ_ _ h=>h) (λ_ _ h=>.inl h) ⟨_,X7 hid⟩
   obtain⟨e1,e2⟩:=A90 he hid (.arr (S8 zs.length n ds) zs.length 0 false) (.cells ca' e) n ⟨hpos,q2,N1 _,λh=>(by cases h),λ_=>⟨ca',e,by rw[A0b];exact A0d ..,by simp[Gh.ext,g2.1,hcl],by simp[Gh.ext,q1],by simp only[Gh.ext,if_true];exact hmx,q3,λo ho=>by omega⟩⟩
   refine W1 (v:=.slice (some ⟨w.heap.size,0,none⟩) n n) (w':=w.alloc (.cells ca' e)) ?_ e1 e2 ?_ g4
   ·have:=A9D (P:=P) hu hs h1 h2 hpos hle g1 w
    have hp:(parts.map λp:Nat×Operand=>(p.1,a.eval p.2))=(parts.toList.map λ(i,x)=>(i,a.eval x)).toArray:=by apply A2s;simp
    simp only[execOp,ho,Sem.run_bind,hp,this]
    rfl
   ·refine⟨rfl,_,_,_,_,X7 hid,by rw[q1];exact D3 _,λ_=>?_⟩
    simp[Gh.slv,Gh.ext,q1]
  |none=>
   rw[hds] at g4
   obtain⟨q1,q2,q3⟩:=D4D (M:=M) (G:=G) (os:=os) (ca:=ca') (n:=n) (sz:=zs.length) hcl (by rw[g2.1,hcl]) (λj x u hx hu=>g2.2 j x u hx hu)
   have hsm:G7 M G os w M (G.ext id w.heap.size n) (os.set id (.rarr (S8 zs.length n cs') zs.length false)) (w.alloc (.cells ca' e)):=A3R he hid _ n (λ_ _ h=>h) (λ_ _ h=>.inl h) ⟨_,X7 hid⟩
   obtain⟨e1,e2⟩:=A90 he hid (.rarr (S8 zs.length n cs') zs.length false) (.cells ca' e) n ⟨hpos,q2,λh=>(by cases h),λ_=>⟨ca',e,by rw[A0b];exact A0d ..,by simp[Gh.ext,g2.1,hcl],by simp[Gh.ext,q1],by simp only[Gh.ext,if_true];exact hmx,λi j e x hi hj=>by
    obtain⟨u,hu,hv⟩:=q3 i j e x hi hj
    exact⟨u,hu,hv.since hsm⟩⟩⟩
   refine W1 (v:=.slice (some ⟨w.heap.size,0,none⟩) n n) (w':=w.alloc (.cells ca' e)) ?_ e1 e2 ?_ g4
   ·have:=A9D (P:=P) hu hs h1 h2 hpos hle g1 w
    have hp:(parts.map λp:Nat×Operand=>(p.1,a.eval p.2))=(parts.toList.map λ(i,x)=>(i,a.eval x)).toArray:=by apply A2s;simp
    simp only[execOp,ho,Sem.run_bind,hp,this]
    rfl
   ·refine⟨rfl,_,_,_,X7 hid,by rw[q1];exact D3 _,λ_=>?_⟩
    simp[Gh.slv,Gh.ext,q1]
 ·exact g4.elim
theorem C32{α β:Type}{f:α->β}{x:Option α}{y:β}(h:x.map f=some y):∃z,x=some z/\f z=y:=J7.1 h
theorem D8e(he:C9 M G os w){o:Oper}{t:TypeId}(ho:o.op=.makeMap t none)(h:A7 P ρ os K .mkmap):G6 P M G os w K (execOp a.eval o):=by
 have hnew:=A2l he (.map []) (.map #[] 0) 0
 refine W1 (v:=.map (some w.heap.size)) (w':=w.alloc (.map #[] 0)) ?_ (A3w he (.map []) (.map #[] 0) 0 (λa v=>A0v a v) ?_ (λ_ _ _ _ _ h=>by cases h)) hnew ?_ h
 ·simp[execOp,ho,Instr.makeMap]
 ·exact⟨#[],by rw[A0b];exact A0d ..,rfl,λj p e hp=>by simp at hp⟩
 ·exact⟨by simp[Gh.ext],[],A3S ..⟩
def skT:SK->TypeDesc->Prop
 |.i,.int _=>True
 |.s,.string=>True
 |.b,.bool=>True
 |_,_=>False
theorem C2h{t:TypeId}{sk:SK}(h:A5s P t=some sk):∃d,P.underlying t=some d/\skT sk d:=by
 unfold A5s at h
 split at h
 ·rename_i k hu;cases h;exact⟨_,hu,trivial⟩
 ·rename_i hu;cases h;exact⟨_,hu,trivial⟩
 ·rename_i hu;cases h;exact⟨_,hu,trivial⟩
 ·cases h
theorem C0m(a b:List UInt8):((⟨⟨a⟩⟩:ByteArray)==⟨⟨b⟩⟩)=(a==b):=by
 rw[A0n,MapKept.bytes_beq,beq_iff_eq]
 constructor
 ·intro h;injection h with h;injection h
 ·intro h;rw[h]
theorem D9d{sk:SK}{d:TypeDesc}(hd:skT sk d){key p:D}{kv pv:Value}(hk:Rd M key kv)(hp:Rd M p pv){b:Bool}(h:x7 sk key p=some b) :
  Instr.sameNow d kv pv=some b/\(b=true->pv=kv):=by
 unfold x7 at h
 split at h
 ·rename_i k x k' y
  cases hk;cases hp
  cases d<;>first|exact hd.elim|skip
  split at h
  ·rename_i e
   subst e
   cases h
   exact⟨by simp[Instr.sameNow],λe=>by rw[beq_iff_eq.1 e]⟩
  ·cases h
 ·cases hk;cases hp
  cases d<;>first|exact hd.elim|skip
  cases h
  exact⟨by simp[Instr.sameNow],λe=>by rw[beq_iff_eq.1 e]⟩
 ·rename_i x y
  cases hk;cases hp
  cases d<;>first|exact hd.elim|skip
  cases h
  exact⟨by simp only[Instr.sameNow,C0m],λe=>by rw[beq_iff_eq.1 e]⟩
 ·cases h
theorem A9E{sk:SK}{d:TypeDesc}(hd:skT sk d){t:TypeId}(hu:P.underlying t=some d)(e:Bool)(n:Nat)(kv:Value)(w:World):(Instr.checkKey e (n+1) t kv).run P w=.ok () w:=by
 unfold Instr.checkKey
 simp only[Sem.run_bind,run_underlying hu,Result.andThen]
 cases sk<;>cases d<;>first|exact hd.elim|rfl
theorem D7k{sk:SK}{d:TypeDesc}(hd:skT sk d){key:D}{kv:Value}(hk:Rd M key kv)(h:x7 sk key key≠none)(n:Nat):Instr.sameBits n kv kv=true:=by
 unfold x7 at h
 split at h
 ·cases hk;cases n<;>simp[Instr.sameBits]
 ·cases hk;cases n<;>simp[Instr.sameBits]
 ·cases hk;cases n<;>simp[Instr.sameBits,C0m]
 ·exact absurd rfl h
theorem B1Z{sk:SK}{d:TypeDesc}(hd:skT sk d){key:D}{kv:Value}(hk:Rd M key kv):∀(kvs:List (D×AV))(es:List MapEntry)(i:Nat),es.length=kvs.length->
  (∀(j:Nat) p e,kvs[j]?=some p->es[j]?=some e->Rd M p.1 e.key)->(∀p∈kvs,x7 sk key p.1≠none)->
  (A2Q sk key kvs=none/\(∀v,A12 sk key v kvs=kvs++[(key,v)])/\Instr.findNow d kv es i=some none)\/
  ∃j p e,kvs[j]?=some p/\es[j]?=some e/\A2Q sk key kvs=some p.2/\(∀v,A12 sk key v kvs=kvs.set j (key,v))/\Instr.findNow d kv es i=some (some (i+j,e.val))/\e.key=kv
 |[],[],i,_,_,_=>.inl ⟨rfl,λ_=>rfl,rfl⟩
 |[],_::_,i,h,_,_=>by simp at h
 |_::_,[],i,h,_,_=>by simp at h
 |p::kvs,e::es,i,hl,hr,hn=>by
  have hp:=hr 0 p e rfl rfl
  cases hb:x7 sk key p.1 with
  |none=>exact absurd hb (hn p (by simp))
  |some b=>
   obtain⟨h1,h2⟩:=D9d hd hk hp hb
   cases b with
   |true=>
    exact .inr ⟨0,p,e,rfl,rfl,by simp[A2Q,hb],λv=>by simp[A12,hb],by simp[Instr.findNow,h1],h2 rfl⟩
   |false=>
    rcases B1Z hd hk kvs es (i+1) (by simpa using hl) (λj p e hj he=>hr (j+1) p e (by simpa using hj) (by simpa using he)) (λp hp=>hn p (by simp[hp])) with ⟨a1,a2,a3⟩|⟨j,p',e',a1,a2,a3,a4,a5,a6⟩
    ·exact .inl ⟨by simp[A2Q,hb,a1],λv=>by simp[A12,hb,a2],by simp[Instr.findNow,h1,a3]⟩
    ·refine .inr ⟨j+1,p',e',by simpa using a1,by simpa using a2,by simp[A2Q,hb,a3],λv=>by simp[A12,hb,a4],?_,a6⟩
     simp only[Instr.findNow,h1,a5]
     congr 3
     omega
theorem A9n{c:AV}{v:Value}(h:VA M G os c v)(h1:c.one=true):VG M G os c v:=by
 refine A32 h (λts e=>?_) (λe=>?_)
 ·subst e;cases h1
 ·subst e;cases h1
theorem D9N{t:TypeId}{g:Bool}{zs:List D}(h:tzv P t=some (g,zs)):∃z,(∀w,(zeroValue t).run P w=.ok z w)/\VG M G os (zv g zs) z:=by
 unfold tzv at h
 obtain⟨i,hi,h⟩:=i7.1 h
 obtain⟨z,hz,h⟩:=i7.1 h
 refine⟨z,λw=>by simp[zeroValue,typeInfo,hi,hz],?_⟩
 split at h
 ·rename_i cs
  obtain⟨xs,hxs,e⟩:=C32 h
  cases e
  obtain⟨h1,h2⟩:=B2q (M:=M) hxs
  exact C01 (by simpa using h1.symm) (λj x u hx hu=>h2 j x u hx (by simpa using hu))
 ·rename_i hv
  obtain⟨x,hx,e⟩:=C32 h
  cases e
  exact B3f (M:=M) hx
theorem C2p{id:Nat}{r:AV}{v:Value}(h:lkK os id r λr=>K r os)(hv:VA M G os r v):∃r',VA M G os r' v/\K r' os:=by
 rcases h with h|⟨rfl,sz,frz,ho,h⟩
 ·exact⟨r,hv,h⟩
 ·refine⟨.arr (id+1) 0,⟨?_,_,_,_,_,ho,D3 _,λ_=>?_⟩,h⟩
  ·rw[A1R hv];rfl
  ·rw[A1R hv];simp[Gh.slv]
theorem D8b(he:C9 M G os w)(ht:J3 M G os ρ a){o:Oper}{t kt e:TypeId}{m k:Operand}{m' k':C1}{sk:SK}{ok g:Bool}{zs:List D}(ho:o.op=.lookup t m k ok)(hu:P.underlying t=some (.map kt e))(hkt:A5s P kt=some sk)(hz:tzv P e=some (g,zs))
  (hm:cO m=some m') (hk:cO k=some k') (h:A7 P ρ os K (.lkup sk ok g zs m' k')):G6 P M G os w K (execOp a.eval o):=by
 have e1:=I8 ht hm
 have e2:=I8 ht hk
 obtain⟨d,hd,hsk⟩:=C2h hkt
 simp only[A7] at h
 split at h
 ·rename_i id key h1 h2
  rw[h1] at e1
  rw[h2] at e2
  have e2:=A2p e2
  split at h
  ·rename_i kvs h3
   obtain⟨⟨hok1,hok2⟩,h⟩:=h
   obtain⟨hv,_⟩:=e1
   obtain⟨es,b1,b2,b3⟩:=he.obj id _ h3
   obtain⟨z,hz1,hz2⟩:=D9N (M:=M) (G:=G) (os:=os) hz
   have lift:∀(v:AV) (u:Value),VG M G os v u->(∃u2,VA M G os (if ok then .tup [v,.d (.bool true)] else v) u2/\u2=(if ok then .tuple #[u,.bool true] else u))/\VA M G os (if ok then .tup [v,.d (.bool false)] else v) (if ok then .tuple #[u,.bool false] else u):=by
    intro v u hvu
    have hva:VA M G os v u:=by
     cases v<;>first|exact hvu|trivial|exact hvu.elim
    cases ok with
    |false=>exact⟨⟨_,hva,rfl⟩,hva⟩
    |true=>
     refine⟨⟨_,⟨_,rfl,rfl,λj c u' hj hu=>?_⟩,rfl⟩,⟨_,rfl,rfl,λj c u' hj hu=>?_⟩⟩
     ·match j with
      |0=>simp at hj hu;subst hj;subst hu;exact hvu
      |1=>simp at hj hu;subst hj;subst hu;exact Rd.bool _
      |j+2=>simp at hj
     ·match j with
      |0=>simp at hj hu;subst hj;subst hu;exact hvu
      |1=>simp at hj hu;subst hj;subst hu;exact Rd.bool _
      |j+2=>simp at hj
   rcases B1Z hsk e2 kvs es.toList 0 (by simpa using b2) (λj p e hp he=>(b3 j p e hp (by simpa using he)).2.1) hok1 with ⟨a1,_,a3⟩|⟨j,p,en,a1,a2,a3,_,a5,_⟩
   ·rw[a1] at h
    obtain⟨r',hva',h⟩:=C2p h (lift _ _ hz2).2
    refine L4 he (v:=if ok then .tuple #[z,.bool false] else z) ?_ hva' h
    simp only[execOp,ho,hv,Instr.lookup,Sem.run_bind,run_underlying hu,MapKept.run_getObj_map b1,Result.andThen,A9E hsk hd,MapKept.run_findKey hd a3,hz1,Sem.run_pure]
   ·rw[a3] at h
    have hvg:=(b3 j p en a1 (by simpa using a2)).2.2
    have hva0:VA M G os (if ok then .tup [p.2,.d (.bool true)] else p.2) (if ok then .tuple #[en.val,.bool true] else en.val):=by obtain⟨⟨u2,q1,rfl⟩,_⟩:=lift _ _ hvg;exact q1
    obtain⟨r',hva',h⟩:=C2p h hva0
    refine L4 he (v:=if ok then .tuple #[en.val,.bool true] else en.val) ?_ hva' h
    simp only[execOp,ho,hv,Instr.lookup,Sem.run_bind,run_underlying hu,MapKept.run_getObj_map b1,Result.andThen,A9E hsk hd,MapKept.run_findKey hd a5,Sem.run_pure]
  ·exact h.elim
 ·exact h.elim
theorem D8g(he:C9 M G os w)(ht:J3 M G os ρ a){o:Oper}{t kt e:TypeId}{m k v:Operand}{m' k' v':C1}{sk:SK}(ho:o.op=.mapUpdate t m k v)(hu:P.underlying t=some (.map kt e))(hkt:A5s P kt=some sk)
  (hm:cO m=some m') (hk:cO k=some k') (hvx:cO v=some v') (h:A7 P ρ os K (.mupd sk m' k' v')):G6 P M G os w K (execOp a.eval o):=by
 have e1:=I8 ht hm
 have e2:=I8 ht hk
 have e3:=I8 ht hvx
 obtain⟨d,hd,hsk⟩:=C2h hkt
 simp only[A7] at h
 split at h
 ·rename_i id key h1 h2
  rw[h1] at e1
  rw[h2] at e2
  have e2:=A2p e2
  split at h
  ·rename_i kvs h3
   obtain⟨⟨hok1,hok2⟩,hone,h⟩:=h
   obtain⟨hv,_⟩:=e1
   obtain⟨es,b1,b2,b3⟩:=he.obj id _ h3
   have hlt:=(A01.1 b1).1
   have e3:=A9n e3 hone
   -- a changed map in its own block
   have fin:∀(es':Array MapEntry) (kvs':List (D×AV)),kvs'=A12 sk key (C0 ρ v') kvs->es'.size=kvs'.length->(∀(j:Nat) p e,kvs'[j]?=some p->es'[j]?=some e->e.born=j/\Rd M p.1 e.key/\VG M G os p.2 e.val)->
     (Instr.mapUpdate t (.map (some (G.blk id))) (a.eval k) (a.eval v)).run P w=.ok () {w with heap:=w.heap.setIfInBounds (G.blk id) (.map es' es'.size)}->G6 P M G os w K (execOp a.eval o):=by
    intro es' kvs' hkv q1 q2 q3
    subst hkv
    let w':World:={w with heap:=w.heap.setIfInBounds (G.blk id) (.map es' es'.size)}
    have hoth:∀b,b≠G.blk id->w'.heap[b]?=w.heap[b]?:=λb hb=>by
     show(w.heap.setIfInBounds _ _)[b]?=_
     rw[A1V (by omega)]
    have hK:P4 G G id (os.set id (.map (A12 sk key (C0 ρ v') kvs))) (.map kvs):=⟨rfl,_,X7 h3⟩
    have hnoM:∀y u,M y=some u->y.block=G.blk id->False:=λy u hy hb=>by
     obtain⟨es,sz,frz,nl,h6,_⟩:=he.sep id y u (H6.map h3) hy hb
     rw[h3] at h6;cases h6
    have hsu:G7 M G os w M G (os.set id (.map (A12 sk key (C0 ρ v') kvs))) w':=A0B he h3 rfl rfl rfl rfl (by simp[w']) hoth (λ_ _ h=>h) (λ_ _ h=>.inl h) hK
    refine B2A (w':=w') ?_
     (A1B he h3 rfl rfl rfl rfl (by simp[w']) hoth (λ_ _ h=>h) (λ_ _ h=>.inl h) hK (λ_ _=>rfl) (λy u hy hb=>(hnoM y u hy hb).elim) (λy u hy hb=>(hnoM y u hy hb).elim) ?_) hsu h
    ·simp only[execOp,ho,hv,Sem.run_bind,q3,Result.andThen]
     rfl
    ·refine⟨es',?_,q1,λj p e hp he=>?_⟩
     ·show(w.heap.setIfInBounds _ _)[_]?=_
      simp[hlt]
     ·obtain⟨c1,c2,c3⟩:=q2 j p e hp he
      exact⟨c1,c2,c3.since hsu⟩
   rcases B1Z hsk e2 kvs es.toList 0 (by simpa using b2) (λj p e hp he=>(b3 j p e hp (by simpa using he)).2.1) hok1 with ⟨a1,a2,a3⟩|⟨j,p,en,a1,a2,a3,a4,a5,a6⟩
   ·refine fin (es.push {key:=a.eval k,val:=a.eval v,born:=es.size}) _ (a2 _).symm (by simp[b2]) (λi p e hp he=>?_) ?_
    ·by_cases hi:i<kvs.length
     ·rw[P8 hi] at hp
      rw[A3Z,if_neg (by omega)] at he
      exact b3 i p e hp he
     ·have hi2:=(B4.1 hp).1
      simp at hi2
      have:i=kvs.length:=by omega
      subst this
      rw[W4 (D3 _)] at hp
      simp at hp
      rw[A3Z,if_pos (by omega)] at he
      simp at he
      subst hp;subst he
      exact⟨b2,e2,e3⟩
    ·simp only[Instr.mapUpdate,Sem.run_bind,run_underlying hu,MapKept.run_getObj_map b1,Result.andThen,A9E hsk hd,MapKept.run_findKey hd a3,MapKept.run_setObj_map _ b1]
     simp
   ·refine fin (es.modify j λe=>{e with key:=a.eval k,val:=a.eval v}) _ (a4 _).symm (by simp[b2]) (λi p' e' hp he=>?_) ?_
    ·rw[Array.getElem?_modify] at he
     by_cases hij:j=i
     ·subst hij
      rw[if_pos rfl] at he
      have ha2:es[j]?=some en:=by simpa using a2
      rw[ha2] at he
      simp at he
      have hj:=(B4.1 a1).1
      rw[List.getElem?_set_self hj] at hp
      cases hp
      subst he
      exact⟨(b3 j p en a1 ha2).1,e2,e3⟩
     ·rw[if_neg hij] at he
      rw[i0 hij] at hp
      exact b3 i p' e' hp he
    ·have hkt:(Instr.keyThatStays (((es[0+j]?).map (·.key)).getD (a.eval k)) (a.eval k)).run P w=.ok (a.eval k) w:=by
      have ha2:es[0+j]?=some en:=by simpa using a2
      rw[ha2]
      simp only[A0R,A04,a6]
      simp[Instr.keyThatStays,D7k hsk e2 hok2]
     simp only[Instr.mapUpdate,Sem.run_bind,run_underlying hu,MapKept.run_getObj_map b1,Result.andThen,A9E hsk hd,MapKept.run_findKey hd a5,hkt,MapKept.run_setObj_map _ b1]
     simp
  ·exact h.elim
 ·exact h.elim
theorem D8l(he:C9 M G os w)(ht:J3 M G os ρ a){o:Oper}{t kt e:TypeId}{x:Operand}{x':C1}(ho:o.op=.range t x)(hx:cO x=some x')(hu:P.underlying t=some (.map kt e))(h:A7 P ρ os K (.rmap x')):G6 P M G os w K (execOp a.eval o):=by
 have e1:=I8 ht hx
 simp only[A7] at h
 split at h
 ·rename_i id h1
  rw[h1] at e1
  split at h
  ·rename_i kvs h3
   obtain⟨hv,_⟩:=e1
   obtain⟨es,b1,b2,b3⟩:=he.obj id _ h3
   have hlt:=(B4.1 h3).1
   have hnew:=A2l he (.mit id kvs.length []) (.mapIter (some (G.blk id)) kvs.length #[] kvs.length) 0
   refine W1 (v:=.pointer (some ⟨w.heap.size,0,none⟩)) (w':=w.alloc (.mapIter (some (G.blk id)) kvs.length #[] kvs.length)) ?_ (A3w he (.mit id kvs.length []) (.mapIter (some (G.blk id)) kvs.length #[] kvs.length) 0 (λa v=>A0v a v) ?_ (λ_ _ _ _ _ h=>by cases h)) hnew ?_ h
   ·have:=run_range_map (P:=P) w t kt e (G.blk id) es es.size hu b1
    rw[b2] at this
    simp[execOp,ho,hv,this]
   ·refine⟨?_,kvs,by rw[P8 hlt];exact h3⟩
    rw[A0b,show(G.ext os.length w.heap.size 0).blk id=G.blk id by simp[Gh.ext];omega]
    exact A0d ..
   ·exact⟨by simp[Gh.ext],_,_,_,A3S ..⟩
  ·exact h.elim
 ·exact h.elim
theorem D9b(w:World)(ty:TypeId)(r bm since c0:Nat)(seen:Array Nat)(es:Array MapEntry)(clock:Nat)(hr:w.heap[r]?=some (.mapIter (some bm) since seen c0))(hb:w.heap[bm]?=some (.map es clock))(hold:∀x∈es.toList,x.born<since)(hsc:since<=c0) :
  ((leftOf es seen).size=0/\(Instr.next (.pointer (some ⟨r,0,none⟩)) false ty).run P w=.ok (.tuple #[.bool false]) w)\/
  ∃e∈(leftOf es seen).toList,∃w1:World,(w1=w\/w1=w.drew)/\(Instr.next (.pointer (some ⟨r,0,none⟩)) false ty).run P w=.ok (.tuple #[.bool true,e.key,e.val]) {w1 with heap:=w1.heap.setIfInBounds r (.mapIter (some bm) since (seen.push e.born) clock)}:=by
 simp only[Instr.next,getObj,Sem.run_bind,Sem.run,hr,hb,Result.andThen,next_test_false seen es since c0 hold hsc,O2,if_false]
 unfold leftOf
 have hmem:∀x∈(Array.filter (λe=>!seen.contains e.born) es).toList,x.born<since:=λx hx=>hold x (by simp at hx ⊢;exact hx.1)
 generalize Array.filter (λe=>!seen.contains e.born) es=L at hmem ⊢
 have e1:L.filter (λx=>decide (x.born<since))=L:=Array.filter_eq_self.2 (λx hx=>by simpa using hmem x (by simpa using hx))
 have e2:L.filter (λx=>decide (x.born>=since))=#[]:=by
  rw[Array.filter_eq_empty_iff]
  intro x hx
  have:=hmem x (by simpa using hx)
  simp
  omega
 simp only[e1,e2,A37]
 by_cases h0:L.size=0
 ·left
  have:L=#[]:=Array.eq_empty_of_size_eq_zero h0
  subst this
  refine⟨rfl,?_⟩
  simp[choose,Sem.run,Question.forced]
 ·right
  have hne:L.isEmpty=false:=by simp[Array.isEmpty,h0]
  simp only[hne,O2,if_false,A3Y,Array.size_map]
  have hch:∃(j:Nat) (w1:World),j<L.size/\(w1=w\/w1=w.drew)/\(choose (Question.mapNext L.size)).run P w=.ok j w1:=by
   by_cases hf:L.size<=1
   ·exact⟨0,w,by omega,.inl rfl,by simp[choose,Sem.run,Question.forced,hf]⟩
   ·exact⟨_,w.drew,Nat.mod_lt _ (by omega),.inr rfl,by
     simp only[choose,Sem.run,Question.forced,decide_eq_true_eq,hf,if_false,Question.cut]
     rfl⟩
  obtain⟨j,w1,hj,hal,hrun⟩:=hch
  refine⟨L[j],by simp,w1,hal,?_⟩
  have hr1:w1.heap[r]?=some (.mapIter (some bm) since seen c0):=by rcases hal with rfl|rfl<;>exact hr
  simp only[hrun,Array.getElem?_map,O0 hj,A0R,Sem.run_bind,setObj,Sem.run,hr1,Result.andThen]
  rfl
theorem D8i(he:C9 M G os w)(ht:J3 M G os ρ a){o:Oper}{x:Operand}{x':C1}(ho:o.op=.next x false)(hx:cO x=some x')(h:A7 P ρ os K (.nmap x')):G6 P M G os w K (execOp a.eval o):=by
 have e1:=I8 ht hx
 simp only[A7] at h
 split at h
 ·rename_i id h1
  rw[h1] at e1
  split at h
  ·rename_i m n seen h2
   split at h
   ·rename_i kvs h3
    obtain⟨hn,hyes,hno⟩:=h
    subst hn
    obtain⟨hv,_⟩:=e1
    obtain⟨c1,_⟩:=he.obj id _ h2
    obtain⟨es,b1,b2,b3⟩:=he.obj m _ h3
    have hlt:=(A01.1 c1).1
    have hborn:∀(j:Nat) (hj:j<es.size),es[j].born=j:=λj hj=>by
     have hp:kvs[j]?=some kvs[j]:=F4 (by omega)
     exact(b3 j _ _ hp (O0 hj)).1
    have hold:∀y∈es.toList,y.born<kvs.length:=λy hy=>by
     obtain⟨j,hj,rfl⟩:=A1n.1 hy
     have hj':j<es.size:=by simpa using hj
     have:=hborn j hj'
     simp only[Array.getElem_toList]
     omega
    rcases D9b (P:=P) w o.type (G.blk id) (G.blk m) kvs.length kvs.length seen.toArray es es.size c1 b1 hold (D3 _) with ⟨q1,q2⟩|⟨en,q1,w1,q2,q3⟩
    ·refine L4 he (v:=.tuple #[.bool false]) (by simp only[execOp,ho,hv,Sem.run_bind,q2,Result.andThen];rfl) ?_ (hno λi hi=>?_)
     ·refine⟨_,rfl,rfl,λj c u hj hu=>?_⟩
      match j with
      |0=>simp at hj hu;subst hj;subst hu;exact Rd.bool _
      |j+1=>simp at hj
     ·have hi':i<es.size:=by omega
      have:=Array.eq_empty_of_size_eq_zero q1
      unfold leftOf at this
      rw[Array.filter_eq_empty_iff] at this
      have:=this es[i] (Array.getElem_mem hi')
      simpa[hborn i hi'] using this
    ·unfold leftOf at q1
     simp at q1
     obtain⟨q4,q5⟩:=q1
     obtain⟨i,hi,rfl⟩:=Array.mem_iff_getElem.1 q4
     rw[hborn i hi] at q3 q5
     have hp:kvs[i]?=some kvs[i]:=F4 (by omega)
     have hk:=hyes i _ q5 hp
     obtain⟨d1,d2,d3⟩:=b3 i _ _ hp (O0 hi)
     have he1:C9 M G os w1:=by rcases q2 with rfl|rfl;exact he;exact he.drew
     have hs1:G7 M G os w M G os w1:=by rcases q2 with rfl|rfl;exact G7.refl ..;exact A4x ..
     have hhp:w1.heap=w.heap:=by rcases q2 with rfl|rfl<;>rfl
     let w':World:={w1 with heap:=w1.heap.setIfInBounds (G.blk id) (.mapIter (some (G.blk m)) kvs.length (seen.toArray.push i) es.size)}
     have hoth:∀b,b≠G.blk id->w'.heap[b]?=w1.heap[b]?:=λb hb=>by
      show(w1.heap.setIfInBounds _ _)[b]?=_
      rw[A1V (by omega)]
     have hK:P4 G G id (os.set id (.mit m kvs.length (seen++[i]))) (.mit m kvs.length seen):=⟨rfl,_,_,_,X7 h2⟩
     have hnoM:∀y u,M y=some u->y.block=G.blk id->False:=λy u hy hb=>by
      obtain⟨es,sz,frz,nl,h6,_⟩:=he.sep id y u (H6.mit h2) hy hb
      rw[h2] at h6;cases h6
     have hne:id≠m:=λe=>by subst e;rw[h2] at h3;cases h3
     have hsu:G7 M G os w1 M G (os.set id (.mit m kvs.length (seen++[i]))) w':=A0B he1 h2 rfl rfl rfl rfl (by simp[w']) hoth (λ_ _ h=>h) (λ_ _ h=>.inl h) hK
     refine W1 (v:=.tuple #[.bool true,es[i].key,es[i].val]) (w':=w') (by simp only[execOp,ho,hv,Sem.run_bind,q3,Result.andThen];rfl)
      (A1B he1 h2 rfl rfl rfl rfl (by simp[w']) hoth (λ_ _ h=>h) (λ_ _ h=>.inl h) hK (λ_ _=>rfl) (λy u hy hb=>(hnoM y u hy hb).elim) (λy u hy hb=>(hnoM y u hy hb).elim) ?_) (hs1.trans hsu) ?_ hk
     ·refine⟨?_,kvs,by rw[i0 hne];exact h3⟩
      show(w1.heap.setIfInBounds _ _)[_]?=_
      rw[Array.getElem?_setIfInBounds_self_of_lt (by rw[hhp];exact hlt),b2]
      simp
     ·refine⟨_,rfl,rfl,λj c u hj hu=>?_⟩
      match j with
      |0=>simp at hj hu;subst hj;subst hu;exact Rd.bool _
      |1=>simp at hj hu;subst hj;subst hu;exact d2
      |2=>simp at hj hu;subst hj;subst hu;exact(d3.since hs1).since hsu
      |j+3=>simp at hj
   ·exact h.elim
  ·exact h.elim
 ·exact h.elim
theorem C1C:∀(l:List MapEntry)(k i:Nat)(e:MapEntry),(∀(j:Nat) x,l[j]?=some x->x.born=k+j)->l[i]?=some e->l.find? (λx=>x.born==k+i)=some e
 |[],k,i,e,h,he=>by simp at he
 |x::l,k,0,e,h,he=>by
  simp at he
  subst he
  have:=h 0 x rfl
  simp[this]
 |x::l,k,i+1,e,h,he=>by
  have h0:=h 0 x rfl
  have:=C1C l (k+1) i e (λj y hj=>by rw[h (j+1) y (by simpa using hj)];omega) (by simpa using he)
  rw[List.find?_cons_of_neg (by simp[h0])]
  rw[show k+(i+1)=k+1+i by omega]
  exact this
theorem D7X(he:C9 M G os w)(ht:J3 M G os ρ a){o:Oper}{x:Operand}{x':C1}(ho:o.op=.entry x)(hx:cO x=some x')(h:A7 P ρ os K (.entry x')):G6 P M G os w K (execOp a.eval o):=by
 have e1:=I8 ht hx
 simp only[A7] at h
 split at h
 ·rename_i id h1
  rw[h1] at e1
  split at h
  ·rename_i m n seen h2
   split at h
   ·rename_i kvs h3
    obtain⟨hn,h⟩:=h
    subst hn
    split at h
    ·rename_i i hi
     split at h
     ·rename_i p hp
      obtain⟨hv,_⟩:=e1
      obtain⟨c1,_⟩:=he.obj id _ h2
      obtain⟨es,b1,b2,b3⟩:=he.obj m _ h3
      have hil:i<es.size:=by rw[b2];exact(B4.1 hp).1
      obtain⟨d1,d2,d3⟩:=b3 i _ _ hp (O0 hil)
      have hf:es.find? (λy=>y.born==i)=some es[i]:=by
       rw[<- Array.find?_toList]
       have:=C1C es.toList 0 i es[i] (λj y hj=>by
        have hj':es[j]?=some y:=by simpa using hj
        have hjl:=(A01.1 hj').1
        rw[(b3 j kvs[j] y (F4 (by omega)) hj').1];omega) (by simp[hil])
       simpa using this
      have hbk:seen.toArray.back?=some i:=by rw[List.back?_toArray];exact hi
      refine L4 (r:=.tup [.d p.1,p.2]) he (v:=.tuple #[es[i].key,es[i].val]) ?_ ⟨_,rfl,rfl,λj c u hj hu=>?_⟩ h
      ·simp only[execOp,ho,hv,Instr.entry,getObj,Sem.run_bind,Sem.run,c1,b1,hbk,Result.andThen,hf,b2]
       simp
      ·match j with
       |0=>simp at hj hu;subst hj;subst hu;exact d2
       |1=>simp at hj hu;subst hj;subst hu;exact d3
       |j+2=>simp at hj
     ·exact h.elim
    ·exact h.elim
   ·exact h.elim
  ·exact h.elim
 ·exact h.elim
end
end Go.Bi
