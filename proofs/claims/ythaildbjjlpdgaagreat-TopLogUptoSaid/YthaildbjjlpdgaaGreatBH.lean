/- Soundness of what makes memory: variables, literals, made and grown slices, iterators. No condition. -/
import Derived.Test.YthaildbjjlpdgaaGreatBG
import Derived.ChangeKeysEq
set_option linter.unusedVariables false
namespace Go.Bi
set_option linter.unusedSectionVars false
variable [Globs]
section
variable {P:Program}{M:Mem}{G:Gh}{os:List AO}{w:World}{ρ:Rho}{a:Act}{K:AV->List AO->Prop}
theorem heap_new(w:World)(ob:Obj):(w.alloc ob).heap[w.heap.size]?=some ob:=by
 show(w.heap.push ob)[w.heap.size]?=_
 simp
theorem ext_blk(G:Gh)(n b c:Nat):(G.ext n b c).blk n=b:=by simp[Gh.ext]
theorem ext_cap(G:Gh)(n b c:Nat):(G.ext n b c).cap n=c:=by simp[Gh.ext]
theorem tz_zero{t:TypeId}{zs:List D}(h:tz P t=some zs):∃z,(∀w,(zeroValue t).run P w=.ok z w)/\z.cells.size=zs.length/\∀(j:Nat) x u,zs[j]?=some x->z.cells[j]?=some u->Rd M x u:=by
 unfold tz at h
 obtain⟨i,hi,h⟩:=Option.bind_eq_some_iff.1 h
 obtain⟨z,hz,h⟩:=Option.bind_eq_some_iff.1 h
 obtain⟨h1,h2⟩:=mapM_toD (M:=M) h
 refine⟨z,λw=>by simp[zeroValue,typeInfo,hi,hz],by simp[h1],λj x u hx hu=>h2 j x u hx (by simpa using hu)⟩
theorem tz_info{t:TypeId}{zs:List D}(h:tz P t=some zs):∃i z,P.info? t=some i/\i.zero=some z/\(∀w,(zeroValue t).run P w=.ok z w):=by
 unfold tz at h
 obtain⟨i,hi,h⟩:=Option.bind_eq_some_iff.1 h
 obtain⟨z,hz,h⟩:=Option.bind_eq_some_iff.1 h
 exact⟨i,z,hi,hz,λw=>by simp[zeroValue,typeInfo,hi,hz]⟩
theorem ok_alloc(he:Env M G os w){o:Oper}{t:TypeId}{zs:List D}(ho:o.op=.alloc t)(hz:tz P t=some zs)(h:opI P ρ os K (.alloc zs)):OpOK P M G os w K (execOp a.eval o):=by
 obtain⟨z,h1,h2,h3⟩:=tz_zero (M:=M) hz
 have hnew:=since_new he (.cells (zs.map .d)) (.cells z.cells t) 0
 refine ok_next (v:=.pointer (some ⟨w.heap.size,0,none⟩)) (w':=w.alloc (.cells z.cells t)) ?_ (env_new he (.cells (zs.map .d)) (.cells z.cells t) 0 (λa v=>cell_alloc_old a v) ?_ (λ_ _ _ _ _ h=>by cases h)) hnew ?_ h
 ·simp[execOp,ho,Instr.alloc,h1,newVar,newRow]
 ·refine⟨z.cells,t,?_,by simp[h2],λj c u hc hu=>?_⟩
  ·rw[ext_blk];exact heap_new ..
  ·rw[List.getElem?_map] at hc
   obtain⟨x,hx,rfl⟩:=Option.map_eq_some_iff.1 hc
   exact h3 j x u hx hu
 ·exact⟨by simp[Gh.ext],_,by simp;rfl⟩
theorem ok_box(he:Env M G os w)(ht:Tmps M G os ρ a){o:Oper}{t:TypeId}{x:Operand}{x':Opd}{n:Nat}(ho:o.op=.box t x)(hx:cO x=some x')(h:opI P ρ os K (.box n x')):OpOK P M G os w K (execOp a.eval o):=by
 have e1:=cO_ev ht hx
 simp only[opI] at h
 split at h
 ·rename_i xs hxs
  obtain⟨c1,c2⟩:=cells_of hxs e1
  have hnew:=since_new he (.cells xs) (.cells (a.eval x).cells t) 0
  refine ok_next (v:=.pointer (some ⟨w.heap.size,0,none⟩)) (w':=w.alloc (.cells (a.eval x).cells t)) ?_ (env_new he (.cells xs) (.cells (a.eval x).cells t) 0 (λa v=>cell_alloc_old a v) ?_ (λ_ _ _ _ _ h=>by cases h)) hnew ?_ h.2
  ·simp[execOp,ho,Instr.box,newVar,newRow]
  ·exact⟨_,t,by rw[ext_blk];exact heap_new ..,c1,λj c u hc hu=>(c2 j c u hc hu).since hnew⟩
  ·exact⟨by simp[Gh.ext],_,by simp;rfl⟩
 ·exact h.elim
theorem foldl_fill(off:Nat):∀(vs:List Value) (s:Nat) (cs:Array Value),off+s+vs.length<=cs.size->
  ((vs.zipIdx s).foldl (λcs (c,j)=>cs.setIfInBounds (off+j) c) cs).toList=setR cs.toList (off+s) vs
 |[],s,cs,h=>by simp[setR]
 |v::vs,s,cs,h=>by
  simp only[List.zipIdx_cons,List.foldl_cons]
  rw[foldl_fill off vs (s+1) _ (by simp at h ⊢;omega)]
  apply List.ext_getElem?
  intro k
  simp only[List.length_cons] at h
  rw[setR_get _ _ _ (by simp;omega),setR_get _ _ _ (by simp;omega)]
  simp only[Array.toList_setIfInBounds,List.length_cons,List.getElem?_set]
  by_cases h1:k<off+s
  ·rw[if_pos (by omega),if_pos h1,if_neg (by omega)]
  ·rw[if_neg h1]
   by_cases h2:k=off+s
   ·subst h2
    rw[if_pos (by omega),if_pos rfl,if_pos (by simp;omega),if_pos (by omega)]
    simp
   ·rw[if_neg (by omega)]
    by_cases h3:k<off+s+1+vs.length
    ·rw[if_pos (by omega),if_pos (by omega)]
     rw[show k-(off+s)=(k-(off+(s+1)))+1 by omega]
     simp
    ·rw[if_neg (by omega),if_neg (by omega),if_neg (by omega)]
def Cs(M:Mem)(G:Gh)(os:List AO)(cs:List AV)(ca:Array Value):Prop:=ca.size=cs.length/\∀(j:Nat) c u,cs[j]?=some c->ca[j]?=some u->VC M G os c u
theorem fill_ok(ht:Tmps M G os ρ a){place:Nat->Option (Nat×Nat)}:∀(parts:List (Nat×Operand)) (ps:List (Nat×Nat×Opd)),cParts place parts=some ps->∀(cs:List AV) (ca:Array Value) {K:List AV->Prop},
  Cs M G os cs ca->fillA ρ ps cs K->∃cs' ca',Instr.fill place ca (parts.map λ(i,x)=>(i,a.eval x))=some ca'/\Cs M G os cs' ca'/\cs'.length=cs.length/\K cs'
 |[],ps,hp,cs,ca,K,hc,h=>by
  simp only[cParts] at hp
  cases hp
  exact⟨cs,ca,rfl,hc,rfl,h⟩
 |(i,x)::parts,ps,hp,cs,ca,K,hc,h=>by
  simp only[cParts] at hp
  split at hp
  ·rename_i off n x' ps' e1 e2 e3
   cases hp
   simp only[fillA] at h
   split at h
   ·rename_i xs hxs
    obtain⟨h1,h2,h3⟩:=h
    obtain⟨c1,c2⟩:=cells_of hxs (cO_ev ht e2)
    have hf:=foldl_fill off (a.eval x).cells.toList 0 ca (by simp;have:=hc.1;omega)
    have hcs:Cs M G os (setR cs off xs) ((a.eval x).cells.zipIdx.foldl (λcs (c,j)=>cs.setIfInBounds (off+j) c) ca):=by
     have hf':((a.eval x).cells.zipIdx.foldl (λcs (c,j)=>cs.setIfInBounds (off+j) c) ca).toList=setR ca.toList off (a.eval x).cells.toList:=by
      rw[<- Array.foldl_toList,Array.toList_zipIdx]
      exact hf
     refine⟨?_,λj c u hj hu=>?_⟩
     ·rw[<- Array.length_toList,hf',setR_length _ _ _ (by simp;have:=hc.1;omega),setR_length _ _ _ (by omega)]
      simpa using hc.1
     ·rw[<- list_get,hf',setR_get _ _ _ (by simp;have:=hc.1;omega)] at hu
      rw[setR_get _ _ _ (by omega)] at hj
      split at hj
      ·rw[if_pos ‹_›] at hu
       exact hc.2 j c u hj (by simpa using hu)
      ·rename_i hno
       rw[if_neg hno] at hu
       split at hj
       ·rw[if_pos (by simp;omega)] at hu
        exact c2 _ c u hj (by simpa using hu)
       ·rw[if_neg (by simp;omega)] at hu
        exact hc.2 j c u hj (by simpa using hu)
    obtain⟨cs',ca',g1,g2,g3,g4⟩:=fill_ok ht parts ps' e3 _ _ hcs h3
    refine⟨cs',ca',?_,g2,by rw[g3,setR_length _ _ _ (by omega)],g4⟩
    simp only[List.map_cons,Instr.fill,e1]
    rw[if_neg]
    ·exact g1
    ·have:=hc.1
     simp
     omega
   ·exact h.elim
  ·cases hp
theorem run_mapM_list{α β:Type}{f:α->Sem β}{g:α->Option β}(hf:∀x y,g x=some y->∀w,(f x).run P w=.ok y w):∀(l:List α) (r:List β),l.mapM g=some r->∀w,(l.mapM f).run P w=.ok r w
 |[],r,h,w=>by simp at h;subst h;rfl
 |x::l,r,h,w=>by
  simp only[List.mapM_cons,Option.bind_eq_bind,Option.bind_eq_some_iff] at h
  obtain⟨y,hy,ys,hys,hp⟩:=h
  simp at hp
  subst hp
  simp only[List.mapM_cons,Sem.run_bind,hf x y hy,Result.andThen_ok,run_mapM_list hf l ys hys,Sem.run_pure]
theorem run_places{fs:Array Field}{l:List (Nat×Nat)}(h:fs.toList.mapM (λf=>(tsz P f.type).map λn=>(f.offset,n))=some l)(w:World) :
  (fs.mapM λf=>(do pure (f.offset,<- sizeOf f.type):Sem (Nat×Nat))).run P w=.ok l.toArray w:=by
 rw[Array.mapM_eq_mapM_toList]
 have:=run_mapM_list (P:=P) (f:=λf:Field=>(do pure (f.offset,<- sizeOf f.type):Sem (Nat×Nat))) (g:=λf=>(tsz P f.type).map λn=>(f.offset,n)) (λf y hy w=>by
  obtain⟨n,hn,rfl⟩:=Option.map_eq_some_iff.1 hy
  simp[run_size hn]) fs.toList l h w
 rw[Sem.run_map,this]
 rfl
theorem ok_build(he:Env M G os w)(ht:Tmps M G os ρ a){o:Oper}{t:TypeId}{parts:Array (Nat×Operand)}{pl:Nat->Option (Nat×Nat)}{zs:List D}{ps:List (Nat×Nat×Opd)}(ho:o.op=.build t parts)(hz:tz P t=some zs)(hp:placeOf P t=some pl)
  (hps:cParts pl parts.toList=some ps) (h:opI P ρ os K (.build zs ps)):OpOK P M G os w K (execOp a.eval o):=by
 obtain⟨z,h1,h2,h3⟩:=tz_zero (M:=M) hz
 simp only[opI] at h
 have hcs:Cs M G os (zs.map .d) z.cells:=⟨by simp[h2],λj c u hc hu=>by
  rw[List.getElem?_map] at hc
  obtain⟨x,hx,rfl⟩:=Option.map_eq_some_iff.1 hc
  exact h3 j x u hx hu⟩
 obtain⟨cs',ca',g1,g2,g3,g4⟩:=fill_ok ht parts.toList ps hps _ _ hcs h
 have hm:(parts.map λ(i,x)=>(i,a.eval x)).toList=parts.toList.map λ(i,x)=>(i,a.eval x):=by simp
 refine ok_value he (v:=.agg ca') (r:=.agg cs') ?_ ⟨ca',rfl,g2.1,g2.2⟩ g4
 unfold placeOf at hp
 split at hp
 ·rename_i fs hu
  obtain⟨l,hl,rfl⟩:=Option.map_eq_some_iff.1 hp
  have hfun:(λi:Nat=>l.toArray[i]?)=(λi:Nat=>l[i]?):=by funext i;simp
  simp only[execOp,ho,Instr.build,Sem.run_bind,h1,Result.andThen_ok,run_underlying hu,run_places hl,hm,hfun,g1,Sem.run_pure]
 ·rename_i n e hu
  obtain⟨sz,hsz,rfl⟩:=Option.map_eq_some_iff.1 hp
  simp only[execOp,ho,Instr.build,Sem.run_bind,h1,Result.andThen_ok,run_underlying hu,run_size hsz,hm,g1,Sem.run_pure]
 ·cases hp
theorem flatten_replicate_get{α:Type}(l:List α):∀(n k:Nat),(List.replicate n l).flatten[k]?=if k<n*l.length then l[k % l.length]? else none
 |0,k=>by simp
 |n+1,k=>by
  rw[List.replicate_succ,List.flatten_cons]
  by_cases h:k<l.length
  ·rw[List.getElem?_append_left h,if_pos (by rw[Nat.add_mul];omega),Nat.mod_eq_of_lt h]
  ·rw[List.getElem?_append_right (by omega),flatten_replicate_get l n,Nat.add_mul,Nat.one_mul]
   by_cases h2:k-l.length<n*l.length
   ·rw[if_pos h2,if_pos (by omega),<- Nat.mod_eq_sub_mod (by omega)]
   ·rw[if_neg h2,if_neg (by omega)]
theorem chunks_length{α:Type}(sz:Nat):∀(n:Nat) (l:List α),(chunks sz n l).length=n
 |0,_=>rfl
 |n+1,l=>by simp[chunks,chunks_length sz n]
theorem chunks_get{α:Type}(sz:Nat):∀(n:Nat) (l:List α) (i:Nat),(chunks sz n l)[i]?=if i<n then some ((l.drop (i*sz)).take sz) else none
 |0,l,i=>by simp[chunks]
 |n+1,l,0=>by simp[chunks]
 |n+1,l,i+1=>by
  simp only[chunks,List.getElem?_cons_succ,chunks_get sz n,Nat.add_lt_add_iff_right,List.drop_drop]
  rw[show sz+i*sz=(i+1)*sz by rw[Nat.add_mul];omega]
theorem zero_cells{z:Value}{zs:List D}(h2:z.cells.size=zs.length)(h3:∀(j:Nat) x u,zs[j]?=some x->z.cells[j]?=some u->Rd M x u)(n:Nat)(hpos:0<zs.length) :
  Cs M G os ((List.replicate n zs).flatten.map .d) (madeCells z.cells (n*zs.length)):=by
 refine⟨by rw[size_madeCells];simp[List.length_flatten,List.map_replicate,List.sum_replicate_nat],λj c u hc hu=>?_⟩
 rw[List.getElem?_map,flatten_replicate_get] at hc
 split at hc
 ·rename_i hj
  obtain⟨x,hx,rfl⟩:=Option.map_eq_some_iff.1 hc
  have hm:j % zs.length<z.cells.size:=by rw[h2];exact Nat.mod_lt _ hpos
  have:(madeCells z.cells (n*zs.length))[j]?=some z.cells[j % zs.length]:=by
   simp only[madeCells,Array.getElem?_map]
   rw[Array.getElem?_range,if_pos hj]
   simp only[Option.map_some,h2]
   congr 1
   exact getElem!_pos z.cells _ hm
  rw[this] at hu
  cases hu
  exact h3 _ x _ hx (Array.getElem?_eq_getElem hm)
 ·cases hc
theorem arr_or{ca:Array Value}{xs:List D}{n sz:Nat}(hl:xs.length=n*sz)(hca:ca.size=n*sz)(h:∀(j:Nat) x u,xs[j]?=some x->ca[j]?=some u->Rd M x u) :
  (chunks sz n xs).length=n/\(∀e∈chunks sz n xs,e.length=sz)/\∀(i j:Nat) e x,(chunks sz n xs)[i]?=some e->e[j]?=some x->∃u,ca[i*sz+j]?=some u/\Rd M x u:=by
 refine⟨chunks_length ..,λe he=>?_,λi j e x hi hj=>?_⟩
 ·obtain⟨i,hi⟩:=List.mem_iff_getElem?.1 he
  rw[chunks_get] at hi
  split at hi
  ·rename_i hlt
   cases hi
   have:(i+1)*sz<=n*sz:=Nat.mul_le_mul_right _ hlt
   rw[Nat.add_mul] at this
   simp
   omega
  ·cases hi
 ·rw[chunks_get] at hi
  split at hi
  ·rename_i hlt
   cases hi
   rw[seg_get] at hj
   split at hj
   ·rename_i hjs
    have hk:i*sz+j<ca.size:=by rw[hca];exact idx_lt hlt hjs
    exact⟨_,Array.getElem?_eq_getElem hk,h _ x _ hj (Array.getElem?_eq_getElem hk)⟩
   ·cases hj
  ·cases hi
theorem run_bslice{t e:TypeId}{n sz:Nat}{z:Value}(hu:P.underlying t=some (.slice e))(hs:tsz P e=some sz)(hz:∀w,(zeroValue e).run P w=.ok z w)(hzs:z.cells.size=sz)(hpos:0<sz)(hle:n*sz<=16777216)
  {parts:List (Nat×Value)} {ca:Array Value} (hf:Instr.fill (λi=>some (i*sz,sz)) (madeCells z.cells (n*sz)) parts=some ca) (w:World) :
  (Instr.buildSlice t n parts.toArray).run P w=.ok (.slice (some ⟨w.heap.size,0,none⟩) n n) (w.alloc (.cells ca e)):=by
 have h1:¬(n*sz > 2 ^ 24):=by omega
 unfold madeCells at hf
 simp only[Instr.buildSlice,Sem.run_bind,run_underlying hu,Result.andThen_ok,run_size hs,if_neg h1]
 by_cases h0:n*sz=0
 ·have hn:(Array.range (n*sz))=#[]:=by simp[h0]
  rw[hn] at hf
  simp only[Array.map_empty] at hf
  simp only[if_pos h0,hn,Array.map_empty,hf]
  simp[newRow]
 ·simp only[if_neg h0,Sem.run_bind,hz,Sem.run_pure,Result.andThen_ok,hf]
  simp[newRow]
theorem fillA_or{A B:List AV->Prop}:∀{ps:List (Nat×Nat×Opd)} {cs:List AV},fillA ρ ps cs (λc=>A c\/B c)->fillA ρ ps cs A\/fillA ρ ps cs B
 |[],cs,h=>h
 |(off,n,x)::ps,cs,h=>by
  unfold fillA at h ⊢
  split at h
  ·rename_i xs e
   rcases fillA_or h.2.2 with h3|h3
   ·exact .inl ⟨h.1,h.2.1,h3⟩
   ·exact .inr ⟨h.1,h.2.1,h3⟩
  ·exact h.elim
theorem fillA_imp{A B:List AV->Prop}(hk:∀c,A c->B c):∀{ps:List (Nat×Nat×Opd)} {cs:List AV},fillA ρ ps cs A->fillA ρ ps cs B
 |[],cs,h=>hk _ h
 |(off,n,x)::ps,cs,h=>by
  unfold fillA at h ⊢
  split at h
  ·exact⟨h.1,h.2.1,fillA_imp hk h.2.2⟩
  ·exact h.elim
theorem bsl_or{n sz:Nat}{zs:List D}{ps:List (Nat×Nat×Opd)}(h:opI P ρ os K (.bsl n sz zs ps)):(fillA ρ ps (((List.replicate n zs).flatten).map .d) λcs=>match frzCs os cs with
  |some (xs,os1)=>K (.arr os1.length n) (os1++[.arr (chunks sz n xs) sz 0 false])
  |none=>False)\/opI P ρ os K (.bsld n sz zs ps):=by
 simp only[opI] at h ⊢
 refine fillA_or (fillA_imp (λcs hc=>?_) h)
 cases e:frzCs os cs with
 |none=>rw[e] at hc;exact hc.elim
 |some p=>
  rw[e] at hc
  exact hc
theorem ok_bsl0(he:Env M G os w)(ht:Tmps M G os ρ a){o:Oper}{t e:TypeId}{n sz:Nat}{parts:Array (Nat×Operand)}{zs:List D}{ps:List (Nat×Nat×Opd)}(ho:o.op=.buildSlice t n parts)(hu:P.underlying t=some (.slice e))(hs:tsz P e=some sz)(hz:tz P e=some zs)
  (hpos:0<sz) (hzl:zs.length=sz) (hle:n*sz<=16777216) (hps:cParts (λi=>some (i*sz,sz)) parts.toList=some ps) (h:fillA ρ ps (((List.replicate n zs).flatten).map .d) λcs=>match frzCs os cs with
  |some (xs,os1)=>K (.arr os1.length n) (os1++[.arr (chunks sz n xs) sz 0 false])
  |none=>False):OpOK P M G os w K (execOp a.eval o):=by
 obtain⟨z,h1,h2,h3⟩:=tz_zero (M:=M) hz
 subst hzl
 have hcs:=zero_cells (G:=G) (os:=os) h2 h3 n hpos
 obtain⟨cs',ca',g1,g2,g3,g4⟩:=fill_ok ht parts.toList ps hps _ _ hcs h
 split at g4
 ·rename_i xs os1 hf
  obtain⟨M1,e1,s1,l1,r1⟩:=frzCs_ok cs' he hf (vs:=ca'.toList) (by simpa using g2.1) (λj c u hc hu=>g2.2 j c u hc (by simpa using hu))
  have hcl:cs'.length=n*zs.length:=by rw[g3];simp[List.length_flatten,List.map_replicate,List.sum_replicate_nat]
  obtain⟨q1,q2,q3⟩:=arr_or (M:=M1) (ca:=ca') (n:=n) (sz:=zs.length) (by rw[l1,hcl]) (by rw[g2.1,hcl]) (λj x u hx hu=>r1 j x u hx (by simpa using hu))
  have hnew:=since_new e1 (.arr (chunks zs.length n xs) zs.length 0 false) (.cells ca' e) n
  refine ok_next (v:=.slice (some ⟨w.heap.size,0,none⟩) n n) (w':=w.alloc (.cells ca' e)) ?_ (env_new e1 (.arr (chunks zs.length n xs) zs.length 0 false) (.cells ca' e) n (λa v=>cell_alloc_old a v) ?_ (λ_ _ _ _ _ h=>by cases h;rfl)) (s1.trans hnew) ?_ g4
  ·have:=run_bslice (P:=P) hu hs h1 h2 hpos hle g1 w
   have hp:(parts.map λp:Nat×Operand=>(p.1,a.eval p.2))=(parts.toList.map λ(i,x)=>(i,a.eval x)).toArray:=by apply Array.ext';simp
   simp only[execOp,ho,Sem.run_bind,hp,this]
   rfl
  ·refine⟨hpos,q2,Nat.zero_le _,λh=>(by cases h),λ_=>⟨ca',e,by rw[ext_blk];exact heap_new ..,by simp[Gh.ext,g2.1,hcl],by simp[Gh.ext,q1],?_,q3,λo ho=>by omega⟩⟩
   simp only[Gh.ext,if_true,maxLen]
   have:n*1<=n*zs.length:=Nat.mul_le_mul_left _ hpos
   omega
  ·refine⟨rfl,_,_,_,_,by simp;exact⟨rfl,rfl,rfl,rfl⟩,by rw[q1];exact Nat.le_refl _,λ_=>?_⟩
   simp[Gh.slv,Gh.ext,q1]
 ·exact g4.elim
theorem env_ro(he:Env M G os w)(ca:Array Value)(t:TypeId)(fr:Nat×Nat:=(0,0)):Env (Mem.with M (w.alloc (.cells ca t fr)) w.heap.size ca.size) G os (w.alloc (.cells ca t fr))/\
  Since M G os w (Mem.with M (w.alloc (.cells ca t fr)) w.heap.size ca.size) G os (w.alloc (.cells ca t fr))/\∀j,j<ca.size->Mem.with M (w.alloc (.cells ca t fr)) w.heap.size ca.size ⟨w.heap.size,j,none⟩=ca[j]?:=by
 have hgrow:∀x v,M x=some v->Mem.with M (w.alloc (.cells ca t fr)) w.heap.size ca.size x=some v:=λx v hx=>by
  unfold Mem.with
  split
  ·exact cell_alloc_old x v (he.mem x v hx)
  ·exact hx
 have hs:Since M G os w (Mem.with M (w.alloc (.cells ca t fr)) w.heap.size ca.size) G os (w.alloc (.cells ca t fr)):={
  sys:=rfl,tape:=rfl,output:=rfl,size:=by simp
  frame:=λb hb _=>by
   show(w.heap.push _)[b]?=_
   rw[Array.getElem?_push,if_neg (by omega)]
  grow:=hgrow
  fresh:=λx v hx=>by
   unfold Mem.with at hx
   split at hx
   ·rename_i hc;exact .inr (.inl (by omega))
   ·exact .inl hx
  own:=λi hi=>.inr ⟨i,hi,rfl⟩
  keep:=λi o h=>Keeps.same h rfl rfl}
 refine⟨⟨λx v hx=>?_,λid o ho=>?_,he.inj,λi x v hi hx hb=>?_,glb_since hs he.glb⟩,hs,λj hj=>?_⟩
 ·unfold Mem.with at hx
  split at hx
  ·exact hx
  ·exact cell_alloc_old x v (he.mem x v hx)
 ·have hold:=he.obj id o ho
  by_cases hl:o.live=true
  ·have hlt:=he.lt ⟨o,ho,hl⟩
   refine OR.since hs hold rfl rfl ?_ (λx hx=>?_)
   ·show(w.heap.push _)[_]?=_
    rw[Array.getElem?_push,if_neg (by omega)]
   ·unfold Mem.with
    rw[if_neg (by omega)]
  ·cases o with
   |cells cs=>exact absurd rfl hl
   |iter s p=>exact absurd rfl hl
   |hole=>trivial
   |map kvs=>exact absurd rfl hl
   |mit m n s=>exact absurd rfl hl
   |rarr es sz nl=>
    cases nl with
    |false=>exact absurd rfl hl
    |true=>exact⟨hold.1,hold.2.1,hold.2.2.1,λh=>by cases h⟩
   |arr es sz frz nl=>
    cases nl with
    |false=>exact absurd rfl hl
    |true=>exact⟨hold.1,hold.2.1,hold.2.2.1,hold.2.2.2.1,λh=>by cases h⟩
 ·have hlt:=he.lt hi
  unfold Mem.with at hx
  rw[if_neg (by omega)] at hx
  exact he.sep i x v hi hx hb
 ·unfold Mem.with
  rw[if_pos ⟨rfl,rfl,hj⟩]
  have:=heap_new w (.cells ca t fr)
  simp only[World.cell?,this]
  simp
theorem ok_bsld(he:Env M G os w)(ht:Tmps M G os ρ a){o:Oper}{t e:TypeId}{n sz:Nat}{parts:Array (Nat×Operand)}{zs:List D}{ps:List (Nat×Nat×Opd)}(ho:o.op=.buildSlice t n parts)(hu:P.underlying t=some (.slice e))(hs:tsz P e=some sz)(hz:tz P e=some zs)
  (hpos:0<sz) (hzl:zs.length=sz) (hle:n*sz<=16777216) (hps:cParts (λi=>some (i*sz,sz)) parts.toList=some ps) (h:opI P ρ os K (.bsld n sz zs ps)):OpOK P M G os w K (execOp a.eval o):=by
 obtain⟨z,h1,h2,h3⟩:=tz_zero (M:=M) hz
 simp only[opI] at h
 subst hzl
 have hcs:=zero_cells (G:=G) (os:=os) h2 h3 n hpos
 obtain⟨cs',ca',g1,g2,g3,g4⟩:=fill_ok ht parts.toList ps hps _ _ hcs h
 split at g4
 ·rename_i xs os1 hf
  obtain⟨hos,g4⟩:=g4
  obtain⟨M1,e1,s1,l1,r1⟩:=frzCs_ok cs' he hf (vs:=ca'.toList) (by simpa using g2.1) (λj c u hc hu=>g2.2 j c u hc (by simpa using hu))
  rw[hos] at e1 s1
  have hcl:cs'.length=n*zs.length:=by rw[g3];simp[List.length_flatten,List.map_replicate,List.sum_replicate_nat]
  obtain⟨q1,q2,q3⟩:=arr_or (M:=M1) (ca:=ca') (n:=n) (sz:=zs.length) (by rw[l1,hcl]) (by rw[g2.1,hcl]) (λj x u hx hu=>r1 j x u hx (by simpa using hu))
  obtain⟨t1,t2,t3⟩:=env_ro e1 ca' e
  have hcs':ca'.size=n*zs.length:=by rw[g2.1,hcl]
  refine ok_next (v:=.slice (some ⟨w.heap.size,0,none⟩) n n) (w':=w.alloc (.cells ca' e)) (r:=.d (.sl (chunks zs.length n xs))) ?_ t1 (s1.trans t2) ?_ g4
  ·have:=run_bslice (P:=P) hu hs h1 h2 hpos hle g1 w
   have hp:(parts.map λp:Nat×Operand=>(p.1,a.eval p.2))=(parts.toList.map λ(i,x)=>(i,a.eval x)).toArray:=by apply Array.ext';simp
   simp only[execOp,ho,Sem.run_bind,hp,this]
   rfl
  ·have:=Rd.sl (M:=Mem.with M1 (w.alloc (.cells ca' e)) w.heap.size ca'.size) (chunks zs.length n xs) w.heap.size 0 n zs.length (λi j=>(ca'[i*zs.length+j]?).getD undef) (by omega) q2 (λi j hi hj=>?_) (λi j e x hi hj=>?_)
   ·rw[q1] at this;exact this
   ·rw[q1] at hi
    have hk:i*zs.length+j<ca'.size:=by rw[hcs'];exact idx_lt hi hj
    rw[Nat.zero_add,t3 _ hk]
    simp[hk]
   ·obtain⟨u,hu',hr⟩:=q3 i j e x hi hj
    simp only[hu',Option.getD_some]
    exact hr.mono t2.grow
 ·exact g4.elim
theorem ok_mksl(he:Env M G os w)(ht:Tmps M G os ρ a){o:Oper}{t e:TypeId}{l c:Operand}{l' c':Opd}{sz bytes:Nat}{zs:List D}(ho:o.op=.makeSlice t l c)(hl:cO l=some l')(hc:cO c=some c')(hu:P.underlying t=some (.slice e))(hs:tsz P e=some sz)(hb:tby P e=some bytes)(hz:tz P e=some zs)
  (hpos:0<sz) (hzl:zs.length=sz) (h:opI P ρ os K (.mksl sz bytes zs l' c')):OpOK P M G os w K (execOp a.eval o):=by
 have e1:=cO_ev ht hl
 have e2:=cO_ev ht hc
 obtain⟨i,hi,hisz⟩:=Option.map_eq_some_iff.1 hs
 obtain⟨i',hi',hiby⟩:=Option.map_eq_some_iff.1 hb
 rw[hi] at hi'
 cases hi'
 obtain⟨z,h1,h2,h3⟩:=tz_zero (M:=M) hz
 obtain⟨i2,z',hi2,hz',hrz⟩:=tz_info hz
 rw[hi] at hi2
 cases hi2
 have hzz:z'=z:=by
  have h4:=hrz w
  rw[h1 w] at h4
  cases h4
  rfl
 subst hzz
 simp only[opI] at h
 split at h
 ·rename_i k m k' q g1 g2
  rw[g1] at e1
  rw[g2] at e2
  obtain⟨p1,p2,p3,p4,p5⟩:=h
  subst hzl
  have hrun:=run_make (P:=P) w t e i z' hu hi hz' k k' m q p1 p2 (by rw[hiby,Int.mul_comm];omega) (by omega)
  rw[hisz] at hrun
  have hcs:=zero_cells (G:=G) (os:=os) h2 h3 q.toNat hpos
  have hnew:=since_new he (.arr (List.replicate m.toNat zs) zs.length 0 false) (.cells (madeCells z'.cells (q.toNat*zs.length)) e) q.toNat
  refine ok_next (v:=.slice (some ⟨w.heap.size,0,none⟩) m.toNat q.toNat) (w':=w.alloc (.cells (madeCells z'.cells (q.toNat*zs.length)) e)) ?_ (env_new he (.arr (List.replicate m.toNat zs) zs.length 0 false) (.cells (madeCells z'.cells (q.toNat*zs.length)) e) q.toNat (λa v=>cell_alloc_old a v) ?_ (λ_ _ _ _ _ h=>by cases h;rfl)) hnew ?_ p5
  ·simp[execOp,ho,va_int e1,va_int e2,hrun]
  ·refine⟨hpos,λe he=>by rw[List.eq_of_mem_replicate he],Nat.zero_le _,λh=>(by cases h),λ_=>⟨_,e,by rw[ext_blk];exact heap_new ..,by simp[Gh.ext,size_madeCells],by simp[Gh.ext];omega,by simp[Gh.ext,maxLen];omega,λi j e x hi hj=>?_,λo ho=>by omega⟩⟩
   have hi':i<m.toNat/\e=zs:=by
    rw[List.getElem?_replicate] at hi
    split at hi
    ·rename_i hlt;exact⟨hlt,by cases hi;rfl⟩
    ·cases hi
   obtain⟨hi1,rfl⟩:=hi'
   have hjl:=(List.getElem?_eq_some_iff.1 hj).1
   have hk:i*e.length+j<q.toNat*e.length:=idx_lt (by omega) hjl
   have hsize:i*e.length+j<(madeCells z'.cells (q.toNat*e.length)).size:=by rw[size_madeCells];exact hk
   refine⟨_,Array.getElem?_eq_getElem hsize,?_⟩
   refine hcs.2 (i*e.length+j) (.d x) _ ?_ (Array.getElem?_eq_getElem hsize)
   rw[List.getElem?_map,flatten_replicate_get,if_pos hk]
   have:(i*e.length+j) % e.length=j:=by rw[Nat.mul_comm,Nat.mul_add_mod];exact Nat.mod_eq_of_lt hjl
   rw[this,hj]
   rfl
  ·refine⟨rfl,_,_,_,_,by simp;exact⟨rfl,rfl,rfl,rfl⟩,by simp,λ_=>?_⟩
   simp[Gh.slv,Gh.ext]
 ·exact h.elim
end
end Go.Bi
