/- Soundness of what makes memory: variables, literals, made and grown slices, iterators. No condition. -/
import Derived.Test.YtnhhopmldgpglaaGreatDoorBG
import Derived.ChangeKeysEq
set_option linter.unusedVariables false
namespace Go.Bi
set_option linter.unusedSectionVars false
variable [J9]
section
variable {P:Program}{M:C2}{G:Gh}{os:List AO}{w:World}{ρ:C5}{a:Act}{K:AV->List AO->Prop}
theorem x7(w:World)(ob:Obj):(w.alloc ob).heap[w.heap.size]?=some ob:=by
 show(w.heap.push ob)[w.heap.size]?=_
 simp
theorem A0b(G:Gh)(n b c:Nat):(G.ext n b c).blk n=b:=by simp[Gh.ext]
theorem A4F(G:Gh)(n b c:Nat):(G.ext n b c).cap n=c:=by simp[Gh.ext]
theorem A1Z{t:TypeId}{zs:List D}(h:tz P t=some zs):∃z,(∀w,(zeroValue t).run P w=.ok z w)/\z.cells.size=zs.length/\∀(j:Nat) x u,zs[j]?=some x->z.cells[j]?=some u->Rd M x u:=by
 unfold tz at h
 obtain⟨i,hi,h⟩:=Z2.1 h
 obtain⟨z,hz,h⟩:=Z2.1 h
 obtain⟨h1,h2⟩:=B1H (M:=M) h
 refine⟨z,λw=>by simp[zeroValue,typeInfo,hi,hz],by simp[h1],λj x u hx hu=>h2 j x u hx (by simpa using hu)⟩
theorem B2m{t:TypeId}{zs:List D}(h:tz P t=some zs):∃i z,P.info? t=some i/\i.zero=some z/\(∀w,(zeroValue t).run P w=.ok z w):=by
 unfold tz at h
 obtain⟨i,hi,h⟩:=Z2.1 h
 obtain⟨z,hz,h⟩:=Z2.1 h
 exact⟨i,z,hi,hz,λw=>by simp[zeroValue,typeInfo,hi,hz]⟩
theorem D5H(he:C0 M G os w){o:Oper}{t:TypeId}{zs:List D}(ho:o.op=.alloc t)(hz:tz P t=some zs)(h:A8 P ρ os K (.alloc zs)):E6 P M G os w K (execOp a.eval o):=by
 obtain⟨z,h1,h2,h3⟩:=A1Z (M:=M) hz
 have hnew:=A1o he (.cells (zs.map .d)) (.cells z.cells t) 0
 refine U1 (v:=.pointer (some ⟨w.heap.size,0,none⟩)) (w':=w.alloc (.cells z.cells t)) ?_ (A2l he (.cells (zs.map .d)) (.cells z.cells t) 0 (λa v=>w6 a v) ?_ (λ_ _ _ _ _ h=>by cases h)) hnew ?_ h
 ·simp[execOp,ho,Instr.alloc,h1,newVar,newRow]
 ·refine⟨z.cells,t,?_,by simp[h2],λj c u hc hu=>?_⟩
  ·rw[A0b];exact x7 ..
  ·rw[F8] at hc
   obtain⟨x,hx,rfl⟩:=F7.1 hc
   exact h3 j x u hx hu
 ·exact⟨by simp[Gh.ext],_,by simp;rfl⟩
theorem D5L(he:C0 M G os w)(ht:G6 M G os ρ a){o:Oper}{t:TypeId}{x:Operand}{x':B6}{n:Nat}(ho:o.op=.box t x)(hx:cO x=some x')(h:A8 P ρ os K (.box n x')):E6 P M G os w K (execOp a.eval o):=by
 have e1:=F9 ht hx
 simp only[A8] at h
 split at h
 ·rename_i xs hxs
  obtain⟨c1,c2⟩:=A8f hxs e1
  have hnew:=A1o he (.cells xs) (.cells (a.eval x).cells t) 0
  refine U1 (v:=.pointer (some ⟨w.heap.size,0,none⟩)) (w':=w.alloc (.cells (a.eval x).cells t)) ?_ (A2l he (.cells xs) (.cells (a.eval x).cells t) 0 (λa v=>w6 a v) ?_ (λ_ _ _ _ _ h=>by cases h)) hnew ?_ h.2
  ·simp[execOp,ho,Instr.box,newVar,newRow]
  ·exact⟨_,t,by rw[A0b];exact x7 ..,c1,λj c u hc hu=>(c2 j c u hc hu).since hnew⟩
  ·exact⟨by simp[Gh.ext],_,by simp;rfl⟩
 ·exact h.elim
theorem B9M(off:Nat):∀(vs:List Value)(s:Nat)(cs:Array Value),off+s+vs.length<=cs.size->
  ((vs.zipIdx s).foldl (λcs (c,j)=>cs.setIfInBounds (off+j) c) cs).toList=K6 cs.toList (off+s) vs
 |[],s,cs,h=>by simp[K6]
 |v::vs,s,cs,h=>by
  simp only[List.zipIdx_cons,A2J]
  rw[B9M off vs (s+1) _ (by simp at h ⊢;omega)]
  apply A3o
  intro k
  simp only[H7] at h
  rw[A1V _ _ _ (by simp;omega),A1V _ _ _ (by simp;omega)]
  simp only[Array.toList_setIfInBounds,H7,A5x]
  by_cases h1:k<off+s
  ·rw[if_pos (by omega),if_pos h1,if_neg (by omega)]
  ·rw[if_neg h1]
   by_cases h2:k=off+s
   ·subst h2
    rw[if_pos (by omega),if_pos rfl,if_pos (by simp;omega),if_pos (by omega)]
    simp
   ·rw[if_neg (by omega)]
    by_cases h3:k<off+s+1+vs.length
    ·rw[if_pos (by omega),if_pos (by omega)]
     rw[show k-(off+s)=(k-(off+(s+1)))+1 by omega]
     simp
    ·rw[if_neg (by omega),if_neg (by omega),if_neg (by omega)]
def Cs(M:C2)(G:Gh)(os:List AO)(cs:List AV)(ca:Array Value):Prop:=ca.size=cs.length/\∀(j:Nat) c u,cs[j]?=some c->ca[j]?=some u->VC M G os c u
theorem A6h(ht:G6 M G os ρ a){place:Nat->Option (Nat×Nat)}:∀(parts:List (Nat×Operand))(ps:List (Nat×Nat×B6)),A18 place parts=some ps->∀(cs:List AV)(ca:Array Value){K:List AV->Prop},
  Cs M G os cs ca->O9 ρ ps cs K->∃cs' ca',Instr.fill place ca (parts.map λ(i,x)=>(i,a.eval x))=some ca'/\Cs M G os cs' ca'/\cs'.length=cs.length/\K cs'
 |[],ps,hp,cs,ca,K,hc,h=>by
  simp only[A18] at hp
  cases hp
  exact⟨cs,ca,rfl,hc,rfl,h⟩
 |(i,x)::parts,ps,hp,cs,ca,K,hc,h=>by
  simp only[A18] at hp
  split at hp
  ·rename_i off n x' ps' e1 e2 e3
   cases hp
   simp only[O9] at h
   split at h
   ·rename_i xs hxs
    obtain⟨h1,h2,h3⟩:=h
    obtain⟨c1,c2⟩:=A8f hxs (F9 ht e2)
    have hf:=B9M off (a.eval x).cells.toList 0 ca (by simp;have:=hc.1;omega)
    have hcs:Cs M G os (K6 cs off xs) ((a.eval x).cells.zipIdx.foldl (λcs (c,j)=>cs.setIfInBounds (off+j) c) ca):=by
     have hf':((a.eval x).cells.zipIdx.foldl (λcs (c,j)=>cs.setIfInBounds (off+j) c) ca).toList=K6 ca.toList off (a.eval x).cells.toList:=by
      rw[<- Array.foldl_toList,Array.toList_zipIdx]
      exact hf
     refine⟨?_,λj c u hj hu=>?_⟩
     ·rw[<- Array.length_toList,hf',A2u _ _ _ (by simp;have:=hc.1;omega),A2u _ _ _ (by omega)]
      simpa using hc.1
     ·rw[<- A0H,hf',A1V _ _ _ (by simp;have:=hc.1;omega)] at hu
      rw[A1V _ _ _ (by omega)] at hj
      split at hj
      ·rw[if_pos ‹_›] at hu
       exact hc.2 j c u hj (by simpa using hu)
      ·rename_i hno
       rw[if_neg hno] at hu
       split at hj
       ·rw[if_pos (by simp;omega)] at hu
        exact c2 _ c u hj (by simpa using hu)
       ·rw[if_neg (by simp;omega)] at hu
        exact hc.2 j c u hj (by simpa using hu)
    obtain⟨cs',ca',g1,g2,g3,g4⟩:=A6h ht parts ps' e3 _ _ hcs h3
    refine⟨cs',ca',?_,g2,by rw[g3,A2u _ _ _ (by omega)],g4⟩
    simp only[Q8,Instr.fill,e1]
    rw[if_neg]
    ·exact g1
    ·have:=hc.1
     simp
     omega
   ·exact h.elim
  ·cases hp
theorem C1J{α β:Type}{f:α->Sem β}{g:α->Option β}(hf:∀x y,g x=some y->∀w,(f x).run P w=.ok y w):∀(l:List α)(r:List β),l.mapM g=some r->∀w,(l.mapM f).run P w=.ok r w
 |[],r,h,w=>by simp at h;subst h;rfl
 |x::l,r,h,w=>by
  simp only[A0r,A2N,Z2] at h
  obtain⟨y,hy,ys,hys,hp⟩:=h
  simp at hp
  subst hp
  simp only[A0r,Sem.run_bind,hf x y hy,Result.andThen_ok,C1J hf l ys hys,Sem.run_pure]
theorem D78{fs:Array Field}{l:List (Nat×Nat)}(h:fs.toList.mapM (λf=>(J8 P f.type).map λn=>(f.offset,n))=some l)(w:World) :
  (fs.mapM λf=>(do pure (f.offset,<- sizeOf f.type):Sem (Nat×Nat))).run P w=.ok l.toArray w:=by
 rw[Array.mapM_eq_mapM_toList]
 have:=C1J (P:=P) (f:=λf:Field=>(do pure (f.offset,<- sizeOf f.type):Sem (Nat×Nat))) (g:=λf=>(J8 P f.type).map λn=>(f.offset,n)) (λf y hy w=>by
  obtain⟨n,hn,rfl⟩:=F7.1 hy
  simp[Z9 hn]) fs.toList l h w
 rw[Sem.run_map,this]
 rfl
theorem D5P(he:C0 M G os w)(ht:G6 M G os ρ a){o:Oper}{t:TypeId}{parts:Array (Nat×Operand)}{pl:Nat->Option (Nat×Nat)}{zs:List D}{ps:List (Nat×Nat×B6)}(ho:o.op=.build t parts)(hz:tz P t=some zs)(hp:B1V P t=some pl)
  (hps:A18 pl parts.toList=some ps) (h:A8 P ρ os K (.build zs ps)):E6 P M G os w K (execOp a.eval o):=by
 obtain⟨z,h1,h2,h3⟩:=A1Z (M:=M) hz
 simp only[A8] at h
 have hcs:Cs M G os (zs.map .d) z.cells:=⟨by simp[h2],λj c u hc hu=>by
  rw[F8] at hc
  obtain⟨x,hx,rfl⟩:=F7.1 hc
  exact h3 j x u hx hu⟩
 obtain⟨cs',ca',g1,g2,g3,g4⟩:=A6h ht parts.toList ps hps _ _ hcs h
 have hm:(parts.map λ(i,x)=>(i,a.eval x)).toList=parts.toList.map λ(i,x)=>(i,a.eval x):=by simp
 refine J3 he (v:=.agg ca') (r:=.agg cs') ?_ ⟨ca',rfl,g2.1,g2.2⟩ g4
 unfold B1V at hp
 split at hp
 ·rename_i fs hu
  obtain⟨l,hl,rfl⟩:=F7.1 hp
  have hfun:(λi:Nat=>l.toArray[i]?)=(λi:Nat=>l[i]?):=by funext i;simp
  simp only[execOp,ho,Instr.build,Sem.run_bind,h1,Result.andThen_ok,run_underlying hu,D78 hl,hm,hfun,g1,Sem.run_pure]
 ·rename_i n e hu
  obtain⟨sz,hsz,rfl⟩:=F7.1 hp
  simp only[execOp,ho,Instr.build,Sem.run_bind,h1,Result.andThen_ok,run_underlying hu,Z9 hsz,hm,g1,Sem.run_pure]
 ·cases hp
theorem B1o{α:Type}(l:List α):∀(n k:Nat),(List.replicate n l).flatten[k]?=if k<n*l.length then l[k % l.length]? else none
 |0,k=>by simp
 |n+1,k=>by
  rw[List.replicate_succ,List.flatten_cons]
  by_cases h:k<l.length
  ·rw[K4 h,if_pos (by rw[U8];omega),Nat.mod_eq_of_lt h]
  ·rw[P8 (by omega),B1o l n,U8,Nat.one_mul]
   by_cases h2:k-l.length<n*l.length
   ·rw[if_pos h2,if_pos (by omega),<- Nat.mod_eq_sub_mod (by omega)]
   ·rw[if_neg h2,if_neg (by omega)]
theorem B0Y{α:Type}(sz:Nat):∀(n:Nat)(l:List α),(R9 sz n l).length=n
 |0,_=>rfl
 |n+1,l=>by simp[R9,B0Y sz n]
theorem A68{α:Type}(sz:Nat):∀(n:Nat)(l:List α)(i:Nat),(R9 sz n l)[i]?=if i<n then some ((l.drop (i*sz)).take sz) else none
 |0,l,i=>by simp[R9]
 |n+1,l,0=>by simp[R9]
 |n+1,l,i+1=>by
  simp only[R9,l6,A68 sz n,Nat.add_lt_add_iff_right,List.drop_drop]
  rw[show sz+i*sz=(i+1)*sz by rw[U8];omega]
theorem A9q{z:Value}{zs:List D}(h2:z.cells.size=zs.length)(h3:∀(j:Nat) x u,zs[j]?=some x->z.cells[j]?=some u->Rd M x u)(n:Nat)(hpos:0<zs.length) :
  Cs M G os ((List.replicate n zs).flatten.map .d) (madeCells z.cells (n*zs.length)):=by
 refine⟨by rw[size_madeCells];simp[A7I,A7J,A7L],λj c u hc hu=>?_⟩
 rw[F8,B1o] at hc
 split at hc
 ·rename_i hj
  obtain⟨x,hx,rfl⟩:=F7.1 hc
  have hm:j % zs.length<z.cells.size:=by rw[h2];exact Nat.mod_lt _ hpos
  have:(madeCells z.cells (n*zs.length))[j]?=some z.cells[j % zs.length]:=by
   simp only[madeCells,Array.getElem?_map]
   rw[Array.getElem?_range,if_pos hj]
   simp only[A10,h2]
   congr 1
   exact getElem!_pos z.cells _ hm
  rw[this] at hu
  cases hu
  exact h3 _ x _ hx (J4 hm)
 ·cases hc
theorem B8m{ca:Array Value}{xs:List D}{n sz:Nat}(hl:xs.length=n*sz)(hca:ca.size=n*sz)(h:∀(j:Nat) x u,xs[j]?=some x->ca[j]?=some u->Rd M x u) :
  (R9 sz n xs).length=n/\(∀e∈R9 sz n xs,e.length=sz)/\∀(i j:Nat) e x,(R9 sz n xs)[i]?=some e->e[j]?=some x->∃u,ca[i*sz+j]?=some u/\Rd M x u:=by
 refine⟨B0Y ..,λe he=>?_,λi j e x hi hj=>?_⟩
 ·obtain⟨i,hi⟩:=A1t.1 he
  rw[A68] at hi
  split at hi
  ·rename_i hlt
   cases hi
   have:(i+1)*sz<=n*sz:=Y3 _ hlt
   rw[U8] at this
   simp
   omega
  ·cases hi
 ·rw[A68] at hi
  split at hi
  ·rename_i hlt
   cases hi
   rw[A3a] at hj
   split at hj
   ·rename_i hjs
    have hk:i*sz+j<ca.size:=by rw[hca];exact X4 hlt hjs
    exact⟨_,J4 hk,h _ x _ hj (J4 hk)⟩
   ·cases hj
  ·cases hi
theorem B24{t e:TypeId}{n sz:Nat}{z:Value}(hu:P.underlying t=some (.slice e))(hs:J8 P e=some sz)(hz:∀w,(zeroValue e).run P w=.ok z w)(hzs:z.cells.size=sz)(hpos:0<sz)(hle:n*sz<=16777216)
  {parts:List (Nat×Value)} {ca:Array Value} (hf:Instr.fill (λi=>some (i*sz,sz)) (madeCells z.cells (n*sz)) parts=some ca) (w:World) :
  (Instr.buildSlice t n parts.toArray).run P w=.ok (.slice (some ⟨w.heap.size,0,none⟩) n n) (w.alloc (.cells ca e)):=by
 have h1:¬(n*sz > 2 ^ 24):=by omega
 unfold madeCells at hf
 simp only[Instr.buildSlice,Sem.run_bind,run_underlying hu,Result.andThen_ok,Z9 hs,if_neg h1]
 by_cases h0:n*sz=0
 ·have hn:(Array.range (n*sz))=#[]:=by simp[h0]
  rw[hn] at hf
  simp only[Array.map_empty] at hf
  simp only[if_pos h0,hn,Array.map_empty,hf]
  simp[newRow]
 ·simp only[if_neg h0,Sem.run_bind,hz,Sem.run_pure,Result.andThen_ok,hf]
  simp[newRow]
theorem B9u{A B:List AV->Prop}:∀{ps:List (Nat×Nat×B6)}{cs:List AV},O9 ρ ps cs (λc=>A c\/B c)->O9 ρ ps cs A\/O9 ρ ps cs B
 |[],cs,h=>h
 |(off,n,x)::ps,cs,h=>by
  unfold O9 at h ⊢
  split at h
  ·rename_i xs e
   rcases B9u h.2.2 with h3|h3
   ·exact .inl ⟨h.1,h.2.1,h3⟩
   ·exact .inr ⟨h.1,h.2.1,h3⟩
  ·exact h.elim
theorem B9s{A B:List AV->Prop}(hk:∀c,A c->B c):∀{ps:List (Nat×Nat×B6)}{cs:List AV},O9 ρ ps cs A->O9 ρ ps cs B
 |[],cs,h=>hk _ h
 |(off,n,x)::ps,cs,h=>by
  unfold O9 at h ⊢
  split at h
  ·exact⟨h.1,h.2.1,B9s hk h.2.2⟩
  ·exact h.elim
theorem D2H{n sz:Nat}{zs:List D}{ps:List (Nat×Nat×B6)}(h:A8 P ρ os K (.bsl n sz zs ps)):(O9 ρ ps (((List.replicate n zs).flatten).map .d) λcs=>match r6 os cs with
  |some (xs,os1)=>K (.arr os1.length n) (os1++[.arr (R9 sz n xs) sz 0 false])
  |none=>False)\/A8 P ρ os K (.bsld n sz zs ps):=by
 simp only[A8] at h ⊢
 refine B9u (B9s (λcs hc=>?_) h)
 cases e:r6 os cs with
 |none=>rw[e] at hc;exact hc.elim
 |some p=>
  rw[e] at hc
  exact hc
theorem D5N(he:C0 M G os w)(ht:G6 M G os ρ a){o:Oper}{t e:TypeId}{n sz:Nat}{parts:Array (Nat×Operand)}{zs:List D}{ps:List (Nat×Nat×B6)}(ho:o.op=.buildSlice t n parts)(hu:P.underlying t=some (.slice e))(hs:J8 P e=some sz)(hz:tz P e=some zs)
  (hpos:0<sz) (hzl:zs.length=sz) (hle:n*sz<=16777216) (hps:A18 (λi=>some (i*sz,sz)) parts.toList=some ps) (h:O9 ρ ps (((List.replicate n zs).flatten).map .d) λcs=>match r6 os cs with
  |some (xs,os1)=>K (.arr os1.length n) (os1++[.arr (R9 sz n xs) sz 0 false])
  |none=>False):E6 P M G os w K (execOp a.eval o):=by
 obtain⟨z,h1,h2,h3⟩:=A1Z (M:=M) hz
 subst hzl
 have hcs:=A9q (G:=G) (os:=os) h2 h3 n hpos
 obtain⟨cs',ca',g1,g2,g3,g4⟩:=A6h ht parts.toList ps hps _ _ hcs h
 split at g4
 ·rename_i xs os1 hf
  obtain⟨M1,e1,s1,l1,r1⟩:=A6l cs' he hf (vs:=ca'.toList) (by simpa using g2.1) (λj c u hc hu=>g2.2 j c u hc (by simpa using hu))
  have hcl:cs'.length=n*zs.length:=by rw[g3];simp[A7I,A7J,A7L]
  obtain⟨q1,q2,q3⟩:=B8m (M:=M1) (ca:=ca') (n:=n) (sz:=zs.length) (by rw[l1,hcl]) (by rw[g2.1,hcl]) (λj x u hx hu=>r1 j x u hx (by simpa using hu))
  have hnew:=A1o e1 (.arr (R9 zs.length n xs) zs.length 0 false) (.cells ca' e) n
  refine U1 (v:=.slice (some ⟨w.heap.size,0,none⟩) n n) (w':=w.alloc (.cells ca' e)) ?_ (A2l e1 (.arr (R9 zs.length n xs) zs.length 0 false) (.cells ca' e) n (λa v=>w6 a v) ?_ (λ_ _ _ _ _ h=>by cases h;rfl)) (s1.trans hnew) ?_ g4
  ·have:=B24 (P:=P) hu hs h1 h2 hpos hle g1 w
   have hp:(parts.map λp:Nat×Operand=>(p.1,a.eval p.2))=(parts.toList.map λ(i,x)=>(i,a.eval x)).toArray:=by apply Array.ext';simp
   simp only[execOp,ho,Sem.run_bind,hp,this]
   rfl
  ·refine⟨hpos,q2,R1 _,λh=>(by cases h),λ_=>⟨ca',e,by rw[A0b];exact x7 ..,by simp[Gh.ext,g2.1,hcl],by simp[Gh.ext,q1],?_,q3,λo ho=>by omega⟩⟩
   simp only[Gh.ext,if_true,maxLen]
   have:n*1<=n*zs.length:=Nat.mul_le_mul_left _ hpos
   omega
  ·refine⟨rfl,_,_,_,_,by simp;exact⟨rfl,rfl,rfl,rfl⟩,by rw[q1];exact G8 _,λ_=>?_⟩
   simp[Gh.slv,Gh.ext,q1]
 ·exact g4.elim
theorem D4e(he:C0 M G os w)(ca:Array Value)(t:TypeId):C0 (C2.with M (w.alloc (.cells ca t)) w.heap.size ca.size) G os (w.alloc (.cells ca t))/\
  D6 M G os w (C2.with M (w.alloc (.cells ca t)) w.heap.size ca.size) G os (w.alloc (.cells ca t))/\∀j,j<ca.size->C2.with M (w.alloc (.cells ca t)) w.heap.size ca.size ⟨w.heap.size,j,none⟩=ca[j]?:=by
 have hgrow:∀x v,M x=some v->C2.with M (w.alloc (.cells ca t)) w.heap.size ca.size x=some v:=λx v hx=>by
  unfold C2.with
  split
  ·exact w6 x v (he.mem x v hx)
  ·exact hx
 have hs:D6 M G os w (C2.with M (w.alloc (.cells ca t)) w.heap.size ca.size) G os (w.alloc (.cells ca t)):={
  sys:=rfl,tape:=rfl,output:=rfl,size:=by simp
  frame:=λb hb _=>by
   show(w.heap.push _)[b]?=_
   rw[A3h,if_neg (by omega)]
  grow:=hgrow
  fresh:=λx v hx=>by
   unfold C2.with at hx
   split at hx
   ·rename_i hc;exact .inr (.inl (by omega))
   ·exact .inl hx
  own:=λi hi=>.inr ⟨i,hi,rfl⟩
  keep:=λi o h=>M5.same h rfl rfl}
 refine⟨⟨λx v hx=>?_,λid o ho=>?_,he.inj,λi x v hi hx hb=>?_,A1i hs he.glb⟩,hs,λj hj=>?_⟩
 ·unfold C2.with at hx
  split at hx
  ·exact hx
  ·exact w6 x v (he.mem x v hx)
 ·have hold:=he.obj id o ho
  by_cases hl:o.live=true
  ·have hlt:=he.lt ⟨o,ho,hl⟩
   refine OR.since hs hold rfl rfl ?_ (λx hx=>?_)
   ·show(w.heap.push _)[_]?=_
    rw[A3h,if_neg (by omega)]
   ·unfold C2.with
    rw[if_neg (by omega)]
  ·cases o with
   |cells cs=>exact absurd rfl hl
   |iter s p=>exact absurd rfl hl
   |hole=>trivial
   |map kvs=>exact absurd rfl hl
   |mit m n s=>exact absurd rfl hl
   |rarr es sz nl=>
    cases nl with
    |false=>exact absurd rfl hl
    |true=>exact⟨hold.1,hold.2.1,hold.2.2.1,λh=>by cases h⟩
   |arr es sz frz nl=>
    cases nl with
    |false=>exact absurd rfl hl
    |true=>exact⟨hold.1,hold.2.1,hold.2.2.1,hold.2.2.2.1,λh=>by cases h⟩
 ·have hlt:=he.lt hi
  unfold C2.with at hx
  rw[if_neg (by omega)] at hx
  exact he.sep i x v hi hx hb
 ·unfold C2.with
  rw[if_pos ⟨rfl,rfl,hj⟩]
  simp
theorem C0W(he:C0 M G os w)(ht:G6 M G os ρ a){o:Oper}{t e:TypeId}{n sz:Nat}{parts:Array (Nat×Operand)}{zs:List D}{ps:List (Nat×Nat×B6)}(ho:o.op=.buildSlice t n parts)(hu:P.underlying t=some (.slice e))(hs:J8 P e=some sz)(hz:tz P e=some zs)
  (hpos:0<sz) (hzl:zs.length=sz) (hle:n*sz<=16777216) (hps:A18 (λi=>some (i*sz,sz)) parts.toList=some ps) (h:A8 P ρ os K (.bsld n sz zs ps)):E6 P M G os w K (execOp a.eval o):=by
 obtain⟨z,h1,h2,h3⟩:=A1Z (M:=M) hz
 simp only[A8] at h
 subst hzl
 have hcs:=A9q (G:=G) (os:=os) h2 h3 n hpos
 obtain⟨cs',ca',g1,g2,g3,g4⟩:=A6h ht parts.toList ps hps _ _ hcs h
 split at g4
 ·rename_i xs os1 hf
  obtain⟨hos,g4⟩:=g4
  obtain⟨M1,e1,s1,l1,r1⟩:=A6l cs' he hf (vs:=ca'.toList) (by simpa using g2.1) (λj c u hc hu=>g2.2 j c u hc (by simpa using hu))
  rw[hos] at e1 s1
  have hcl:cs'.length=n*zs.length:=by rw[g3];simp[A7I,A7J,A7L]
  obtain⟨q1,q2,q3⟩:=B8m (M:=M1) (ca:=ca') (n:=n) (sz:=zs.length) (by rw[l1,hcl]) (by rw[g2.1,hcl]) (λj x u hx hu=>r1 j x u hx (by simpa using hu))
  obtain⟨t1,t2,t3⟩:=D4e e1 ca' e
  have hcs':ca'.size=n*zs.length:=by rw[g2.1,hcl]
  refine U1 (v:=.slice (some ⟨w.heap.size,0,none⟩) n n) (w':=w.alloc (.cells ca' e)) (r:=.d (.sl (R9 zs.length n xs))) ?_ t1 (s1.trans t2) ?_ g4
  ·have:=B24 (P:=P) hu hs h1 h2 hpos hle g1 w
   have hp:(parts.map λp:Nat×Operand=>(p.1,a.eval p.2))=(parts.toList.map λ(i,x)=>(i,a.eval x)).toArray:=by apply Array.ext';simp
   simp only[execOp,ho,Sem.run_bind,hp,this]
   rfl
  ·have:=Rd.sl (M:=C2.with M1 (w.alloc (.cells ca' e)) w.heap.size ca'.size) (R9 zs.length n xs) w.heap.size 0 n zs.length (λi j=>(ca'[i*zs.length+j]?).getD undef) (by omega) q2 (λi j hi hj=>?_) (λi j e x hi hj=>?_)
   ·rw[q1] at this;exact this
   ·rw[q1] at hi
    have hk:i*zs.length+j<ca'.size:=by rw[hcs'];exact X4 hi hj
    rw[v7,t3 _ hk]
    simp[hk]
   ·obtain⟨u,hu',hr⟩:=q3 i j e x hi hj
    simp only[hu',l9]
    exact hr.mono t2.grow
 ·exact g4.elim
theorem D6e(he:C0 M G os w)(ht:G6 M G os ρ a){o:Oper}{t e:TypeId}{l c:Operand}{l' c':B6}{sz bytes:Nat}{zs:List D}(ho:o.op=.makeSlice t l c)(hl:cO l=some l')(hc:cO c=some c')(hu:P.underlying t=some (.slice e))(hs:J8 P e=some sz)(hb:tby P e=some bytes)(hz:tz P e=some zs)
  (hpos:0<sz) (hzl:zs.length=sz) (h:A8 P ρ os K (.mksl sz bytes zs l' c')):E6 P M G os w K (execOp a.eval o):=by
 have e1:=F9 ht hl
 have e2:=F9 ht hc
 obtain⟨i,hi,hisz⟩:=F7.1 hs
 obtain⟨i',hi',hiby⟩:=F7.1 hb
 rw[hi] at hi'
 cases hi'
 obtain⟨z,h1,h2,h3⟩:=A1Z (M:=M) hz
 obtain⟨i2,z',hi2,hz',hrz⟩:=B2m hz
 rw[hi] at hi2
 cases hi2
 have hzz:z'=z:=by
  have h4:=hrz w
  rw[h1 w] at h4
  cases h4
  rfl
 subst hzz
 simp only[A8] at h
 split at h
 ·rename_i k m k' q g1 g2
  rw[g1] at e1
  rw[g2] at e2
  obtain⟨p1,p2,p3,p4,p5⟩:=h
  subst hzl
  have hrun:=run_make (P:=P) w t e i z' hu hi hz' k k' m q p1 p2 (by rw[hiby,Int.mul_comm];omega) (by omega)
  rw[hisz] at hrun
  have hcs:=A9q (G:=G) (os:=os) h2 h3 q.toNat hpos
  have hnew:=A1o he (.arr (List.replicate m.toNat zs) zs.length 0 false) (.cells (madeCells z'.cells (q.toNat*zs.length)) e) q.toNat
  refine U1 (v:=.slice (some ⟨w.heap.size,0,none⟩) m.toNat q.toNat) (w':=w.alloc (.cells (madeCells z'.cells (q.toNat*zs.length)) e)) ?_ (A2l he (.arr (List.replicate m.toNat zs) zs.length 0 false) (.cells (madeCells z'.cells (q.toNat*zs.length)) e) q.toNat (λa v=>w6 a v) ?_ (λ_ _ _ _ _ h=>by cases h;rfl)) hnew ?_ p5
  ·simp[execOp,ho,Y2 e1,Y2 e2,hrun]
  ·refine⟨hpos,λe he=>by rw[List.eq_of_mem_replicate he],R1 _,λh=>(by cases h),λ_=>⟨_,e,by rw[A0b];exact x7 ..,by simp[Gh.ext,size_madeCells],by simp[Gh.ext];omega,by simp[Gh.ext,maxLen];omega,λi j e x hi hj=>?_,λo ho=>by omega⟩⟩
   have hi':i<m.toNat/\e=zs:=by
    rw[List.getElem?_replicate] at hi
    split at hi
    ·rename_i hlt;exact⟨hlt,by cases hi;rfl⟩
    ·cases hi
   obtain⟨hi1,rfl⟩:=hi'
   have hjl:=(A7.1 hj).1
   have hk:i*e.length+j<q.toNat*e.length:=X4 (by omega) hjl
   have hsize:i*e.length+j<(madeCells z'.cells (q.toNat*e.length)).size:=by rw[size_madeCells];exact hk
   refine⟨_,J4 hsize,?_⟩
   refine hcs.2 (i*e.length+j) (.d x) _ ?_ (J4 hsize)
   rw[F8,B1o,if_pos hk]
   have:(i*e.length+j) % e.length=j:=by rw[Nat.mul_comm,Nat.mul_add_mod];exact Nat.mod_eq_of_lt hjl
   rw[this,hj]
   rfl
  ·refine⟨rfl,_,_,_,_,by simp;exact⟨rfl,rfl,rfl,rfl⟩,by simp,λ_=>?_⟩
   simp[Gh.slv,Gh.ext]
 ·exact h.elim
end
end Go.Bi
