/- Texts of this claim, joined. No condition. -/
import Derived.Test.YtfnaleemmeejcaaGreatQ5
set_option linter.unusedSimpArgs false
set_option linter.unusedVariables false
set_option maxRecDepth 10000
set_option maxHeartbeats 4000000
section
namespace Go.Proofs
open Go.Bi
structure Bg where
 nk:Bool
 ki:List Int
 nr:Bool
 rows:List Rw
abbrev Bg.kd(b:Bg):D:=ng b.nk (A5 b.ki)
abbrev Bg.rd(b:Bg):D:=ng b.nr (B7 b.rows)
abbrev Bg.kw(b:Bg):Kw:=⟨b.nk,b.ki⟩
def V2(l:List Bg):List (List D):=l.map λb=>[b.kd,b.rd]
theorem A5d(l:List Bg):(V2 l).length=l.length:=by simp[V2]
theorem A6J(l:List Bg):∀e∈V2 l,e.length=2:=by
 intro e he
 obtain⟨x,_,rfl⟩:=D7.1 he
 rfl
theorem A6I{l:List Bg}{i:Nat}{b:Bg}(h:l[i]?=some b):(V2 l)[i]?=some [b.kd,b.rd]:=by simp[V2,h]
abbrev K9:Bg:=⟨true,[],true,[]⟩
def m9(I:List Bg)(o:Po)(b:List Bg):Bg:=
 if o.op=1 then ⟨(I.getD o.n.toNat K9).nk,(I.getD o.n.toNat K9).ki,false,J0 (D1 (A8 (I.getD o.n.toNat K9).rows))⟩
 else if o.op=2 then ⟨o.nk,o.ki,false,J0 (D1 (A8 o.rows))⟩
 else if o.op=3 then ⟨(b.getD 0 K9).nk,(b.getD 0 K9).ki,false,J0 (D1 ((A8 (b.getD 0 K9).rows).filter (L9 o.pred)))⟩
 else if o.op=4 then ⟨true,(G8 (b.getD 0 K9).ki o.xs).1,false,J0 (D1 ((A8 (b.getD 0 K9).rows).map (R9 o.xs)))⟩
 else if o.op=10 then ⟨(b.getD 0 K9).nk,(b.getD 0 K9).ki,false,J0 (S3 none (D1 (A8 (b.getD 0 K9).rows)))⟩
 else if o.op=11 then ⟨true,(Q2 (b.getD 0 K9).ki o.keys o.aggs).1,false,J0 (D1 (t7 o.keys o.aggs (b.getD 0 K9).rows))⟩
 else if o.op=5 then ⟨true,(b.getD 0 K9).ki++(b.getD 1 K9).ki,false,J0 (D1 (N5 o.pred false (b.getD 1 K9).ki.length (A8 (b.getD 1 K9).rows) (A8 (b.getD 0 K9).rows)))⟩
 else if o.op=6 then ⟨true,(b.getD 0 K9).ki++(b.getD 1 K9).ki,false,J0 (D1 (N5 o.pred true (b.getD 1 K9).ki.length (A8 (b.getD 1 K9).rows) (A8 (b.getD 0 K9).rows)))⟩
 else if o.op=7 then ⟨(b.getD 0 K9).nk,(b.getD 0 K9).ki,false,J0 (D1 (A8 (b.getD 0 K9).rows++A8 (b.getD 1 K9).rows))⟩
 else if o.op=8 then ⟨(b.getD 0 K9).nk,(b.getD 0 K9).ki,true,J0 (I6 X5 (A8 (b.getD 0 K9).rows) (A8 (b.getD 1 K9).rows))⟩
 else ⟨(b.getD 0 K9).nk,(b.getD 0 K9).ki,true,J0 (I6 V3 (A8 (b.getD 0 K9).rows) (A8 (b.getD 1 K9).rows))⟩
mutual
/-- What a plan computes. -/
def H7(I:List Bg):Pl->Bg
 |.mk o _ ins=>m9 I o (A6L I ins)
def A6L(I:List Bg):List Pl->List Bg
 |[]=>[]
 |p::r=>H7 I p::A6L I r
end
theorem C1m(I:List Bg):∀l,A6L I l=l.map (H7 I)
 |[]=>by simp[A6L]
 |e::es=>by simp[A6L,C1m I es]
theorem A2N(I:List Bg)(o:Po)(ni:Bool)(ins:List Pl):H7 I (.mk o ni ins)=m9 I o (ins.map (H7 I)):=by rw[H7,C1m]
mutual
/-- The greatest size of a plan's nodes. -/
def N7(rs:List Int):Pl->Int
 |.mk o ni ins=>(A70 rs ins).foldl max (I3 rs (.mk o ni ins))
def A70(rs:List Int):List Pl->List Int
 |[]=>[]
 |p::r=>N7 rs p::A70 rs r
end
theorem A9d(rs:List Int):∀l,A70 rs l=l.map (N7 rs)
 |[]=>by simp[A70]
 |e::es=>by simp[A70,A9d rs es]
theorem A94:∀(l:List Int)(a B:Int),l.foldl max a<=B->a<=B/\∀x∈l,x<=B
 |[],a,B,h=>⟨h,by simp⟩
 |y::l,a,B,h=>by
  obtain⟨h1,h2⟩:=A94 l (max a y) B h
  refine⟨by omega,λx hx=>?_⟩
  rcases H2.1 hx with rfl|hx
  ·omega
  ·exact h2 x hx
theorem y8{rs:List Int}{o:Po}{ni:Bool}{ins:List Pl}{B:Int}(h:N7 rs (.mk o ni ins)<=B):I3 rs (.mk o ni ins)<=B/\∀p∈ins,N7 rs p<=B:=by
 rw[N7,A9d] at h
 obtain⟨h1,h2⟩:=A94 _ _ _ h
 exact⟨h1,λp hp=>h2 _ (D7.2 ⟨p,hp,rfl⟩)⟩
theorem C1v:∀{l:List (Kw×Int)},n0 l=0->∀x∈l,x.2=0
 |[],_,x,hx=>by cases hx
 |y::l,h,x,hx=>by
  unfold n0 at h
  by_cases hy:y.2=0
  ·rw[if_pos hy] at h
   rcases H2.1 hx with rfl|hx
   ·exact hy
   ·exact C1v h x hx
  ·rw[if_neg hy] at h;exact absurd h hy
theorem Z9{K:List Kw}{o:Po}{ni:Bool}{ins:List Pl}(h:(C2 K (.mk o ni ins)).2=0):0<=J9 o.op/\(ins.length:Int)=J9 o.op/\(∀p∈ins,(C2 K p).2=0)/\(J4 K o (ins.map λp=>(C2 K p).1)).2=0/\(C2 K (.mk o ni ins)).1=(J4 K o (ins.map λp=>(C2 K p).1)).1/\0<(C2 K (.mk o ni ins)).1.ks.length:=by
 rw[A5z] at h ⊢
 unfold ndN at h ⊢
 by_cases h1:J9 o.op<0
 ·rw[if_pos h1] at h;cases h
 rw[if_neg h1] at h ⊢
 by_cases h2:(ins.length:Int)=J9 o.op
 rotate_left
 ·rw[if_neg h2] at h;cases h
 rw[if_pos h2] at h ⊢
 by_cases h3:n0 (ins.map (C2 K))=0
 rotate_left
 ·rw[if_neg h3] at h;exact absurd h h3
 rw[if_pos h3,V0] at h ⊢
 have e:(Prod.fst ∘ C2 K)=λp=>(C2 K p).1:=rfl
 rw[e] at h ⊢
 unfold ndR at h ⊢
 by_cases h4:(J4 K o (ins.map λp=>(C2 K p).1)).2=0
 rotate_left
 ·rw[if_neg h4] at h;exact absurd h h4
 rw[if_pos h4] at h ⊢
 by_cases h5:(J4 K o (ins.map λp=>(C2 K p).1)).1.ks.length=0\/48<(J4 K o (ins.map λp=>(C2 K p).1)).1.ks.length
 ·rw[if_pos h5] at h;cases h
 rw[if_neg h5]
 exact⟨by omega,h2,λp hp=>C1v h3 _ (D7.2 ⟨p,hp,rfl⟩),h4,rfl,by show 0<(J4 K o (ins.map λp=>(C2 K p).1)).1.ks.length;omega⟩
def w4(n:Nat)(r:B5):Prop:=r.length=n/\∀v∈r,v.s.length<=200
theorem B20{row:B5}{ks:List Int}(h:Q1 row ks=true):w4 ks.length row:=by
 unfold Q1 at h
 rw[K7] at h
 have h1:=of_decide_eq_true h.1
 refine⟨h1,λv hv=>?_⟩
 obtain⟨i,hi,rfl⟩:=A1n.1 hv
 have h2:=L7.1 h.2 (row[i],ks[i]) (A1n.2 ⟨i,by rw[A65];omega,by rw[List.getElem_zip]⟩)
 unfold T8 at h2
 rw[K7] at h2
 exact C4b h2.1
theorem C3c{ks:List Int}:∀{xs:List Ex},(G8 ks xs).2=0->(G8 ks xs).1.length=xs.length
 |[],_=>rfl
 |e::r,h=>by
  unfold G8 at h ⊢
  split at h
  ·split at h
   ·cases h
   ·split at h
    ·rename_i h1 h2 h3
     rw[if_pos h1,if_neg h2,if_pos h3]
     simp only[H9,C3c h3]
    ·rename_i h3;exact absurd h h3
  ·rename_i h3;exact absurd h h3
theorem C1X{ks:List Int}:∀{l:List Ag}{w:List Int},(A1E ks w l).2=0->(A1E ks w l).1.length=w.length+l.length/\∀a∈l,a.arg<ks.length
 |[],w,_=>⟨rfl,by simp⟩
 |a::r,w,h=>by
  unfold A1E at h ⊢
  by_cases h1:(agK ks a).2=0
  ·rw[if_pos h1] at h ⊢
   obtain⟨h2,h3⟩:=C1X h
   refine⟨by rw[h2,H8];simp;omega,λx hx=>?_⟩
   rcases H2.1 hx with rfl|hx
   ·unfold agK at h1
    split at h1
    ·split at h1
     ·rename_i h4;omega
     ·split at h1
      ·cases h1
      ·rename_i h4;omega
    ·cases h1
   ·exact h3 x hx
  ·rw[if_neg h1] at h;exact absurd h h1
theorem C1Z{ks:List Int}{l:List Ag}:∀{keys w:List Int},(A0c ks l w keys).2=0->(A0c ks l w keys).1.length=w.length+keys.length+l.length/\∀a∈l,a.arg<ks.length
 |[],w,h=>by unfold A0c at h ⊢;exact C1X h
 |k::r,w,h=>by
  unfold A0c at h ⊢
  by_cases h1:k<0\/(ks.length:Int)<=k
  ·rw[if_pos h1] at h;cases h
  ·rw[if_neg h1] at h ⊢
   obtain⟨h2,h3⟩:=C1Z h
   exact⟨by rw[h2,H8];simp;omega,h3⟩
theorem C1Y{ks keys:List Int}{l:List Ag}(h:(Q2 ks keys l).2=0):(Q2 ks keys l).1.length=keys.length+l.length/\∀a∈l,a.arg<ks.length:=by
 have:=C1Z h
 exact⟨by have h1:=this.1;simp only[l9,A0Q] at h1;exact h1,this.2⟩
theorem A5P:E6.s.length<=200:=by decide
theorem B3n(n:Int):(Z2 n).s.length<=200:=by
 unfold Z2 g8
 split
 ·exact N1 _
 ·exact A5P
theorem C48{l:B5}(h:∀v∈l,v.s.length<=200)(i:Int):(T4 l i).s.length<=200:=by
 unfold T4
 split
 ·exact A5P
 ·rw[I4]
  cases hx:l[i.toNat]? with
  |none=>exact A5P
  |some v=>exact h v (C3 hx)
theorem C2y(op:Int):∀(l:List Vl)(o:Vl),o.s.length<=200->(∀v∈l,v.s.length<=200)->(mmL op o l).s.length<=200
 |[],o,h,_=>h
 |v::r,o,h,hl=>by
  refine C2y op r _ ?_ λx hx=>hl x (by simp[hx])
  unfold mmS
  split
  ·exact hl v (by simp)
  ·exact h
theorem D4s{rows:List B5}(h:∀r∈rows,∀v∈r,v.s.length<=200)(op ar:Int):(A1Y rows op ar).s.length<=200:=by
 have hn:∀v∈nnF rows ar,v.s.length<=200:=λv hv=>by
  obtain⟨r,hr,rfl⟩:=D7.1 (m0.1 hv).1
  exact C48 (h r hr) ar
 unfold A1Y
 split
 ·exact B3n _
 split
 ·exact B3n _
 ·cases hl:nnF rows ar with
  |nil=>exact A5P
  |cons v r=>
   rw[hl] at hn
   show(if op=2 then A9P (A3T (0,0) (v::r)) else mmL op v r).s.length<=200
   split
   ·unfold A9P
    dsimp only
    split
    ·exact A5P
    ·exact B3n _
   ·exact C2y op r v (hn v (by simp)) λx hx=>hn x (by simp[hx])
theorem C21(ags:List Ag):∀(n:Nat)(l:List Kd),l.length<=n->∀r∈S4 ags l,∃x∈l,∃rs:List B5,(∀y∈rs,∃z∈l,z.rw.vs=y)/\r=R2 x.key rs ags
 |_,[],_,r,h=>by rw[S4] at h;cases h
 |0,x::r,h,_,_=>by simp at h
 |n+1,x::l,h,r,hr=>by
  simp only[H9] at h
  rw[S4] at hr
  rcases H2.1 hr with rfl|hr
  ·refine⟨x,by simp,_,λy hy=>?_,rfl⟩
   unfold A8 at hy
   rw[V0] at hy
   obtain⟨z,hz,rfl⟩:=D7.1 hy
   refine⟨z,?_,rfl⟩
   rcases H2.1 hz with rfl|hz
   ·simp
   ·exact I2 _ ((List.takeWhile_prefix _).subset hz)
  ·have hs:=A4L (l:=l) (R8 x)
   obtain⟨x',h1,rs,h2,h3⟩:=C21 ags n _ (K4 hs.length_le (by omega)) r hr
   exact⟨x',I2 _ (hs.subset h1),rs,λy hy=>by
    obtain⟨z,hz,e⟩:=h2 y hy
    exact⟨z,I2 _ (hs.subset hz),e⟩,h3⟩
theorem D6C(ags:List Ag){l:List Kd}(h:∀x∈l,x.key=[]):(S4 ags l).length<=1:=by
 cases l with
 |nil=>rw[S4];exact N1 _
 |cons x r=>
  have:r.dropWhile (R8 x)=[]:=by
   have hx:=h x (by simp)
   have hr:∀y∈r,y.key=[]:=λy hy=>h y (by simp[hy])
   clear h
   induction r with
   |nil=>rfl
   |cons y r ih=>
    have hy:R8 x y=true:=by
     unfold R8
     rw[hx,hr y (by simp)];rfl
    rw[A62,if_pos hy]
    exact ih λz hz=>hr z (by simp[hz])
  rw[S4,this,S4]
  exact D3 _
theorem C2T{n:Nat}{key:B5}{rs:List B5}{ags:List Ag}(hk:w4 n key)(h:∀r∈rs,∀v∈r,v.s.length<=200):w4 (n+ags.length) (R2 key rs ags):=by
 refine⟨by rw[B2B,hk.1],λv hv=>?_⟩
 unfold R2 at hv
 rcases K8.1 hv with h1|h1
 ·exact hk.2 v h1
 ·obtain⟨a,_,rfl⟩:=D7.1 h1
  exact D4s h _ _
theorem D6A{n:Nat}{keys:List Int}{ags:List Ag}{l:List Rw}(h:∀r∈l,w4 n r.vs):∀r∈t7 keys ags l,w4 (keys.length+ags.length) r:=by
 intro r hr
 unfold t7 at hr
 split at hr
 ·rename_i hc
  rw[K7,A0r,A0r] at hc
  rw[M7.1 hr,hc.2]
  exact C2T (n:=0) ⟨rfl,by simp⟩ (by simp)
 ·obtain⟨x,hx,rs,h1,rfl⟩:=C21 ags _ _ (D3 _) r hr
  have hk:∀z∈N6 (kdL keys l),∃w∈l,z=⟨pick w.vs keys,w⟩:=λz hz=>by
   obtain⟨w,hw,rfl⟩:=D7.1 (A3L _ _ (D3 _) z hz)
   exact⟨w,hw,rfl⟩
  obtain⟨w,hw,rfl⟩:=hk x hx
  refine C2T ⟨by simp[pick],λv hv=>?_⟩ λy hy=>?_
  ·obtain⟨k,_,rfl⟩:=D7.1 hv
   exact C48 (h w hw).2 k
  ·obtain⟨z,hz,rfl⟩:=h1 y hy
   obtain⟨w',hw',rfl⟩:=hk z hz
   exact(h w' hw').2
theorem D6B(keys:List Int)(ags:List Ag)(l:List Rw):(keys.length=0->(t7 keys ags l).length<=1)/\(keys.length≠0->(t7 keys ags l).length<=l.length):=by
 have hl:=B2c ags _ (N6 (kdL keys l)) (D3 _)
 rw[A3K _ _ (D3 _),show(kdL keys l).length=l.length by simp[kdL]] at hl
 constructor
 ·intro hk
  have hk:=A0J.1 hk
  unfold t7
  split
  ·exact D3 _
  ·refine D6C ags λx hx=>?_
   obtain⟨w,hw,rfl⟩:=D7.1 (A3L _ _ (D3 _) x hx)
   rw[hk];rfl
 ·intro hk
  unfold t7
  split
  ·rename_i hc
   rw[K7,A0r,A0r] at hc
   rw[hc.2] at hk
   exact absurd rfl hk
  ·exact hl
theorem D6R(e:Ex)(B:List B5)(a:B5):(R5 e B a).length<=B.length:=by
 unfold R5
 have:=A0K (L9 e) (B.map λb=>a++b)
 rw[D8] at this
 exact this
theorem B2h(e:Ex)(left:Bool)(nb:Nat)(B:List B5):∀A:List B5,(N5 e left nb B A).length<=A.length*(if left then max B.length 1 else B.length)
 |[]=>by simp[N5]
 |a::r=>by
  have ih:=B2h e left nb B r
  have h1:=D6R e B a
  rw[N5,H8,H8,H9,V8,Nat.one_mul]
  have h2:(R5 e B a).length+(jnO left nb a (R5 e B a)).length<=if left then max B.length 1 else B.length:=by
   unfold jnO
   cases left with
   |false=>exact h1
   |true=>
    cases hj:(R5 e B a).isEmpty with
    |true=>
     have:=A0r.1 hj
     simp[this];omega
    |false=>
     simp
     omega
  omega
theorem B2g{e:Ex}{left:Bool}{n m:Nat}{B:List B5}(hB:∀r∈B,w4 m r):∀{A:List B5},(∀r∈A,w4 n r)->∀r∈N5 e left m B A,w4 (n+m) r
 |[],_,r,h=>by cases h
 |a::A,hA,r,h=>by
  have ha:=hA a (by simp)
  rw[N5] at h
  rcases K8.1 h with h|h
  ·rcases K8.1 h with h|h
   ·obtain⟨b,hb,rfl⟩:=D7.1 (m0.1 h).1
    have hb:=hB b hb
    exact⟨by rw[H8,ha.1,hb.1],λv hv=>by
     rcases K8.1 hv with h|h
     ·exact ha.2 v h
     ·exact hb.2 v h⟩
   ·unfold jnO at h
    split at h
    ·rw[M7.1 h]
     exact⟨by rw[H8,ha.1,A38],λv hv=>by
      rcases K8.1 hv with h|h
      ·exact ha.2 v h
      ·rw[(A8b.1 h).2];exact A5P⟩
    ·cases h
  ·exact B2g hB (λr hr=>hA r (by simp[hr])) r h
theorem A8Q:∀(l:List B5)(p:Option B5),∀x∈S3 p l,x∈l
 |[],p,x,h=>by cases p<;>simp[S3] at h
 |y::r,none,x,h=>by
  rw[S3] at h
  rcases H2.1 h with rfl|h
  ·simp
  ·simp[A8Q r _ x h]
 |y::r,some p,x,h=>by
  rw[S3] at h
  split at h
  ·simp[A8Q r _ x h]
  ·rcases H2.1 h with rfl|h
   ·simp
   ·simp[A8Q r _ x h]
theorem C40{a b:Int}(ha:0<=a)(hb:0<=b)(h:l7 a b<=2000):l7 a b=a*b:=by
 unfold l7 at h ⊢
 split
 ·rename_i hc;rw[if_pos hc] at h;omega
 ·rfl
structure BgG(b:Bg)(k:Kw)(s:Int):Prop where
 ki:b.ki=k.ks
 len:(b.rows.length:Int)<=s
 row:∀r∈b.rows,w4 k.ks.length r.vs
structure InG(I:List Bg):Prop where
 pos:∀b∈I,0<b.ki.length/\b.ki.length<=48
 row:∀b∈I,b.rows.length<=20/\∀r∈b.rows,Q1 r.vs b.ki=true
abbrev D2(I:List Bg):List Kw:=I.map Bg.kw
abbrev H3(I:List Bg):List Int:=I.map λb=>(b.rows.length:Int)
theorem A9G{l:List B5}{r:Rw}(h:r∈J0 l):r.vs∈l:=by
 obtain⟨x,hx,rfl⟩:=D7.1 h
 exact hx
theorem C4f{l:List Rw}{x:B5}(h:x∈A8 l):∃r∈l,r.vs=x:=D7.1 h
theorem A9F(l:List B5):(J0 l).length=l.length:=by simp[J0]
theorem A0E(l:List Rw):(A8 l).length=l.length:=by simp[A8]
theorem A3M{l:List B5}{n:Nat}(h:∀x∈l,w4 n x):∀r∈J0 (D1 l),w4 n r.vs:=λr hr=>h _ (A1I _ _ (D3 _) _ (A9G hr))
theorem A2g(l:List B5):(J0 (D1 l)).length=l.length:=by rw[A9F,A14 _ _ (D3 _)]
theorem A1e{l:List Rw}{n:Nat}(h:∀r∈l,w4 n r.vs):∀x∈A8 l,w4 n x:=λx hx=>by
 obtain⟨r,hr,rfl⟩:=C4f hx
 exact h r hr
theorem n8{α:Type}{l:List α}(h:l.length=2):∃p q,l=[p,q]:=by
 match l,h with
 |[p,q],_=>exact⟨p,q,rfl⟩
theorem A5g{I:List Bg}(hI:InG I):∀p:Pl,p.bk<=1073741824->(C2 (D2 I) p).2=0->N7 (H3 I) p<=2000->BgG (H7 I p) (C2 (D2 I) p).1 (I3 (H3 I) p):=by
  refine Pl.ind λo ni ins ih hb h0 hl=>?_
  have hB:=Pl.bd hb
  obtain⟨k1,k2,k3,k4,k5,k6⟩:=Z9 h0
  obtain⟨m1,m2⟩:=y8 hl
  have ih':∀p∈ins,BgG (H7 I p) (C2 (D2 I) p).1 (I3 (H3 I) p):=λp hp=>ih p hp (hB.sub p hp) (k3 p hp) (m2 p hp)
  have hsz:∀p∈ins,0<=I3 (H3 I) p:=λp hp=>(B3d _ p (hB.sub p hp)).1
  have hs1:I3 (H3 I) (.mk o ni ins)=W3 (H3 I) o ((u5 (H3 I) ins).getD 0 0) ((u5 (H3 I) ins).getD 1 0):=rfl
  rw[A1P,A1P] at hs1
  rw[hs1] at m1
  rw[k5,hs1,A2N]
  clear k5 k6 hs1 hl ih k3 m2 hb h0
  have hops:=A5q o.op
  rcases hops with ⟨ho,hn⟩|⟨ho,hn⟩|⟨ho,hn⟩|⟨ho,hn⟩|⟨ho,hn⟩|⟨ho,hn⟩|⟨ho,hn⟩|⟨ho,hn⟩|⟨ho,hn⟩|⟨ho,hn⟩|⟨ho,hn⟩|⟨_,hn⟩
  all_goals rw[hn] at k2
  · -- a scan
    have e1:J4 (D2 I) o (ins.map λp=>(C2 (D2 I) p).1)=scF (D2 I) o.n:=by simp[J4,ho]
    rw[e1] at k4 ⊢
    unfold scF at k4 ⊢
    by_cases c1:o.n<0\/((D2 I).length:Int)<=o.n
    · rw[if_pos c1] at k4;cases k4
    rw[if_neg c1] at k4 ⊢
    rw[D8] at c1
    obtain⟨b,hbx⟩:∃b,I[o.n.toNat]?=some b:=⟨_,F4 (by omega)⟩
    have e2:(D2 I).getD o.n.toNat K0=b.kw:=by rw[I4,J1,hbx];rfl
    have e3:I.getD o.n.toNat K9=b:=by rw[I4,hbx];rfl
    have hbm:=C3 hbx
    rw[e2] at k4 ⊢
    cases c2:b.kw.ks.all Y9 with
    |false=>rw[c2] at k4;cases k4
    |true=>
      rw[if_pos rfl]
      have e4:W3 (H3 I) o ((Option.map (I3 (H3 I)) ins[0]?).getD 0) ((Option.map (I3 (H3 I)) ins[1]?).getD 0)=(b.rows.length:Int):=by
        unfold W3
        rw[if_pos ho,if_pos ⟨by omega,by rw[D8];omega⟩,I4,J1,hbx]
        have:=(hI.row b hbm).1
        show min (max (b.rows.length:Int) 0) 1099511627776=_
        omega
      rw[e4]
      unfold m9
      rw[if_pos ho,e3]
      refine⟨rfl,?_,A3M (A1e λr hr=>B20 ((hI.row b hbm).2 r hr))⟩
      rw[A2g,A0E];exact A0q _
  · -- values
    have e1:J4 (D2 I) o (ins.map λp=>(C2 (D2 I) p).1)=vaF o.nk o.ki o.rows:=by simp[J4,ho]
    rw[e1] at k4 ⊢
    unfold vaF at k4 ⊢
    split at k4
    · cases k4
    split at k4
    · split at k4
      · rename_i c1 c2 c3
        rw[if_neg c1,if_pos c2,if_pos c3]
        have e4:W3 (H3 I) o ((Option.map (I3 (H3 I)) ins[0]?).getD 0) ((Option.map (I3 (H3 I)) ins[1]?).getD 0)=(o.rows.length:Int):=by simp[W3,ho]
        rw[e4]
        have e5:m9 I o (ins.map (H7 I))=⟨o.nk,o.ki,false,J0 (D1 (A8 o.rows))⟩:=by simp[m9,ho]
        rw[e5]
        refine⟨rfl,?_,A3M (A1e λr hr=>B20 (L7.1 c3 r hr))⟩
        rw[A2g,A0E];exact A0q _
      · cases k4
    · cases k4
  iterate 4
    · obtain⟨p,hp⟩:∃p,ins=[p]:=List.length_eq_one_iff.1 (by omega)
      subst hp
      have hg:=ih' p (by simp)
      have hz:=hsz p (by simp)
      simp only[H5,V7,A2y,A42,List.getElem?_nil,A0R,Option.map_none,A04,Option.getD_none] at *
      obtain⟨a,hae⟩:∃a,a=H7 I p:=⟨_,rfl⟩
      obtain⟨k,hke⟩:∃k,k=(C2 (D2 I) p).1:=⟨_,rfl⟩
      obtain⟨s,hse⟩:∃s,s=I3 (H3 I) p:=⟨_,rfl⟩
      rw[<- hae,<- hke,<- hse] at hg
      rw[<- hse] at m1 hz
      rw[<- hke] at k4
      rw[<- hae,<- hke,<- hse]
      obtain⟨g1,g2,g3⟩:=hg
      simp[J4,ho] at k4
      simp[J4,m9,W3,ho]
      first
        |exact⟨g1,by rw[A2g];have:=A0K (L9 o.pred) (A8 a.rows);rw[A0E] at this;omega,A3M λx hx=>A1e g3 x (m0.1 hx).1⟩
        |exact⟨by rw[g1],by rw[A2g,D8,A0E];exact g2,A3M λx hx=>by
            obtain⟨y,hy,rfl⟩:=D7.1 hx
            exact⟨by rw[C3c k4];simp[R9],λv hv=>by
              obtain⟨e,_,rfl⟩:=D7.1 hv
              exact C1p _ _⟩⟩
        |exact⟨g1,by rw[A9F];have:=A8P (D1 (A8 a.rows)) none;rw[A14 _ _ (D3 _),A0E] at this;omega,λr hr=>A1e g3 _ (A1I _ _ (D3 _) _ (A8Q _ _ _ (A9G hr)))⟩
        |exact⟨by rw[g1],by
            have h1:=D6B o.keys o.aggs a.rows
            rw[A2g]
            by_cases hk:o.keys=[]
            · rw[if_pos hk];have:=h1.1 (by rw[hk];rfl);omega
            · rw[if_neg hk];have:=h1.2 (λh=>hk (A0J.1 h));omega,A3M λx hx=>by
            rw[(C1Y k4).1];exact D6A g3 x hx⟩
  iterate 5
    · obtain⟨p,q,hp⟩:∃p q,ins=[p,q]:=n8 (by omega)
      subst hp
      have hg:=ih' p (by simp)
      have hz:=hsz p (by simp)
      have hg':=ih' q (by simp)
      have hz':=hsz q (by simp)
      simp only[H5,V7,A2y,A42,List.getElem?_nil,A0R,Option.map_none,A04,Option.getD_none] at *
      obtain⟨a,hae⟩:∃a,a=H7 I p:=⟨_,rfl⟩
      obtain⟨k,hke⟩:∃k,k=(C2 (D2 I) p).1:=⟨_,rfl⟩
      obtain⟨s,hse⟩:∃s,s=I3 (H3 I) p:=⟨_,rfl⟩
      obtain⟨b,hbe⟩:∃a,a=H7 I q:=⟨_,rfl⟩
      obtain⟨l,hle⟩:∃k,k=(C2 (D2 I) q).1:=⟨_,rfl⟩
      obtain⟨t,hte⟩:∃s,s=I3 (H3 I) q:=⟨_,rfl⟩
      rw[<- hae,<- hke,<- hse] at hg
      rw[<- hbe,<- hle,<- hte] at hg'
      rw[<- hse,<- hte] at m1
      rw[<- hse] at hz
      rw[<- hte] at hz'
      rw[<- hke,<- hle] at k4
      rw[<- hae,<- hke,<- hse,<- hbe,<- hle,<- hte]
      obtain⟨g1,g2,g3⟩:=hg
      obtain⟨g1',g2',g3'⟩:=hg'
      clear hae hke hse hbe hle hte ih' hsz hB
      simp[J4,ho] at k4
      simp[W3,ho] at m1
      simp[J4,m9,W3,ho]
      first
        |exact⟨by rw[g1,g1'],by
            rw[C40 hz hz' m1,A2g]
            have:=B2h o.pred false b.ki.length (A8 b.rows) (A8 a.rows)
            rw[A0E,A0E] at this
            have h2:(a.rows.length:Int)*b.rows.length<=s*t:=Int.mul_le_mul g2 g2' (by omega) hz
            have h3:((a.rows.length*b.rows.length:Nat):Int)=(a.rows.length:Int)*b.rows.length:=Int.natCast_mul _ _
            have h4:(N5 o.pred false b.ki.length (A8 b.rows) (A8 a.rows)).length<=a.rows.length*b.rows.length:=this
            omega,A3M λx hx=>by
            rw[show(k.ks++l.ks).length=k.ks.length+l.ks.length by simp]
            rw[g1'] at hx
            exact B2g (A1e g3') (A1e g3) x hx⟩
        |exact⟨by rw[g1,g1'],by
            have ht1:0<=max t 1:=by omega
            rw[C40 hz ht1 m1,A2g]
            have:=B2h o.pred true b.ki.length (A8 b.rows) (A8 a.rows)
            rw[A0E,A0E] at this
            have h2:(a.rows.length:Int)*(max b.rows.length 1:Nat)<=s*max t 1:=Int.mul_le_mul g2 (by omega) (by omega) hz
            have h3:((a.rows.length*max b.rows.length 1:Nat):Int)=(a.rows.length:Int)*(max b.rows.length 1:Nat):=Int.natCast_mul _ _
            have h4:(N5 o.pred true b.ki.length (A8 b.rows) (A8 a.rows)).length<=a.rows.length*max b.rows.length 1:=this
            omega,A3M λx hx=>by
            rw[show(k.ks++l.ks).length=k.ks.length+l.ks.length by simp]
            rw[g1'] at hx
            exact B2g (A1e g3') (A1e g3) x hx⟩
        | (by_cases c1 : k.ks.length = l.ks.length
           · rw[if_pos c1] at k4 ⊢
             by_cases c2:k.ks=l.ks
             · rw[if_pos c2] at k4 ⊢
               first
                 |exact⟨g1,by
                     rw[A2g,H8,A0E,A0E]
                     have hmm:Z7=1099511627776:=rfl
                     omega,A3M λx hx=>by
                     rcases K8.1 hx with h|h
                     · exact A1e g3 x h
                     · have:=A1e g3' x h;rw[<- c2] at this;exact this⟩
                 |exact⟨g1,by
                     rw[A9F]
                     have:=C3E X5 (λn m=>by unfold X5;omega) (A8 a.rows) (A8 b.rows)
                     rw[A0E] at this
                     omega,λr hr=>A1e g3 _ (C3F _ _ _ _ (A9G hr))⟩
                 |exact⟨g1,by
                     rw[A9F]
                     have h1:=C3E V3 (λn m=>by unfold V3;omega) (A8 a.rows) (A8 b.rows)
                     have h2:=D9m V3 (λn m=>by unfold V3;omega) (A8 a.rows) (A8 b.rows)
                     rw[A0E] at h1 h2
                     omega,λr hr=>A1e g3 _ (C3F _ _ _ _ (A9G hr))⟩
             · rw[if_neg c2] at k4;cases k4
           · rw[if_neg c1] at k4;cases k4)
  · omega
end Go.Proofs
end
section
namespace Go.Proofs
open Go.Bi
abbrev Bg.av(b:Bg):AV:=O6 b.kd b.rd
theorem w4.ok{n:Nat}{r:B5}(h:w4 n r)(hn:n<=48):A3i r:=⟨by rw[h.1];omega,λv hv=>by have:=h.2 v hv;omega⟩
theorem A4o(l:List B5):ng false (B7 (J0 l))=.sl (rD l):=by rw[A8S];rfl
theorem D7F(l:List B5):ng true (B7 (J0 l))=X8 (rD l).isEmpty (rD l):=by rw[A8S,A2m]
theorem C5K{I:List Bg}(hI:InG I)(hIl:I.length<=4294967296)(din:D)(hin:A9 din (V2 I)):∀p:Pl,p.bk<=1073741824->(C2 (D2 I) p).2=0->N7 (H3 I) p<=2000->
    Pure Tryz.prog b8 [p.av,.d din] (H7 I p).av:=by
  refine Pl.ind λo ni ins ih hb h0 hl=>?_
  have hB:=Pl.bd hb
  have hG:=A5g hI (.mk o ni ins) hb h0 hl
  obtain⟨k1,k2,k3,k4,k5,k6⟩:=Z9 h0
  obtain⟨m1,m2⟩:=y8 hl
  have ih':∀p∈ins,Bi.Pure Tryz.prog b8 [p.av,.d din] (H7 I p).av:=λp hp=>ih p hp (hB.sub p hp) (k3 p hp) (m2 p hp)
  have gd:∀p∈ins,BgG (H7 I p) (C2 (D2 I) p).1 2000:=λp hp=>by
    have:=A5g hI p (hB.sub p hp) (k3 p hp) (m2 p hp)
    have h2:=(y8 (rs:=H3 I) (o:=o) (ni:=ni) (ins:=ins) hl)
    obtain⟨po,pn,pin⟩:=p
    have h3:=(y8 (m2 _ hp)).1
    exact⟨this.ki,by have:=this.len;omega,this.row⟩
  have gl:∀p:Pl,(C2 (D2 I) p).1.ks.length<=48:=λp=>Z8 _ p
  have hGl:=hG.len
  rw[A2N] at hGl ⊢
  clear k5 k6 ih k3 m2 h0 hl
  obtain⟨xo,xn,xv,xm,xd,hav,hpa⟩:=Pl.cuto o ni ins
  rw[hav]
  clear hav hb hG
  obtain⟨op,n,nk,ki,nr,rows,pred,nx,xs,ny,keys,na,aggs⟩:=o
  have hki:=hB.ki
  have hrl:=hB.nr
  have hrb:=hB.row
  have hpb:=hB.pred
  have hxl:=hB.xs
  have hxb:=hB.xb
  have hyl:=hB.keys
  have hal:=hB.aggs
  clear hB
  dsimp only at hki hrl hrb hpb hxl hxb hyl hal hpa k1 k2
  obtain⟨dk,e1⟩:∃d,d=ng nk (A5 ki):=⟨_,rfl⟩
  obtain⟨dr,e2⟩:∃d,d=ng nr (B7 rows):=⟨_,rfl⟩
  obtain⟨dx,e3⟩:∃d,d=ng nx (xL xs):=⟨_,rfl⟩
  obtain⟨dy,e4⟩:∃d,d=ng ny (A5 keys):=⟨_,rfl⟩
  obtain⟨da,e5⟩:∃d,d=ng na (I0 aggs):=⟨_,rfl⟩
  obtain⟨di,e6⟩:∃d,d=ng ni (pL ins):=⟨_,rfl⟩
  show Bi.Pure Tryz.prog b8 [G3 op n (ng nk (A5 ki)) (ng nr (B7 rows)) xo xn xv xm xd (ng nx (xL xs)) (ng ny (A5 keys)) (ng na (I0 aggs)) (ng ni (pL ins)),.d din] _
  rw[<- e1,<- e2,<- e3,<- e4,<- e5,<- e6]
  have sx:A9 dx (xL xs):=by rw[e3];exact C7
  have sy:A9 dy (A5 keys):=by rw[e4];exact C7
  have sa:A9 da (I0 aggs):=by rw[e5];exact C7
  have hdi:A9 di (pL ins):=by rw[e6];exact C7
  clear e3 e4 e5 e6
  have l1:=b5 ins
  have mm1:=e9 ins
  have hg0:∀p,ins[0]?=some p->(pL ins)[(0:Int).toNat]?=some p.ds:=λp h=>j6 h
  have hg1:∀p,ins[1]?=some p->(pL ins)[(1:Int).toNat]?=some p.ds:=λp h=>j6 h
  have hops:=A5q op
  rcases hops with ⟨rfl,hn⟩|⟨rfl,hn⟩|⟨rfl,hn⟩|⟨rfl,hn⟩|⟨rfl,hn⟩|⟨rfl,hn⟩|⟨rfl,hn⟩|⟨rfl,hn⟩|⟨rfl,hn⟩|⟨rfl,hn⟩|⟨rfl,hn⟩|⟨_,hn⟩
  all_goals rw[hn] at k2
  · -- a scan
    have k4:(scF (D2 I) n).2=0:=k4
    unfold scF at k4
    by_cases c1:n<0\/((D2 I).length:Int)<=n
    · rw[if_pos c1] at k4;cases k4
    rw[D8] at c1
    obtain⟨b,hbx⟩:∃b,I[n.toNat]?=some b:=⟨_,F4 (by omega)⟩
    have e3:I.getD n.toNat K9=b:=by rw[I4,hbx];rfl
    have hbm:=C3 hbx
    have hS:=A0p b.rows (by have:=(hI.row b hbm).1;omega) (λr hr=>by have:=B20 ((hI.row b hbm).2 r hr);have h2:=hI.pos b hbm;rw[this.1];omega) b.rd C7
    have hg:=A6I hbx
    have il:=A5d I
    have im:=A6J I
    show Bi.Pure Tryz.prog b8 [G3 1 n dk dr xo xn xv xm xd dx dy da di,.d din] (O6 (ng (I.getD n.toNat K9).nk (A5 (I.getD n.toNat K9).ki)) (ng false (B7 (J0 (D1 (A8 (I.getD n.toNat K9).rows))))))
    rw[e3,A4o]
    obtain⟨kd,hkd⟩:∃d,d=b.kd:=⟨_,rfl⟩
    obtain⟨rd,hrd⟩:∃d,d=b.rd:=⟨_,rfl⟩
    rw[<- hkd,<- hrd] at hg
    rw[<- hrd] at hS
    rw[show ng b.nk (A5 b.ki)=kd from hkd.symm]
    obtain⟨Z,hZ⟩:∃z,z=rD (D1 (A8 b.rows)):=⟨_,rfl⟩
    rw[<- hZ] at hS ⊢
    obtain⟨es,hes⟩:∃z,z=V2 I:=⟨_,rfl⟩
    rw[<- hes] at hin il im hg
    have h1:n<es.length:=by omega
    clear hZ hkd hrd e3 hes hbx ih' gd gl hGl hg0 hg1 k4 hbm
    refine A1i.go A6 rfl ?_
    repeat' first|refine st ?_|((with_reducible apply A4);conv=>whnf)|refine⟨λ_=>?_,λ_=>?_⟩|fail
    all_goals rfl
  · -- values
    have hS:=A0p rows (by omega) (λr hr=>by have:=(hrb r hr).1;omega) dr (by rw[e2];exact C7)
    show Bi.Pure Tryz.prog b8 [G3 2 n dk dr xo xn xv xm xd dx dy da di,.d din] (O6 (ng nk (A5 ki)) (ng false (B7 (J0 (D1 (A8 rows))))))
    rw[A4o,<- e1]
    obtain⟨Z,hZ⟩:∃z,z=rD (D1 (A8 rows)):=⟨_,rfl⟩
    rw[<- hZ] at hS ⊢
    clear hZ e1 e2 ih' gd gl hGl hg0 hg1 k4 hrb
    refine A1i.go A6 rfl ?_
    repeat' first|refine st ?_|((with_reducible apply A4);conv=>whnf)|refine⟨λ_=>?_,λ_=>?_⟩|fail
    all_goals rfl
  iterate 4
    · obtain⟨p,hp⟩:∃p,ins=[p]:=List.length_eq_one_iff.1 (by omega)
      subst hp
      have hP:=ih' p (by simp)
      obtain⟨g1,g2,g3⟩:=gd p (by simp)
      have hg:=hg0 p rfl
      have gk:=gl p
      obtain⟨op',n',dk',dr',xo',xn',xv',xm',xd',dx',dy',da',di',c1,c2⟩:=Pl.cut p
      rw[c1] at hg
      rw[c2] at hP
      obtain⟨k,hk⟩:∃k,k=(C2 (D2 I) p).1:=⟨_,rfl⟩
      simp only[H5,V7] at hGl k4 ⊢
      rw[<- hk] at g1 g3 gk k4
      obtain⟨a,ha⟩:∃a,a=H7 I p:=⟨_,rfl⟩
      rw[<- ha] at hP g1 g2 g3 hGl ⊢
      have hok:∀r∈a.rows,A3i r.vs:=λr hr=>(g3 r hr).ok gk
      have hr:∀r∈a.rows,r.vs.length<=4294967296:=λr hr=>by have:=(hok r hr).1;omega
      have hF:=C5M a.kd a.rows (by omega) hok a.rd C7 pred hpb
      have hJ:=C5S a.ki (by rw[g1];omega) a.kd C7 a.rows (by omega) hok a.rd C7 xs hxl hxb dx sx
      have hD:=C5J a.kd a.rows (by omega) hr a.rd C7
      have hQ:=C5N a.ki (by rw[g1];omega) a.kd C7 a.rows (by omega) hok a.rd C7 keys hyl dy sy aggs hal
      rw[hpa] at hF
      rw[A2m] at hJ
      rw[<- A4o] at hF hJ hD
      have hP:Bi.Pure Tryz.prog b8 [G3 op' n' dk' dr' xo' xn' xv' xm' xd' dx' dy' da' di',.d din] (O6 a.kd a.rd):=hP
      obtain⟨kd,hkd⟩:∃d,d=a.kd:=⟨_,rfl⟩
      obtain⟨rd,hrd⟩:∃d,d=a.rd:=⟨_,rfl⟩
      rw[<- hkd,<- hrd] at hP hF hJ hD hQ
      have h1:(0:Int)<(pL [p]).length:=by omega
      obtain⟨es,hes⟩:∃z,z=pL [p]:=⟨_,rfl⟩
      rw[<- hes] at hdi l1 mm1 hg h1
      first
        | (have k4 : O4 k.ks pred = 0 := k4
           clear k4 hJ hD hQ
           show Bi.Pure Tryz.prog b8 [G3 3 n dk dr xo xn xv xm xd dx dy da di,.d din] (O6 (ng a.nk (A5 a.ki)) (ng false (B7 (J0 (D1 ((A8 a.rows).filter (L9 pred)))))))
           rw[show ng a.nk (A5 a.ki)=kd from hkd.symm]
           obtain⟨Z,hZ⟩:∃z,z=ng false (B7 (J0 (D1 ((A8 a.rows).filter (L9 pred))))):=⟨_,rfl⟩
           rw[<- hZ] at hF ⊢
           clear hZ hkd hrd hes ih' gd gl hGl hg0 hg1 hr hok g1 g2 g3 c1 c2 hk ha
           refine A1i.go A6 rfl ?_
           repeat' first|refine st ?_|((with_reducible apply A4);conv=>whnf)|refine⟨λ_=>?_,λ_=>?_⟩|fail
           all_goals rfl)
        | (have k4 : (G8 k.ks xs).2 = 0 := k4
           clear k4 hF hD hQ
           show Bi.Pure Tryz.prog b8 [G3 4 n dk dr xo xn xv xm xd dx dy da di,.d din] (O6 (ng true (A5 (G8 a.ki xs).1)) (ng false (B7 (J0 (D1 ((A8 a.rows).map (R9 xs)))))))
           obtain⟨Z,hZ⟩:∃z,z=ng false (B7 (J0 (D1 ((A8 a.rows).map (R9 xs))))):=⟨_,rfl⟩
           obtain⟨Y,hY⟩:∃z,z=ng true (A5 (G8 a.ki xs).1):=⟨_,rfl⟩
           rw[<- hZ,<- hY] at hJ ⊢
           clear hZ hY hkd hrd hes ih' gd gl hGl hg0 hg1 hr hok g1 g2 g3 c1 c2 hk ha
           refine A1i.go A6 rfl ?_
           repeat' first|refine st ?_|((with_reducible apply A4);conv=>whnf)|refine⟨λ_=>?_,λ_=>?_⟩|fail
           all_goals rfl)
        | (have k4 : (Q2 k.ks keys aggs).2 = 0 := k4
           have hQ:=hQ (λx hx r hr=>by rw[(g3 r hr).1];exact(C1Y k4).2 x hx) da sa
           clear k4 hF hD hJ
           show Bi.Pure Tryz.prog b8 [G3 11 n dk dr xo xn xv xm xd dx dy da di,.d din] (O6 (ng true (A5 (Q2 a.ki keys aggs).1)) (ng false (B7 (J0 (D1 (t7 keys aggs a.rows))))))
           rw[A2m,<- A4o] at hQ
           obtain⟨Z,hZ⟩:∃z,z=ng false (B7 (J0 (D1 (t7 keys aggs a.rows)))):=⟨_,rfl⟩
           obtain⟨Y,hY⟩:∃z,z=ng true (A5 (Q2 a.ki keys aggs).1):=⟨_,rfl⟩
           rw[<- hZ,<- hY] at hQ ⊢
           clear hZ hY hkd hrd hes ih' gd gl hGl hg0 hg1 hr hok g1 g2 g3 c1 c2 hk ha
           refine A1i.go A6 rfl ?_
           repeat' first|refine st ?_|((with_reducible apply A4);conv=>whnf)|refine⟨λ_=>?_,λ_=>?_⟩|fail
           all_goals rfl)
        | (clear k4 hF hJ hQ
           show Bi.Pure Tryz.prog b8 [G3 10 n dk dr xo xn xv xm xd dx dy da di,.d din] (O6 (ng a.nk (A5 a.ki)) (ng false (B7 (J0 (S3 none (D1 (A8 a.rows)))))))
           rw[show ng a.nk (A5 a.ki)=kd from hkd.symm]
           obtain⟨Z,hZ⟩:∃z,z=ng false (B7 (J0 (S3 none (D1 (A8 a.rows))))):=⟨_,rfl⟩
           rw[<- hZ] at hD ⊢
           clear hZ hkd hrd hes ih' gd gl hGl hg0 hg1 hr hok g1 g2 g3 c1 c2 hk ha
           refine A1i.go A6 rfl ?_
           repeat' first|refine st ?_|((with_reducible apply A4);conv=>whnf)|refine⟨λ_=>?_,λ_=>?_⟩|fail
           all_goals rfl)
  iterate 5
    · obtain⟨p,q,hp⟩:∃p q,ins=[p,q]:=n8 (by omega)
      subst hp
      have hP:=ih' p (by simp)
      have hP':=ih' q (by simp)
      obtain⟨g1,g2,g3⟩:=gd p (by simp)
      obtain⟨g1',g2',g3'⟩:=gd q (by simp)
      have hg:=hg0 p rfl
      have hg':=hg1 q rfl
      have gk:=gl p
      have gk':=gl q
      obtain⟨op',n',dk',dr',xo',xn',xv',xm',xd',dx',dy',da',di',c1,c2⟩:=Pl.cut p
      obtain⟨op1,n1,dk1,dr1,xo1,xn1,xv1,xm1,xd1,dx1,dy1,da1,di1,c3,c4⟩:=Pl.cut q
      rw[c1] at hg
      rw[c2] at hP
      rw[c3] at hg'
      rw[c4] at hP'
      obtain⟨k,hk⟩:∃k,k=(C2 (D2 I) p).1:=⟨_,rfl⟩
      obtain⟨k',hk'⟩:∃k,k=(C2 (D2 I) q).1:=⟨_,rfl⟩
      simp only[H5,V7] at hGl ⊢
      rw[<- hk] at g1 g3 gk
      rw[<- hk'] at g1' g3' gk'
      obtain⟨a,ha⟩:∃a,a=H7 I p:=⟨_,rfl⟩
      obtain⟨b,hb⟩:∃a,a=H7 I q:=⟨_,rfl⟩
      rw[<- ha] at hP g1 g2 g3
      rw[<- hb] at hP' g1' g2' g3'
      rw[<- ha,<- hb] at hGl ⊢
      have hok:∀r∈a.rows,A3i r.vs:=λr hr=>(g3 r hr).ok gk
      have hok':∀r∈b.rows,A3i r.vs:=λr hr=>(g3' r hr).ok gk'
      have hr:∀r∈a.rows,r.vs.length<=4294967296:=λr hr=>by have:=(hok r hr).1;omega
      have hr':∀r∈b.rows,r.vs.length<=4294967296:=λr hr=>by have:=(hok' r hr).1;omega
      have hw:∀r∈a.rows,r.vs.length<=4096/\∀v∈r.vs,v.s.length<=1073741824:=λr hr=>⟨by rw[(g3 r hr).1];omega,(hok r hr).2⟩
      have hw':∀r∈b.rows,r.vs.length<=4096/\∀v∈r.vs,v.s.length<=1073741824:=λr hr=>⟨by rw[(g3' r hr).1];omega,(hok' r hr).2⟩
      have hJ:=λleft=>C5P a.ki b.ki (by rw[g1,g1'];omega) (by rw[g1'];omega) a.kd b.kd C7 C7 a.rows b.rows (by omega) (by omega) hw hw' a.rd b.rd C7 C7 pred hpb left
      have hU:=C5U a.kd b.kd a.rows b.rows (by omega) hr hr' a.rd b.rd C7 C7
      have hE:=C5L a.kd b.kd a.rows b.rows (by omega) (by omega) hr hr' a.rd b.rd C7 C7
      have hN:=C5O a.kd b.kd a.rows b.rows (by omega) (by omega) hr hr' a.rd b.rd C7 C7
      rw[hpa] at hJ
      rw[<- A4o] at hU
      rw[<- D7F] at hE hN
      have hP:Bi.Pure Tryz.prog b8 [G3 op' n' dk' dr' xo' xn' xv' xm' xd' dx' dy' da' di',.d din] (O6 a.kd a.rd):=hP
      have hP':Bi.Pure Tryz.prog b8 [G3 op1 n1 dk1 dr1 xo1 xn1 xv1 xm1 xd1 dx1 dy1 da1 di1,.d din] (O6 b.kd b.rd):=hP'
      obtain⟨kd,hkd⟩:∃d,d=a.kd:=⟨_,rfl⟩
      obtain⟨rd,hrd⟩:∃d,d=a.rd:=⟨_,rfl⟩
      obtain⟨kd',hkd'⟩:∃d,d=b.kd:=⟨_,rfl⟩
      obtain⟨rd',hrd'⟩:∃d,d=b.rd:=⟨_,rfl⟩
      rw[<- hkd,<- hrd] at hP
      rw[<- hkd',<- hrd'] at hP'
      rw[<- hkd,<- hrd,<- hkd',<- hrd'] at hJ hU hE hN
      have h1:(0:Int)<(pL [p,q]).length:=by omega
      have h2:(1:Int)<(pL [p,q]).length:=by omega
      obtain⟨es,hes⟩:∃z,z=pL [p,q]:=⟨_,rfl⟩
      rw[<- hes] at hdi l1 mm1 hg hg' h1 h2
      clear c1 c2 c3 c4 hk hk' ha hb hr hr' hok hok' hw hw' gd gl ih' hg0 hg1 hes
      first
        | (show Bi.Pure Tryz.prog b8 [G3 5 n dk dr xo xn xv xm xd dx dy da di, .d din] (O6 (ng true (A5 (a.ki ++ b.ki))) (ng false (B7 (J0 (D1 (N5 pred false b.ki.length (A8 b.rows) (A8 a.rows)))))))
           have hln:(N5 pred false b.ki.length (A8 b.rows) (A8 a.rows)).length<=4294967296:=by
             have e:((J0 (D1 (N5 pred false b.ki.length (A8 b.rows) (A8 a.rows)))).length:Int)<=2000:=A0I hGl m1
             rw[A2g] at e
             omega
           have hJ:=hJ false hln
           rw[A2m,<- A4o] at hJ
           obtain⟨Z,hZ⟩:∃z,z=ng false (B7 (J0 (D1 (N5 pred false b.ki.length (A8 b.rows) (A8 a.rows))))):=⟨_,rfl⟩
           obtain⟨Y,hY⟩:∃z,z=ng true (A5 (a.ki++b.ki)):=⟨_,rfl⟩
           rw[<- hZ,<- hY] at hJ ⊢
           clear hZ hY hkd hrd hkd' hrd' hGl hU hE hN g1 g2 g3 g1' g2' g3' k4 hln
           refine A1i.go A6 rfl ?_
           repeat' first|refine st ?_|((with_reducible apply A4);conv=>whnf)|refine⟨λ_=>?_,λ_=>?_⟩|fail
           all_goals rfl)
        | (show Bi.Pure Tryz.prog b8 [G3 6 n dk dr xo xn xv xm xd dx dy da di, .d din] (O6 (ng true (A5 (a.ki ++ b.ki))) (ng false (B7 (J0 (D1 (N5 pred true b.ki.length (A8 b.rows) (A8 a.rows)))))))
           have hln:(N5 pred true b.ki.length (A8 b.rows) (A8 a.rows)).length<=4294967296:=by
             have e:((J0 (D1 (N5 pred true b.ki.length (A8 b.rows) (A8 a.rows)))).length:Int)<=2000:=A0I hGl m1
             rw[A2g] at e
             omega
           have hJ:=hJ true hln
           rw[A2m,<- A4o] at hJ
           obtain⟨Z,hZ⟩:∃z,z=ng false (B7 (J0 (D1 (N5 pred true b.ki.length (A8 b.rows) (A8 a.rows))))):=⟨_,rfl⟩
           obtain⟨Y,hY⟩:∃z,z=ng true (A5 (a.ki++b.ki)):=⟨_,rfl⟩
           rw[<- hZ,<- hY] at hJ ⊢
           clear hZ hY hkd hrd hkd' hrd' hGl hU hE hN g1 g2 g3 g1' g2' g3' k4 hln
           refine A1i.go A6 rfl ?_
           repeat' first|refine st ?_|((with_reducible apply A4);conv=>whnf)|refine⟨λ_=>?_,λ_=>?_⟩|fail
           all_goals rfl)
        | (show Bi.Pure Tryz.prog b8 [G3 7 n dk dr xo xn xv xm xd dx dy da di, .d din] (O6 (ng a.nk (A5 a.ki)) (ng false (B7 (J0 (D1 (A8 a.rows ++ A8 b.rows))))))
           rw[show ng a.nk (A5 a.ki)=kd from hkd.symm]
           obtain⟨Z,hZ⟩:∃z,z=ng false (B7 (J0 (D1 (A8 a.rows++A8 b.rows)))):=⟨_,rfl⟩
           rw[<- hZ] at hU ⊢
           clear hZ hkd hrd hkd' hrd' hGl hJ hE hN g1 g2 g3 g1' g2' g3' k4
           refine A1i.go A6 rfl ?_
           repeat' first|refine st ?_|((with_reducible apply A4);conv=>whnf)|refine⟨λ_=>?_,λ_=>?_⟩|fail
           all_goals rfl)
        | (show Bi.Pure Tryz.prog b8 [G3 8 n dk dr xo xn xv xm xd dx dy da di, .d din] (O6 (ng a.nk (A5 a.ki)) (ng true (B7 (J0 (I6 X5 (A8 a.rows) (A8 b.rows))))))
           rw[show ng a.nk (A5 a.ki)=kd from hkd.symm]
           obtain⟨Z,hZ⟩:∃z,z=ng true (B7 (J0 (I6 X5 (A8 a.rows) (A8 b.rows)))):=⟨_,rfl⟩
           rw[<- hZ] at hE ⊢
           clear hZ hkd hrd hkd' hrd' hGl hJ hU hN g1 g2 g3 g1' g2' g3' k4
           refine A1i.go A6 rfl ?_
           repeat' first|refine st ?_|((with_reducible apply A4);conv=>whnf)|refine⟨λ_=>?_,λ_=>?_⟩|fail
           all_goals rfl)
        | (show Bi.Pure Tryz.prog b8 [G3 9 n dk dr xo xn xv xm xd dx dy da di, .d din] (O6 (ng a.nk (A5 a.ki)) (ng true (B7 (J0 (I6 V3 (A8 a.rows) (A8 b.rows))))))
           rw[show ng a.nk (A5 a.ki)=kd from hkd.symm]
           obtain⟨Z,hZ⟩:∃z,z=ng true (B7 (J0 (I6 V3 (A8 a.rows) (A8 b.rows)))):=⟨_,rfl⟩
           rw[<- hZ] at hN ⊢
           clear hZ hkd hrd hkd' hrd' hGl hJ hU hE g1 g2 g3 g1' g2' g3' k4
           refine A1i.go A6 rfl ?_
           repeat' first|refine st ?_|((with_reducible apply A4);conv=>whnf)|refine⟨λ_=>?_,λ_=>?_⟩|fail
           all_goals rfl)
  · omega
end Go.Proofs
end
section
namespace Go.Proofs
open Go.Bi
theorem C1b{I:List Bg}{i:Nat}{b:Bg}(h:I[i]?=some b):E7 (D2 (I.take (i+1)))=E7 (D2 (I.take i))++[[b.kd]]:=by
 rw[L8,h];simp[E7,D2]
theorem D5R{I:List Bg}{i:Nat}{b:Bg}(h:I[i]?=some b):A5 (H3 (I.take (i+1)))=A5 (H3 (I.take i))++[[eI (b.rows.length:Nat)]]:=by
 rw[L8,h];simp[A5,H3]
theorem B0h(I:List Bg)(hI:I.length<=4294967296)(din:D)(hin:A9 din (V2 I)):Pure Tryz.prog B7Z [.d din] (.d (.sl (E7 (D2 I)))):=by
 have l1:=A5d I
 have m1:=A6J I
 have g1:=λi b=>@A6I I i b
 obtain⟨es,hes⟩:∃z,z=V2 I:=⟨_,rfl⟩
 rw[<- hes] at hin l1 m1 g1
 clear hes
 refine C6L.go A6 rfl ?_
 repeat' first|refine st ?_|((with_reducible apply A4);conv=>whnf)|refine⟨λ_=>?_,λ_=>?_⟩|fail
 refine K6 A6 D0e C8X (λ(i:Nat)=>[.arr 0 (E7 (D2 (I.take i))).length,.d (eI i)]) (λi=>[.arr (E7 (D2 (I.take i))) 1 0 false]) (λi=>i<=I.length) (λi=>I.length-i) 0 rfl rfl rfl rfl (λ_ _=>⟨rfl,rfl⟩) rfl (by omega) ?_
 repeat' first|refine st ?_|((with_reducible apply A4);conv=>whnf)|refine⟨λ_=>?_,λ_=>?_⟩|fail
 intro i i1
 have hw1:(E7 (D2 (I.take i))).length=i:=by rw[A3u,D8,M4];omega
 have hwm:=A3v (D2 (I.take i))
 have hbd:((E7 (D2 (I.take i))).length+1)*24<=140737488355328:=by omega
 cases hx:I[i]? with
 |some b=>
  have hlt:=(B4.1 hx).1
  have hilt:(i:Int)<es.length:=by omega
  have hg:es[((i:Nat):Int).toNat]?=some [b.kd,b.rd]:=g1 i b hx
  have ht:=C1b hx
  obtain⟨A,hA⟩:∃z,z=E7 (D2 (I.take i)):=⟨_,rfl⟩
  rw[<- hA] at hw1 hwm hbd ht ⊢
  obtain⟨kd,hkd⟩:∃d,d=b.kd:=⟨_,rfl⟩
  obtain⟨rd,hrd⟩:∃d,d=b.rd:=⟨_,rfl⟩
  rw[<- hkd,<- hrd] at hg
  rw[<- hkd] at ht
  clear g1 hx hkd hrd hA
  repeat' first|refine st ?_|((with_reducible apply A4);conv=>whnf)|refine⟨λ_=>?_,λ_=>?_⟩|fail
  exact⟨i+1,by rw[ht];simp,rfl,by rw[ht];simp,by omega,by omega⟩
 |none=>
  have hge:=E9.1 hx
  have hilt:(es.length:Int)<=i:=by omega
  rw[H4 hge] at hw1 hwm hbd ⊢
  obtain⟨A,hA⟩:∃z,z=E7 (D2 I):=⟨_,rfl⟩
  rw[<- hA] at hw1 hwm hbd ⊢
  clear g1 hx hA
  repeat' first|refine st ?_|((with_reducible apply A4);conv=>whnf)|refine⟨λ_=>?_,λ_=>?_⟩|fail
  all_goals rfl
theorem C57(I:List Bg)(hI:I.length<=4294967296)(hIr:∀b∈I,b.rows.length<=4294967296)(din:D)(hin:A9 din (V2 I)):Pure Tryz.prog B80 [.d din] (.d (.sl (A5 (H3 I)))):=by
 have l1:=A5d I
 have m1:=A6J I
 have g1:=λi b=>@A6I I i b
 obtain⟨es,hes⟩:∃z,z=V2 I:=⟨_,rfl⟩
 rw[<- hes] at hin l1 m1 g1
 clear hes
 refine C6N.go A6 rfl ?_
 repeat' first|refine st ?_|((with_reducible apply A4);conv=>whnf)|refine⟨λ_=>?_,λ_=>?_⟩|fail
 refine K6 A6 D0g C8Z (λ(i:Nat)=>[.arr 0 (A5 (H3 (I.take i))).length,.d (eI i)]) (λi=>[.arr (A5 (H3 (I.take i))) 1 0 false]) (λi=>i<=I.length) (λi=>I.length-i) 0 rfl rfl rfl rfl (λ_ _=>⟨rfl,rfl⟩) rfl (by omega) ?_
 repeat' first|refine st ?_|((with_reducible apply A4);conv=>whnf)|refine⟨λ_=>?_,λ_=>?_⟩|fail
 intro i i1
 have hw1:(A5 (H3 (I.take i))).length=i:=by rw[F9,D8,M4];omega
 have hwm:=I1 (H3 (I.take i))
 have hbd:((A5 (H3 (I.take i))).length+1)*8<=140737488355328:=by omega
 cases hx:I[i]? with
 |some b=>
  have hlt:=(B4.1 hx).1
  have hilt:(i:Int)<es.length:=by omega
  have hg:es[((i:Nat):Int).toNat]?=some [b.kd,b.rd]:=g1 i b hx
  have ht:=D5R hx
  have hsr:A9 b.rd (B7 b.rows):=C7
  have hrl:=U8 b.rows
  have hrb:=hIr b (C3 hx)
  rw[<- hrl] at ht
  obtain⟨A,hA⟩:∃z,z=A5 (H3 (I.take i)):=⟨_,rfl⟩
  rw[<- hA] at hw1 hwm hbd ht ⊢
  obtain⟨kd,hkd⟩:∃d,d=b.kd:=⟨_,rfl⟩
  obtain⟨rd,hrd⟩:∃d,d=b.rd:=⟨_,rfl⟩
  rw[<- hkd,<- hrd] at hg
  rw[<- hrd] at hsr
  obtain⟨fs,hfs⟩:∃z,z=B7 b.rows:=⟨_,rfl⟩
  rw[<- hfs] at ht hsr hrl
  clear g1 hx hkd hrd hA hfs
  repeat' first|refine st ?_|((with_reducible apply A4);conv=>whnf)|refine⟨λ_=>?_,λ_=>?_⟩|fail
  exact⟨i+1,by rw[ht];simp,rfl,by rw[ht];simp,by omega,by omega⟩
 |none=>
  have hge:=E9.1 hx
  have hilt:(es.length:Int)<=i:=by omega
  rw[H4 hge] at hw1 hwm hbd ⊢
  obtain⟨A,hA⟩:∃z,z=A5 (H3 I):=⟨_,rfl⟩
  rw[<- hA] at hw1 hwm hbd ⊢
  clear g1 hx hA
  repeat' first|refine st ?_|((with_reducible apply A4);conv=>whnf)|refine⟨λ_=>?_,λ_=>?_⟩|fail
  all_goals rfl
theorem B46{I:List Bg}(hI:I.length<=4294967296)(hIk:∀b∈I,b.ki.length<=4294967296)(hG:InG I)(din:D)(hin:A9 din (V2 I))(p:Pl)(hb:p.bk<=1073741824)(h0:(C4 (D2 I) p).2=0)(hl:N7 (H3 I) p<=2000) :
  Pure Tryz.prog A6a [p.av,.d din] (.tup [(H7 I p).av,.d (eI 0)]):=by
 have hC:=A5W (D2 I) (by rw[D8];exact hI) (λk hk=>by
  obtain⟨b,hb,rfl⟩:=D7.1 hk
  exact hIk b hb) (u7 (E7 (D2 I)).isEmpty .nil (.sl (E7 (D2 I)))) (by rw[show(u7 (E7 (D2 I)).isEmpty .nil (.sl (E7 (D2 I))):D)=ng true (E7 (D2 I)) by cases E7 (D2 I)<;>rfl];exact C7) p hb
 have hE:=C5K hG hI din hin p hb (by unfold C4 at h0;split at h0;cases h0;exact h0) hl
 rw[h0] at hC
 obtain⟨cd,hcd⟩:∃d,d=(C4 (D2 I) p).1.d:=⟨_,rfl⟩
 rw[<- hcd] at hC
 obtain⟨op',n',dk',dr',xo',xn',xv',xm',xd',dx',dy',da',di',c1,c2⟩:=Pl.cut p
 rw[c2] at hC hE ⊢
 obtain⟨b,hbb⟩:∃b,b=H7 I p:=⟨_,rfl⟩
 rw[<- hbb] at hE ⊢
 have hE:Bi.Pure Tryz.prog b8 [G3 op' n' dk' dr' xo' xn' xv' xm' xd' dx' dy' da' di',.d din] (O6 b.kd b.rd):=hE
 show Bi.Pure Tryz.prog A6a [G3 op' n' dk' dr' xo' xn' xv' xm' xd' dx' dy' da' di',.d din] (.tup [O6 b.kd b.rd,.d (eI 0)])
 obtain⟨kd,hkd⟩:∃d,d=b.kd:=⟨_,rfl⟩
 obtain⟨rd,hrd⟩:∃d,d=b.rd:=⟨_,rfl⟩
 rw[<- hkd,<- hrd] at hE ⊢
 have l1:=A5d I
 have m1:=A6J I
 have g1:=λi b=>@A6I I i b
 obtain⟨es,hes⟩:∃z,z=V2 I:=⟨_,rfl⟩
 rw[<- hes] at hin l1 m1 g1
 clear hes hkd hrd hbb hcd c1 c2 h0 hl hG
 refine C7U.go A6 rfl ?_
 repeat' first|refine st ?_|((with_reducible apply A4);conv=>whnf)|refine⟨λ_=>?_,λ_=>?_⟩|fail
 refine U7 6 1 rfl rfl ?_
 refine K6 A6 D0W C9F (λ(i:Nat)=>[.arr 2 (E7 (D2 (I.take i))).length,.d (eI i)]) (λi=>[.cells [.d (eI op'),.d (eI n'),.d dk',.d dr',.d (eI xo'),.d (eI xn'),.d (eI xv'.k),.d (eI xv'.n),.d (.str xv'.s),.d (.str xm'),.d xd',.d dx',.d dy',.d da',.d di'],.cells [.d .nil,.d .nil],.arr (E7 (D2 (I.take i))) 1 0 (E7 (D2 (I.take i))).isEmpty]) (λi=>i<=I.length) (λi=>I.length-i) 0 rfl rfl rfl rfl (λ_ _=>⟨rfl,rfl⟩) rfl (by omega) ?_
 repeat' first|refine st ?_|((with_reducible apply A4);conv=>whnf)|refine⟨λ_=>?_,λ_=>?_⟩|fail
 intro i i1
 have hw1:(E7 (D2 (I.take i))).length=i:=by rw[A3u,D8,M4];omega
 have hwm:=A3v (D2 (I.take i))
 have hbd:((E7 (D2 (I.take i))).length+1)*24<=140737488355328:=by omega
 cases hx:I[i]? with
 |some b=>
  have hlt:=(B4.1 hx).1
  have hilt:(i:Int)<es.length:=by omega
  have hg:es[((i:Nat):Int).toNat]?=some [b.kd,b.rd]:=g1 i b hx
  have ht:=C1b hx
  obtain⟨A,hA⟩:∃z,z=E7 (D2 (I.take i)):=⟨_,rfl⟩
  rw[<- hA] at hw1 hwm hbd ht ⊢
  obtain⟨kd',hkd⟩:∃d,d=b.kd:=⟨_,rfl⟩
  obtain⟨rd',hrd⟩:∃d,d=b.rd:=⟨_,rfl⟩
  rw[<- hkd,<- hrd] at hg
  rw[<- hkd] at ht
  clear g1 hx hkd hrd hA hC hE
  repeat' first|refine st ?_|((with_reducible apply A4);conv=>whnf)|refine⟨λ_=>?_,λ_=>?_⟩|fail
  exact⟨i+1,by rw[ht];simp,rfl,by rw[ht];simp,by omega,by omega⟩
 |none=>
  have hge:=E9.1 hx
  have hilt:(es.length:Int)<=i:=by omega
  rw[H4 hge] at hw1 hwm hbd ⊢
  obtain⟨A,hA⟩:∃z,z=E7 (D2 I):=⟨_,rfl⟩
  rw[<- hA] at hw1 hwm hbd hC ⊢
  clear g1 hx hA
  repeat' first|refine st ?_|((with_reducible apply A4);conv=>whnf)|refine⟨λ_=>?_,λ_=>?_⟩|fail
  all_goals rfl
theorem C56(I:List Bg)(hI:I.length<=1073741824)(hIr:∀b∈I,b.rows.length<=4294967296)(din:D)(hin:A9 din (V2 I)):∀p:Pl,p.bk<=1073741824->Pure Tryz.prog B0Q [p.av,.d din] (.d (eI (N7 (H3 I) p))):=by
 have hR:=C57 I (by omega) hIr din hin
 refine Pl.ind λo ni ins ih hb=>?_
 have hB:=Pl.bd hb
 have hS:=C65 (H3 I) (by rw[D8];exact hI) _ (.inr rfl) (.mk o ni ins) hb
 have hq:N7 (H3 I) (.mk o ni ins)=(ins.map (N7 (H3 I))).foldl max (I3 (H3 I) (.mk o ni ins)):=by rw[N7,A9d]
 obtain⟨q,hqq⟩:∃q,q=N7 (H3 I) (.mk o ni ins):=⟨_,rfl⟩
 rw[<- hqq] at hq ⊢
 clear hqq
 obtain⟨s,hs⟩:∃s,s=I3 (H3 I) (.mk o ni ins):=⟨_,rfl⟩
 rw[<- hs] at hS hq
 clear hs
 obtain⟨xo,xn,xv,xm,xd,hav,_⟩:=Pl.cuto o ni ins
 rw[hav] at hS ⊢
 clear hav
 have hil:=hB.il
 have hsub:=hB.sub
 clear hB hb
 obtain⟨op,n,nk,ki,nr,rows,pred,nx,xs,ny,keys,na,aggs⟩:=o
 have hdi:A9 (ng ni (pL ins)) (pL ins):=C7
 obtain⟨dk,e1⟩:∃d,d=ng nk (A5 ki):=⟨_,rfl⟩
 obtain⟨dr,e2⟩:∃d,d=ng nr (B7 rows):=⟨_,rfl⟩
 obtain⟨dx,e3⟩:∃d,d=ng nx (xL xs):=⟨_,rfl⟩
 obtain⟨dy,e4⟩:∃d,d=ng ny (A5 keys):=⟨_,rfl⟩
 obtain⟨da,e5⟩:∃d,d=ng na (I0 aggs):=⟨_,rfl⟩
 obtain⟨di,e6⟩:∃d,d=ng ni (pL ins):=⟨_,rfl⟩
 have hS:Bi.Pure Tryz.prog A4O [G3 op n (ng nk (A5 ki)) (ng nr (B7 rows)) xo xn xv xm xd (ng nx (xL xs)) (ng ny (A5 keys)) (ng na (I0 aggs)) (ng ni (pL ins)),.d (.sl (A5 (H3 I)))] (.d (eI s)):=hS
 show Bi.Pure Tryz.prog B0Q [G3 op n (ng nk (A5 ki)) (ng nr (B7 rows)) xo xn xv xm xd (ng nx (xL xs)) (ng ny (A5 keys)) (ng na (I0 aggs)) (ng ni (pL ins)),.d din] _
 rw[<- e1,<- e2,<- e3,<- e4,<- e5,<- e6] at hS
 rw[<- e1,<- e2,<- e3,<- e4,<- e5,<- e6]
 rw[<- e6] at hdi
 clear e1 e2 e3 e4 e5 e6
 have l1:=b5 ins
 have m1:=e9 ins
 have g1:=λi p=>@j6 ins i p
 obtain⟨es,hes⟩:∃z,z=pL ins:=⟨_,rfl⟩
 rw[<- hes] at hdi l1 m1 g1
 clear hes
 obtain⟨rr,hrr⟩:∃z,z=A5 (H3 I):=⟨_,rfl⟩
 rw[<- hrr] at hS hR
 clear hrr
 obtain⟨f,hf⟩:∃f,f=N7 (H3 I):=⟨_,rfl⟩
 rw[<- hf] at hq ih
 clear hf
 refine C6M.go A6 rfl ?_
 repeat' first|refine st ?_|((with_reducible apply A4);conv=>whnf)|refine⟨λ_=>?_,λ_=>?_⟩|fail
 refine L6 A6 D0f C8Y (λ(i:Nat) (t:Int)=>[.d (eI t),.d (eI i)]) (λi t=>[.cells [.d (eI op),.d (eI n),.d dk,.d dr,.d (eI xo),.d (eI xn),.d (eI xv.k),.d (eI xv.n),.d (.str xv.s),.d (.str xm),.d xd,.d dx,.d dy,.d da,.d di]]) (λi t=>i<=ins.length/\t=((ins.take i).map f).foldl max s) (λi t=>ins.length-i) 0 s rfl rfl rfl rfl (λ_ _ _=>⟨rfl,rfl⟩) rfl ⟨by omega,rfl⟩ ?_
 repeat' first|refine st ?_|((with_reducible apply A4);conv=>whnf)|refine⟨λ_=>?_,λ_=>?_⟩|fail
 intro i t ⟨i1,i2⟩
 cases hi:ins[i]? with
 |some p=>
  have hlt:=(B4.1 hi).1
  have hil3:(i:Int)<es.length:=by omega
  have hg:=g1 i p hi
  have hC:=ih p (C3 hi) (hsub p (C3 hi))
  have htk:((ins.take (i+1)).map f).foldl max s=max t (f p):=by rw[L8,hi,A44,A64,<- i2];rfl
  obtain⟨op',n',dk',dr',xo',xn',xv',xm',xd',dx',dy',da',di',c1,c2⟩:=Pl.cut p
  have hg:es[((i:Nat):Int).toNat]?=some (K1 op' n' dk' dr' xo' xn' xv' xm' xd' dx' dy' da' di'):=by rw[<- c1];exact hg
  rw[c2] at hC
  obtain⟨v,hv⟩:∃v,v=f p:=⟨_,rfl⟩
  rw[<- hv] at hC htk
  clear c1 c2 hi g1 ih hS hR i2 hv
  repeat' first|refine st ?_|((with_reducible apply A4);conv=>whnf)|refine⟨λ_=>?_,λ_=>?_⟩|fail
  exact⟨i+1,max t v,rfl,rfl,rfl,by omega,by omega,htk.symm⟩
 |none=>
  have hge:=E9.1 hi
  have hil3:(es.length:Int)<=i:=by omega
  rw[H4 hge,<- hq] at i2
  subst i2
  clear hi g1 ih hS hR
  repeat' first|refine st ?_|((with_reducible apply A4);conv=>whnf)|refine⟨λ_=>?_,λ_=>?_⟩|fail
  all_goals rfl
end Go.Proofs
end
section
namespace Go.Proofs
open Go.Bi
def kd3(k:Int):Bool:=decide (1<=k/\k<=3)
def vlB(b:Bg):Bool:=decide (b.rows.length<=20/\0<b.ki.length/\b.ki.length<=48)&&b.ki.all kd3&&b.rows.all λr=>Q1 r.vs b.ki
theorem E01{I:List Bg}(h:I.all vlB=true):InG I:=by
 have h:=L7.1 h
 refine⟨λb hb=>?_,λb hb=>?_⟩
 ·have:=h b hb
  unfold vlB at this
  rw[K7,K7] at this
  have:=of_decide_eq_true this.1.1
  omega
 ·have:=h b hb
  unfold vlB at this
  rw[K7,K7] at this
  exact⟨(of_decide_eq_true this.1.1).1,L7.1 this.2⟩
theorem C59(I:List Bg)(hI:I.length<=4294967296)(hb:∀b∈I,b.ki.length<=1073741824/\b.rows.length<=1073741824/\∀r∈b.rows,r.vs.length<=1073741824/\∀v∈r.vs,v.s.length<=1073741824)(din:D)(hin:A9 din (V2 I)) :
  Pure Tryz.prog B82 [.d din] (.d (.bool (I.all vlB))):=by
 have l1:=A5d I
 have m1:=A6J I
 have g1:=λi b=>@A6I I i b
 obtain⟨es,hes⟩:∃z,z=V2 I:=⟨_,rfl⟩
 rw[<- hes] at hin l1 m1 g1
 clear hes
 obtain⟨q,hq⟩:∃q,q=I.all vlB:=⟨_,rfl⟩
 rw[<- hq]
 refine C6O.go A6 rfl ?_
 repeat' first|refine st ?_|((with_reducible apply A4);conv=>whnf)|refine⟨λ_=>?_,λ_=>?_⟩|fail
 refine K6 A6 D0j C92 (λ(i:Nat)=>[.d (eI i)]) (λi=>[]) (λi=>i<=I.length/\(I.take i).all vlB=true) (λi=>I.length-i) 0 rfl rfl rfl rfl (λ_ _=>⟨rfl,rfl⟩) rfl ⟨by omega,rfl⟩ ?_
 repeat' first|refine st ?_|((with_reducible apply A4);conv=>whnf)|refine⟨λ_=>?_,λ_=>?_⟩|fail
 intro i ⟨h4,h5⟩
 cases hx:I[i]? with
 |none=>
  have hge:=E9.1 hx
  have hilt:(es.length:Int)<=i:=by omega
  rw[H4 hge] at h5
  rw[h5] at hq
  subst hq
  clear g1 hx
  repeat' first|refine st ?_|((with_reducible apply A4);conv=>whnf)|refine⟨λ_=>?_,λ_=>?_⟩|fail
  all_goals rfl
 |some b=>
  have hlt:=(B4.1 hx).1
  have hilt:(i:Int)<es.length:=by omega
  have hg:es[((i:Nat):Int).toNat]?=some [b.kd,b.rd]:=g1 i b hx
  obtain⟨hb1,hb2,hb3⟩:=hb b (C3 hx)
  have hs:=A2I (p:=vlB) hx
  rw[h5,Q4] at hs
  have hsk:A9 b.kd (A5 b.ki):=C7
  have hsr:A9 b.rd (B7 b.rows):=C7
  have kl:=F9 b.ki
  have rl:=U8 b.rows
  have hf:vlB b=false->q=false:=λh=>hq.trans (A1p (p:=vlB) hx h)
  have hF:=λ(r:Rw) (h:r∈b.rows)=>B4i r.vs b.ki (hb3 r h).1 hb1 (hb3 r h).2 r.d C7 b.kd hsk
  have km:=I1 b.ki
  have rm:=X2 b.rows
  have kg:=λi k=>@N2 b.ki i k
  have rg:=λi r=>@A0W b.rows i r
  have hd:vlB b=(decide (b.rows.length<=20/\0<b.ki.length/\b.ki.length<=48)&&b.ki.all kd3&&b.rows.all λr=>Q1 r.vs b.ki):=rfl
  obtain⟨v,hv⟩:∃v,v=vlB b:=⟨_,rfl⟩
  rw[<- hv] at hd hs hf
  obtain⟨ki,rows⟩:∃x:List Int×List Rw,x=(b.ki,b.rows):=⟨_,rfl⟩
  obtain⟨kd,hkd⟩:∃d,d=b.kd:=⟨_,rfl⟩
  obtain⟨rd,hrd⟩:∃d,d=b.rd:=⟨_,rfl⟩
  rw[<- hkd,<- hrd] at hg
  rw[<- hkd] at hsk hF
  rw[<- hrd] at hsr
  obtain⟨ks,hks⟩:∃z,z=b.ki:=⟨_,rfl⟩
  obtain⟨rs,hrs⟩:∃z,z=b.rows:=⟨_,rfl⟩
  rw[<- hks,<- hrs] at hd
  rw[<- hks] at hsk kl kg hb1 hF km
  rw[<- hrs] at hsr rl rg hb2 hb3 hF rm
  obtain⟨ek,hek⟩:∃z,z=A5 ks:=⟨_,rfl⟩
  rw[<- hek] at hsk kl kg km
  obtain⟨er,her⟩:∃z,z=B7 rs:=⟨_,rfl⟩
  rw[<- her] at hsr rl rg rm
  clear hek her hks hrs hkd hrd hv hb g1 hx hq h5 ki rows
  by_cases c1:(20:Int)<er.length
  ·rw[decide_eq_false (by omega)] at hd
   have hf:=hf hd
   subst hf
   clear kg rg hF hd hs
   repeat' first|refine st ?_|((with_reducible apply A4);conv=>whnf)|refine⟨λ_=>?_,λ_=>?_⟩|fail
   all_goals first|rfl|(exfalso;omega)
  by_cases c2:(ek.length:Int)=0
  ·rw[decide_eq_false (by omega)] at hd
   have hf:=hf hd
   subst hf
   clear kg rg hF hd hs
   repeat' first|refine st ?_|((with_reducible apply A4);conv=>whnf)|refine⟨λ_=>?_,λ_=>?_⟩|fail
   all_goals first|rfl|(exfalso;omega)
  by_cases c3:(48:Int)<ek.length
  ·rw[decide_eq_false (by omega)] at hd
   have hf:=hf hd
   subst hf
   clear kg rg hF hd hs
   repeat' first|refine st ?_|((with_reducible apply A4);conv=>whnf)|refine⟨λ_=>?_,λ_=>?_⟩|fail
   all_goals first|rfl|(exfalso;omega)
  rw[decide_eq_true (by omega),Q4] at hd
  repeat' first|refine st ?_|((with_reducible apply A4);conv=>whnf)|refine⟨λ_=>?_,λ_=>?_⟩|fail
  refine K6 A6 D0h C90 (λ(k:Nat)=>[.d (eI k)]) (λk=>[]) (λk=>k<=ks.length/\(ks.take k).all kd3=true) (λk=>ks.length-k) 0 rfl rfl rfl rfl (λ_ _=>⟨rfl,rfl⟩) rfl ⟨by omega,rfl⟩ ?_
  repeat' first|refine st ?_|((with_reducible apply A4);conv=>whnf)|refine⟨λ_=>?_,λ_=>?_⟩|fail
  intro k ⟨k1,k2⟩
  cases hy:ks[k]? with
  |some kk=>
   have hlt2:=(B4.1 hy).1
   have hklt:(k:Int)<ek.length:=by omega
   have hgk:ek[((k:Nat):Int).toNat]?=some [eI kk]:=kg k kk hy
   have hs2:=A2I (p:=kd3) hy
   rw[k2,Q4] at hs2
   by_cases d1:1<=kk/\kk<=3
   ·have hs2:=hs2.trans (decide_eq_true d1)
    obtain⟨d2,d3⟩:=d1
    clear kg rg hF hd hs hf hy
    repeat' first|refine st ?_|((with_reducible apply A4);conv=>whnf)|refine⟨λ_=>?_,λ_=>?_⟩|fail
    all_goals exact⟨k+1,rfl,rfl,rfl,by omega,by omega,hs2⟩
   ·have hn:ks.all kd3=false:=A1p (p:=kd3) hy (decide_eq_false d1)
    rw[hn] at hd
    have hf:=hf hd
    subst hf
    clear kg rg hF hd hs hs2 hy hn
    by_cases d2:kk<1
    ·repeat' first|refine st ?_|((with_reducible apply A4);conv=>whnf)|refine⟨λ_=>?_,λ_=>?_⟩|fail
     all_goals first|rfl|(exfalso;omega)
    ·have d3:3<kk:=by omega
     repeat' first|refine st ?_|((with_reducible apply A4);conv=>whnf)|refine⟨λ_=>?_,λ_=>?_⟩|fail
     all_goals first|rfl|(exfalso;omega)
  |none=>
   have hge:=E9.1 hy
   have hklt:(ek.length:Int)<=k:=by omega
   rw[H4 hge] at k2
   rw[k2,Q4] at hd
   clear kg hy
   repeat' first|refine st ?_|((with_reducible apply A4);conv=>whnf)|refine⟨λ_=>?_,λ_=>?_⟩|fail
   refine K6 A6 D0i C91 (λ(k:Nat)=>[.d (eI k)]) (λk=>[]) (λk=>k<=rs.length/\(rs.take k).all (λr=>Q1 r.vs ks)=true) (λk=>rs.length-k) 0 rfl rfl rfl rfl (λ_ _=>⟨rfl,rfl⟩) rfl ⟨by omega,rfl⟩ ?_
   repeat' first|refine st ?_|((with_reducible apply A4);conv=>whnf)|refine⟨λ_=>?_,λ_=>?_⟩|fail
   intro j ⟨j1,j2⟩
   cases hz:rs[j]? with
   |some r=>
    have hlt3:=(B4.1 hz).1
    have hjlt:(j:Int)<er.length:=by omega
    have hgr:er[((j:Nat):Int).toNat]?=some [r.d]:=rg j r hz
    have hV:=hF r (C3 hz)
    have hs3:=A2I (p:=λr:Rw=>Q1 r.vs ks) hz
    rw[j2,Q4] at hs3
    cases hw:Q1 r.vs ks with
    |false=>
     have hn:=A1p (p:=λr:Rw=>Q1 r.vs ks) hz hw
     rw[hn] at hd
     have hf:=hf hd
     subst hf
     rw[hw] at hV
     obtain⟨rd',hrd'⟩:∃d,d=r.d:=⟨_,rfl⟩
     rw[<- hrd'] at hV hgr
     clear rg hF hd hs hs3 hz hn hrd'
     repeat' first|refine st ?_|((with_reducible apply A4);conv=>whnf)|refine⟨λ_=>?_,λ_=>?_⟩|fail
     all_goals rfl
    |true=>
     have hs3:=hs3.trans hw
     rw[hw] at hV
     obtain⟨rd',hrd'⟩:∃d,d=r.d:=⟨_,rfl⟩
     rw[<- hrd'] at hV hgr
     clear rg hF hd hs hf hz hrd'
     repeat' first|refine st ?_|((with_reducible apply A4);conv=>whnf)|refine⟨λ_=>?_,λ_=>?_⟩|fail
     all_goals exact⟨j+1,rfl,rfl,rfl,by omega,by omega,hs3⟩
   |none=>
    have hge:=E9.1 hz
    have hjlt:(er.length:Int)<=j:=by omega
    rw[H4 hge] at j2
    have hs:=hs.trans (hd.trans j2)
    clear rg hF hd hf hz
    repeat' first|refine st ?_|((with_reducible apply A4);conv=>whnf)|refine⟨λ_=>?_,λ_=>?_⟩|fail
    all_goals exact⟨i+1,rfl,rfl,rfl,by omega,by omega,hs⟩
def rnB(I:List Bg)(p:Pl):Bool:=decide ((C4 (D2 I) p).2=0)&&I.all vlB&&decide (N7 (H3 I) p<=2000)
theorem C58(I:List Bg)(hI:I.length<=1073741824)(hb:∀b∈I,b.ki.length<=1073741824/\b.rows.length<=1073741824/\∀r∈b.rows,r.vs.length<=1073741824/\∀v∈r.vs,v.s.length<=1073741824)(din:D)(hin:A9 din (V2 I))(p:Pl)(hp:p.bk<=1073741824) :
  Pure Tryz.prog B81 [p.av,.d din] (.d (.bool (rnB I p))):=by
 have hK:=B0h I (by omega) din hin
 have hC:=A5W (D2 I) (by rw[D8];omega) (λk hk=>by
  obtain⟨b,hbb,rfl⟩:=D7.1 hk
  have:=(hb b hbb).1
  show b.ki.length<=4294967296
  omega) (.sl (E7 (D2 I))) (.inr rfl) p hp
 have hV:=C59 I (by omega) hb din hin
 have hL:=C56 I hI (λb h=>by have:=(hb b h).2.1;omega) din hin p hp
 obtain⟨q,hq⟩:∃q,q=rnB I p:=⟨_,rfl⟩
 rw[<- hq]
 unfold rnB at hq
 obtain⟨op',n',dk',dr',xo',xn',xv',xm',xd',dx',dy',da',di',c1,c2⟩:=Pl.cut p
 rw[c2] at hC hL ⊢
 obtain⟨cd,hcd⟩:∃d,d=(C4 (D2 I) p).1.d:=⟨_,rfl⟩
 rw[<- hcd] at hC
 obtain⟨er,her⟩:∃d,d=(C4 (D2 I) p).2:=⟨_,rfl⟩
 rw[<- her] at hC hq
 obtain⟨vb,hvb⟩:∃d,d=I.all vlB:=⟨_,rfl⟩
 rw[<- hvb] at hV hq
 obtain⟨lg,hlg⟩:∃d,d=N7 (H3 I) p:=⟨_,rfl⟩
 rw[<- hlg] at hL hq
 obtain⟨kk,hkk⟩:∃z,z=E7 (D2 I):=⟨_,rfl⟩
 rw[<- hkk] at hK hC
 clear hcd her hvb hlg hkk c1 c2
 by_cases h1:er=0
 rotate_left
 ·rw[decide_eq_false h1] at hq
  subst hq
  refine B0r.go A6 rfl ?_
  repeat' first|refine st ?_|((with_reducible apply A4);conv=>whnf)|refine⟨λ_=>?_,λ_=>?_⟩|fail
  all_goals first|rfl|simp_all
 subst h1
 cases vb with
 |false=>
  have hq:q=false:=hq
  subst hq
  refine B0r.go A6 rfl ?_
  repeat' first|refine st ?_|((with_reducible apply A4);conv=>whnf)|refine⟨λ_=>?_,λ_=>?_⟩|fail
  all_goals first|rfl|simp_all
 |true=>
  have hq:q=decide (lg<=2000):=by rw[hq];simp
  subst hq
  refine B0r.go A6 rfl ?_
  repeat' first|refine st ?_|((with_reducible apply A4);conv=>whnf)|refine⟨λ_=>?_,λ_=>?_⟩|fail
  all_goals first|rfl|simp_all
end Go.Proofs
end
section
namespace Go.Proofs
open Go.Bi
theorem C6B(row:List Vl)(ks:List Int)(hr:row.length<=1073741824)(hk:ks.length<=1073741825)(hrs:∀v∈row,v.s.length<=1073741824)(dr:D)(hdr:A9 dr (B6 row))(dk:D)(hdk:A9 dk (A5 ks)):Pure Tryz.prog B9A [.d dr,.d dk] (.d (.bool (Q1 row ks))):=by
 refine C8B.go A6 rfl ?_
 have h1:=X3 row
 have hm:=T7 row
 have h2:=F9 ks
 have hm2:=I1 ks
 obtain⟨q,hq⟩:∃q,q=Q1 row ks:=⟨_,rfl⟩
 rw[<- hq]
 by_cases hl:row.length=ks.length
 rotate_left
 ·have:q=false:=by rw[hq,Q1,decide_eq_false hl];rfl
  rw[this]
  repeat' first|refine st ?_|((with_reducible apply A4);conv=>whnf)|refine⟨λ_=>?_,λ_=>?_⟩|fail
  all_goals first|rfl|(exfalso;omega)
 unfold Q1 at hq
 rw[decide_eq_true hl,Q4] at hq
 have hl2:(B6 row).length=(A5 ks).length:=by omega
 repeat' first|refine st ?_|((with_reducible apply A4);conv=>whnf)|refine⟨λ_=>?_,λ_=>?_⟩|fail
 refine K6 A6 D1s D0b (λ(i:Nat)=>[.d (eI i)]) (λi=>[]) (λi=>i<=row.length/\((row.zip ks).take i).all (λp=>T8 p.1 p.2)=true) (λi=>row.length-i) 0 rfl rfl rfl rfl (λ_ _=>⟨rfl,rfl⟩) rfl ⟨by omega,rfl⟩ ?_
 repeat' first|refine st ?_|((with_reducible apply A4);conv=>whnf)|refine⟨λ_=>?_,λ_=>?_⟩|fail
 intro i ⟨h4,h5⟩
 cases hx:row[i]? with
 |some v=>
  have hlt:=(B4.1 hx).1
  obtain⟨k,hkx⟩:∃k,ks[i]?=some k:=⟨_,F4 (by omega)⟩
  have hz:(row.zip ks)[i]?=some (v,k):=B0H.2 ⟨hx,hkx⟩
  have hg:=A1A hx
  have hg2:=N2 hkx
  have hV:=B0p v (K4 (hrs v (C3 hx)) (by omega))
  have hs:=A2I (p:=λp=>T8 p.1 p.2) hz
  rw[h5,Q4] at hs
  dsimp only at hs
  cases hv:O5 v with
  |false=>
   rw[hv] at hV
   have hb:T8 v k=false:=by rw[T8,hv];rfl
   have hf:=A1p (p:=λp=>T8 p.1 p.2) hz hb
   rw[hf] at hq
   repeat' first|refine st ?_|((with_reducible apply A4);conv=>whnf)|refine⟨λ_=>?_,λ_=>?_⟩|fail
   all_goals (rw[hq])
  |true=>
   rw[hv] at hV
   by_cases hk0:v.k=0
   ·have hb:T8 v k=true:=by rw[T8,hv,decide_eq_true hk0];rfl
    repeat' first|refine st ?_|((with_reducible apply A4);conv=>whnf)|refine⟨λ_=>?_,λ_=>?_⟩|fail
    all_goals exact⟨i+1,rfl,rfl,rfl,by omega,by omega,hs.trans hb⟩
   ·by_cases hkk:v.k=k
    ·have hb:T8 v k=true:=by rw[T8,hv,decide_eq_true hkk];simp
     repeat' first|refine st ?_|((with_reducible apply A4);conv=>whnf)|refine⟨λ_=>?_,λ_=>?_⟩|fail
     all_goals exact⟨i+1,rfl,rfl,rfl,by omega,by omega,hs.trans hb⟩
    ·have hb:T8 v k=false:=by rw[T8,hv,decide_eq_false hkk,decide_eq_false hk0];rfl
     have hf:=A1p (p:=λp=>T8 p.1 p.2) hz hb
     rw[hf] at hq
     repeat' first|refine st ?_|((with_reducible apply A4);conv=>whnf)|refine⟨λ_=>?_,λ_=>?_⟩|fail
     all_goals (rw[hq])
 |none=>
  have hge:=E9.1 hx
  rw[H4 (by rw[A65];omega)] at h5
  rw[h5] at hq
  repeat' first|refine st ?_|((with_reducible apply A4);conv=>whnf)|refine⟨λ_=>?_,λ_=>?_⟩|fail
  all_goals (rw[hq])
theorem D7j:kd3=Y9:=by
 funext k
 unfold kd3 Y9
 rw[decide_eq_decide]
 omega
theorem B4k(ks:List Int)(hks:ks.length<=4294967296)(dk:D)(hdk:A9 dk (A5 ks)):Pure Tryz.prog B9u [.d dk] (.d (.bool (ks.all Y9))):=by
 rw[<- D7j]
 have h1:=F9 ks
 have hm:=I1 ks
 have hg0:=λi k=>@N2 ks i k
 obtain⟨q,hq⟩:∃q,q=ks.all kd3:=⟨_,rfl⟩
 rw[<- hq]
 obtain⟨es,hes⟩:∃z,z=A5 ks:=⟨_,rfl⟩
 rw[<- hes] at hdk h1 hm hg0
 clear hes
 refine C8x.go A6 rfl ?_
 repeat' first|refine st ?_|((with_reducible apply A4);conv=>whnf)|refine⟨λ_=>?_,λ_=>?_⟩|fail
 refine K6 A6 D1l D04 (λ(i:Nat)=>[.d (eI i)]) (λi=>[]) (λi=>i<=ks.length/\(ks.take i).all kd3=true) (λi=>ks.length-i) 0 rfl rfl rfl rfl (λ_ _=>⟨rfl,rfl⟩) rfl ⟨by omega,rfl⟩ ?_
 repeat' first|refine st ?_|((with_reducible apply A4);conv=>whnf)|refine⟨λ_=>?_,λ_=>?_⟩|fail
 intro i ⟨h4,h5⟩
 cases hx:ks[i]? with
 |some k=>
  have hlt:=(B4.1 hx).1
  have hilt:(i:Int)<es.length:=by omega
  have hg:es[((i:Nat):Int).toNat]?=some [eI k]:=hg0 i k hx
  have hs:=A2I (p:=kd3) hx
  rw[h5,Q4] at hs
  by_cases d1:1<=k/\k<=3
  ·have hs:=hs.trans (decide_eq_true d1)
   obtain⟨d2,d3⟩:=d1
   clear hg0 hx hq
   repeat' first|refine st ?_|((with_reducible apply A4);conv=>whnf)|refine⟨λ_=>?_,λ_=>?_⟩|fail
   all_goals exact⟨i+1,rfl,rfl,rfl,by omega,by omega,hs⟩
  ·have hf:ks.all kd3=false:=A1p (p:=kd3) hx (decide_eq_false d1)
   rw[hf] at hq
   subst hq
   clear hg0 hx hs
   by_cases d2:k<1
   ·repeat' first|refine st ?_|((with_reducible apply A4);conv=>whnf)|refine⟨λ_=>?_,λ_=>?_⟩|fail
    all_goals first|rfl|(exfalso;omega)
   ·have d3:3<k:=by omega
    repeat' first|refine st ?_|((with_reducible apply A4);conv=>whnf)|refine⟨λ_=>?_,λ_=>?_⟩|fail
    all_goals first|rfl|(exfalso;omega)
 |none=>
  have hge:=E9.1 hx
  have hilt:(es.length:Int)<=i:=by omega
  rw[H4 (by omega)] at h5
  rw[h5] at hq
  subst hq
  clear hg0 hx
  repeat' first|refine st ?_|((with_reducible apply A4);conv=>whnf)|refine⟨λ_=>?_,λ_=>?_⟩|fail
  all_goals rfl
theorem C6w(op:Int):Pure Tryz.prog B1i [.d (eI op)] (.d (eI (J9 op))):=by
 obtain⟨q,hq⟩:∃q,q=J9 op:=⟨_,rfl⟩
 have h:=A5q op
 rw[<- hq] at h ⊢
 clear hq
 rcases h with ⟨rfl,rfl⟩|⟨rfl,rfl⟩|⟨rfl,rfl⟩|⟨rfl,rfl⟩|⟨rfl,rfl⟩|⟨rfl,rfl⟩|⟨rfl,rfl⟩|⟨rfl,rfl⟩|⟨rfl,rfl⟩|⟨rfl,rfl⟩|⟨rfl,rfl⟩|⟨⟨o1,o2,o3,o4,o5,o6,o7,o8,o9,o10,o11⟩,rfl⟩
 all_goals refine C8z.go A6 rfl ?_
 all_goals repeat' first|refine st ?_|((with_reducible apply A4);conv=>whnf)|refine⟨λ_=>?_,λ_=>?_⟩|fail
 all_goals first|rfl|(exfalso;omega)
theorem C6y(ks:List Int)(hks:ks.length<=1073741824)(dk:D)(hdk:A9 dk (A5 ks))(e:Ex)(he:e.bk<=1073741824):Pure Tryz.prog B9x [e.av,.d dk] (.d (eI (O4 ks e))):=by
 have hC:Bi.Pure Tryz.prog A8l [e.av,.d dk] (.tup [.d (eI (S9 ks e).1),.d (eI (S9 ks e).2)]):=B3G ks hks dk hdk e he
 obtain⟨q,hq⟩:∃q,q=O4 ks e:=⟨_,rfl⟩
 rw[<- hq]
 unfold O4 at hq
 obtain⟨⟨k,er⟩,hk⟩:∃z,z=S9 ks e:=⟨_,rfl⟩
 rw[<- hk] at hC hq
 dsimp only at hC hq
 clear hk
 obtain⟨xo,xn,xv,xm,xl,xa⟩:=e
 rw[Ex.av_mk] at hC ⊢
 obtain⟨xd,hxd⟩:∃d,d=ng xl (xL xa):=⟨_,rfl⟩
 rw[<- hxd] at hC ⊢
 clear hxd he
 by_cases h1:er=0
 ·rw[if_pos h1] at hq
  subst h1
  by_cases h2:k=3\/k=0
  ·rw[if_pos h2] at hq
   subst hq
   rcases h2 with rfl|rfl<;>refine B0D.go A6 rfl ?_
   all_goals repeat' first|refine st ?_|((with_reducible apply A4);conv=>whnf)|refine⟨λ_=>?_,λ_=>?_⟩|fail
   all_goals rfl
  ·rw[if_neg h2] at hq
   subst hq
   have h3:k≠3:=λh=>h2 (.inl h)
   have h4:k≠0:=λh=>h2 (.inr h)
   refine B0D.go A6 rfl ?_
   repeat' first|refine st ?_|((with_reducible apply A4);conv=>whnf)|refine⟨λ_=>?_,λ_=>?_⟩|fail
   all_goals first|rfl|(exfalso;omega)
 ·rw[if_neg h1] at hq
  subst hq
  refine B0D.go A6 rfl ?_
  repeat' first|refine st ?_|((with_reducible apply A4);conv=>whnf)|refine⟨λ_=>?_,λ_=>?_⟩|fail
  all_goals first|rfl|(exfalso;omega)
theorem B4j(a b:List Int)(ha:a.length<=4294967296)(hb:b.length<=4294967296)(da db:D)(hda:A9 da (A5 a))(hdb:A9 db (A5 b)):Pure Tryz.prog B9s [.d da,.d db] (.d (.bool (decide (a=b)))):=by
 have l1:=F9 a
 have m1:=I1 a
 have g1:=λi k=>@N2 a i k
 have l2:=F9 b
 have m2:=I1 b
 have g2:=λi k=>@N2 b i k
 obtain⟨q,hq⟩:∃q,q=decide (a=b):=⟨_,rfl⟩
 rw[<- hq]
 obtain⟨es,hes⟩:∃z,z=A5 a:=⟨_,rfl⟩
 rw[<- hes] at hda l1 m1 g1
 obtain⟨fs,hfs⟩:∃z,z=A5 b:=⟨_,rfl⟩
 rw[<- hfs] at hdb l2 m2 g2
 clear hes hfs
 by_cases hl:a.length=b.length
 rotate_left
 ·have h0:¬(es.length:Int)=fs.length:=by omega
  rw[decide_eq_false λh=>hl (by rw[h])] at hq
  subst hq
  clear g1 g2
  refine B4H.go A6 rfl ?_
  repeat' first|refine st ?_|((with_reducible apply A4);conv=>whnf)|refine⟨λ_=>?_,λ_=>?_⟩|fail
  all_goals first|rfl|(exfalso;omega)
 have h0:(es.length:Int)=fs.length:=by omega
 refine B4H.go A6 rfl ?_
 repeat' first|refine st ?_|((with_reducible apply A4);conv=>whnf)|refine⟨λ_=>?_,λ_=>?_⟩|fail
 refine K6 A6 D1j D02 (λ(i:Nat)=>[.d (eI i)]) (λi=>[]) (λi=>i<=a.length/\a.take i=b.take i) (λi=>a.length-i) 0 rfl rfl rfl rfl (λ_ _=>⟨rfl,rfl⟩) rfl ⟨by omega,rfl⟩ ?_
 repeat' first|refine st ?_|((with_reducible apply A4);conv=>whnf)|refine⟨λ_=>?_,λ_=>?_⟩|fail
 intro i ⟨h4,h5⟩
 cases hx:a[i]? with
 |some k=>
  have hlt:=(B4.1 hx).1
  obtain⟨k2,hx2⟩:∃k,b[i]?=some k:=⟨_,F4 (by omega)⟩
  have hilt:(i:Int)<es.length:=by omega
  have hilt2:(i:Int)<fs.length:=by omega
  have hg:es[((i:Nat):Int).toNat]?=some [eI k]:=g1 i k hx
  have hg2:fs[((i:Nat):Int).toNat]?=some [eI k2]:=g2 i k2 hx2
  by_cases hk:k=k2
  ·have ht:a.take (i+1)=b.take (i+1):=by rw[L8,L8,hx,hx2,h5,hk]
   subst hk
   clear g1 g2 hx hx2 hq
   repeat' first|refine st ?_|((with_reducible apply A4);conv=>whnf)|refine⟨λ_=>?_,λ_=>?_⟩|fail
   exact⟨i+1,rfl,rfl,rfl,by omega,by omega,ht⟩
  ·rw[decide_eq_false λh=>hk (by rw[h,hx2] at hx;cases hx;rfl)] at hq
   subst hq
   clear g1 g2 hx hx2
   repeat' first|refine st ?_|((with_reducible apply A4);conv=>whnf)|refine⟨λ_=>?_,λ_=>?_⟩|fail
   all_goals first|rfl|(exfalso;omega)
 |none=>
  have hge:=E9.1 hx
  have hilt:(es.length:Int)<=i:=by omega
  rw[H4 hge,H4 (by omega)] at h5
  rw[decide_eq_true h5] at hq
  subst hq
  clear g1 g2 hx
  repeat' first|refine st ?_|((with_reducible apply A4);conv=>whnf)|refine⟨λ_=>?_,λ_=>?_⟩|fail
  all_goals rfl
def eqE(a b:List Int):Int:=if a.length=b.length then (if a=b then 0 else 7) else 13
theorem C6u(a b:List Int)(ha:a.length<=4294967296)(hb:b.length<=4294967296)(da db:D)(hda:A9 da (A5 a))(hdb:A9 db (A5 b)):Pure Tryz.prog B9v [.d da,.d db] (.d (eI (eqE a b))):=by
 have l1:=F9 a
 have m1:=I1 a
 have g1:=λi k=>@N2 a i k
 have l2:=F9 b
 have m2:=I1 b
 have g2:=λi k=>@N2 b i k
 obtain⟨q,hq⟩:∃q,q=eqE a b:=⟨_,rfl⟩
 rw[<- hq]
 obtain⟨es,hes⟩:∃z,z=A5 a:=⟨_,rfl⟩
 rw[<- hes] at hda l1 m1 g1
 obtain⟨fs,hfs⟩:∃z,z=A5 b:=⟨_,rfl⟩
 rw[<- hfs] at hdb l2 m2 g2
 clear hes hfs
 by_cases hl:a.length=b.length
 rotate_left
 ·have h0:¬(es.length:Int)=fs.length:=by omega
  unfold eqE at hq;rw[if_neg hl] at hq
  subst hq
  clear g1 g2
  refine B4J.go A6 rfl ?_
  repeat' first|refine st ?_|((with_reducible apply A4);conv=>whnf)|refine⟨λ_=>?_,λ_=>?_⟩|fail
  all_goals first|rfl|(exfalso;omega)
 have h0:(es.length:Int)=fs.length:=by omega
 refine B4J.go A6 rfl ?_
 repeat' first|refine st ?_|((with_reducible apply A4);conv=>whnf)|refine⟨λ_=>?_,λ_=>?_⟩|fail
 refine K6 A6 D1n D06 (λ(i:Nat)=>[.d (eI i)]) (λi=>[]) (λi=>i<=a.length/\a.take i=b.take i) (λi=>a.length-i) 0 rfl rfl rfl rfl (λ_ _=>⟨rfl,rfl⟩) rfl ⟨by omega,rfl⟩ ?_
 repeat' first|refine st ?_|((with_reducible apply A4);conv=>whnf)|refine⟨λ_=>?_,λ_=>?_⟩|fail
 intro i ⟨h4,h5⟩
 cases hx:a[i]? with
 |some k=>
  have hlt:=(B4.1 hx).1
  obtain⟨k2,hx2⟩:∃k,b[i]?=some k:=⟨_,F4 (by omega)⟩
  have hilt:(i:Int)<es.length:=by omega
  have hilt2:(i:Int)<fs.length:=by omega
  have hg:es[((i:Nat):Int).toNat]?=some [eI k]:=g1 i k hx
  have hg2:fs[((i:Nat):Int).toNat]?=some [eI k2]:=g2 i k2 hx2
  by_cases hk:k=k2
  ·have ht:a.take (i+1)=b.take (i+1):=by rw[L8,L8,hx,hx2,h5,hk]
   subst hk
   clear g1 g2 hx hx2 hq
   repeat' first|refine st ?_|((with_reducible apply A4);conv=>whnf)|refine⟨λ_=>?_,λ_=>?_⟩|fail
   exact⟨i+1,rfl,rfl,rfl,by omega,by omega,ht⟩
  ·unfold eqE at hq;rw[if_pos hl,if_neg λh=>hk (by rw[h,hx2] at hx;cases hx;rfl)] at hq
   subst hq
   clear g1 g2 hx hx2
   repeat' first|refine st ?_|((with_reducible apply A4);conv=>whnf)|refine⟨λ_=>?_,λ_=>?_⟩|fail
   all_goals first|rfl|(exfalso;omega)
 |none=>
  have hge:=E9.1 hx
  have hilt:(es.length:Int)<=i:=by omega
  rw[H4 hge,H4 (by omega)] at h5
  unfold eqE at hq;rw[if_pos hl,if_pos h5] at hq
  subst hq
  clear g1 g2 hx
  repeat' first|refine st ?_|((with_reducible apply A4);conv=>whnf)|refine⟨λ_=>?_,λ_=>?_⟩|fail
  all_goals rfl
def vaE(ki:List Int)(rows:List Rw):Int:=if 4096<rows.length then 5 else if ki.all Y9 then (if rows.all (λr=>Q1 r.vs ki) then 0 else 8) else 7
theorem C6A(nk:Bool)(ki:List Int)(hki:ki.length<=1073741824)(dk:D)(hdk:dk=ng nk (A5 ki))(rows:List Rw)(hrl:rows.length<=1073741824)(hrb:∀r∈rows,r.vs.length<=1073741824/\∀v∈r.vs,v.s.length<=1073741824)(dr:D)(hdr:A9 dr (B7 rows))(op n xo xn:Int)(xv:Vl)(xm:List UInt8)(xd dx dy da di:D) :
  Pure Tryz.prog B9z [G3 op n dk dr xo xn xv xm xd dx dy da di] (.d (eI (vaE ki rows))):=by
 have l1:=U8 rows
 have m1:=X2 rows
 have g1:=λi r=>@A0W rows i r
 obtain⟨es,hes⟩:∃z,z=B7 rows:=⟨_,rfl⟩
 rw[<- hes] at hdr l1 m1 g1
 clear hes
 have hsd:A9 dk (A5 ki):=by rw[hdk];exact C7
 obtain⟨q,hq⟩:∃q,q=vaE ki rows:=⟨_,rfl⟩
 rw[<- hq]
 unfold vaE at hq
 by_cases h1:4096<rows.length
 ·rw[if_pos h1] at hq
  subst hq
  clear g1 hrb hdk hsd
  refine B0E.go A6 rfl ?_
  repeat' first|refine st ?_|((with_reducible apply A4);conv=>whnf)|refine⟨λ_=>?_,λ_=>?_⟩|fail
  all_goals first|rfl|(exfalso;omega)
 rw[if_neg h1] at hq
 have hC:=B4k ki (by omega) dk hsd
 cases hb:ki.all Y9 with
 |false=>
  rw[hb] at hC hq
  rw[if_neg (by simp)] at hq
  subst hq
  clear g1 hrb hdk hsd
  refine B0E.go A6 rfl ?_
  repeat' first|refine st ?_|((with_reducible apply A4);conv=>whnf)|refine⟨λ_=>?_,λ_=>?_⟩|fail
  all_goals rfl
 |true=>
  rw[hb] at hC hq
  rw[if_pos rfl] at hq
  have hF:=λ(r:Rw) (h:r∈rows)=>C6B r.vs ki (hrb r h).1 (by omega) (hrb r h).2 r.d C7 dk hsd
  obtain⟨b,hbb⟩:∃b,b=rows.all (λr=>Q1 r.vs ki):=⟨_,rfl⟩
  rw[<- hbb] at hq
  refine B0E.go A6 rfl ?_
  repeat' first|refine st ?_|((with_reducible apply A4);conv=>whnf)|refine⟨λ_=>?_,λ_=>?_⟩|fail
  refine K6 A6 D1r D0a (λ(i:Nat)=>[.d (eI i)]) (λi=>[.cells [.d (eI op),.d (eI n),.d dk,.d dr,.d (eI xo),.d (eI xn),.d (eI xv.k),.d (eI xv.n),.d (.str xv.s),.d (.str xm),.d xd,.d dx,.d dy,.d da,.d di]]) (λi=>i<=rows.length/\(rows.take i).all (λr=>Q1 r.vs ki)=true) (λi=>rows.length-i) 0 rfl rfl rfl rfl (λ_ _=>⟨rfl,rfl⟩) rfl ⟨by omega,rfl⟩ ?_
  repeat' first|refine st ?_|((with_reducible apply A4);conv=>whnf)|refine⟨λ_=>?_,λ_=>?_⟩|fail
  intro i ⟨h4,h5⟩
  cases hx:rows[i]? with
  |some r=>
   have hlt:=(B4.1 hx).1
   have hilt:(i:Int)<es.length:=by omega
   have hg:es[((i:Nat):Int).toNat]?=some [r.d]:=g1 i r hx
   have hV:=hF r (C3 hx)
   have hs:=A2I (p:=λr:Rw=>Q1 r.vs ki) hx
   rw[h5,Q4] at hs
   obtain⟨rd,hrd⟩:∃d,d=r.d:=⟨_,rfl⟩
   rw[<- hrd] at hg hV
   cases hv:Q1 r.vs ki with
   |false=>
    rw[hv] at hV
    have hf:=A1p (p:=λr:Rw=>Q1 r.vs ki) hx hv
    rw[hf] at hbb
    subst hbb
    rw[if_neg (by simp)] at hq
    subst hq
    clear g1 hrb hF hx hrd hs
    repeat' first|refine st ?_|((with_reducible apply A4);conv=>whnf)|refine⟨λ_=>?_,λ_=>?_⟩|fail
    all_goals rfl
   |true=>
    rw[hv] at hV
    have hs:=hs.trans hv
    clear g1 hrb hF hx hrd hbb hq
    repeat' first|refine st ?_|((with_reducible apply A4);conv=>whnf)|refine⟨λ_=>?_,λ_=>?_⟩|fail
    exact⟨i+1,rfl,rfl,rfl,by omega,by omega,hs⟩
  |none=>
   have hge:=E9.1 hx
   have hilt:(es.length:Int)<=i:=by omega
   rw[H4 hge] at h5
   rw[h5] at hbb
   subst hbb
   rw[if_pos rfl] at hq
   subst hq
   clear g1 hrb hF hx hdk
   repeat' first|refine st ?_|((with_reducible apply A4);conv=>whnf)|refine⟨λ_=>?_,λ_=>?_⟩|fail
   all_goals rfl
theorem C6z(ks:List Int)(hks:ks.length<=1073741824)(dk:D)(hdk:A9 dk (A5 ks))(xs:List Ex)(hx:xs.length<=1073741824)(hxb:∀e∈xs,e.bk<=1073741824)(dx:D)(hdx:A9 dx (xL xs)) :
  Pure Tryz.prog B9y [.d dx,.d dk] (.tup [.d (X8 (A5 (G8 ks xs).1).isEmpty (A5 (G8 ks xs).1)),.d (eI (G8 ks xs).2)]):=by
 have hC:=λ(e:Ex) (h:e∈xs)=>B3G ks hks dk hdk e (hxb e h)
 have l1:=P0 xs
 have m1:=P2 xs
 have g1:=λi e=>@Y1 xs i e
 obtain⟨es,hes⟩:∃z,z=xL xs:=⟨_,rfl⟩
 rw[<- hes] at hdx l1 m1 g1
 clear hes
 obtain⟨q,hq⟩:∃q,q=G8 ks xs:=⟨_,rfl⟩
 rw[<- hq]
 refine C8A.go A6 rfl ?_
 repeat' first|refine st ?_|((with_reducible apply A4);conv=>whnf)|refine⟨λ_=>?_,λ_=>?_⟩|fail
 refine U7 6 1 rfl rfl ?_
 refine L6 A6 D1q D09 (λ(i:Nat) (w:List Int)=>[.arr 0 (A5 w).length,.d (eI i)]) (λi w=>[.arr (A5 w) 1 0 (A5 w).isEmpty]) (λi w=>i<=xs.length/\w.length=i/\q=if (G8 ks (xs.drop i)).2=0 then (w++(G8 ks (xs.drop i)).1,0) else ([],(G8 ks (xs.drop i)).2)) (λi w=>xs.length-i) 0 [] rfl rfl rfl rfl (λ_ _ _=>⟨rfl,rfl⟩) rfl ⟨by omega,rfl,by
  rw[hq]
  show G8 ks xs=if (G8 ks xs).2=0 then ((G8 ks xs).1,0) else ([],(G8 ks xs).2)
  split
  ·rename_i h;exact Prod.ext rfl h
  ·rename_i h
   refine Prod.ext ?_ rfl
   cases xs with
   |nil=>exact absurd rfl h
   |cons e r=>
    rw[G8] at h ⊢
    split
    ·rename_i h1
     rw[if_pos h1] at h
     split
     ·rfl
     ·rename_i h2
      rw[if_neg h2] at h
      split
      ·rename_i h3
       rw[if_pos h3] at h
       exact absurd rfl h
      ·rfl
    ·rfl⟩ ?_
 repeat' first|refine st ?_|((with_reducible apply A4);conv=>whnf)|refine⟨λ_=>?_,λ_=>?_⟩|fail
 intro i w ⟨i1,i2,i3⟩
 clear hq
 have hw1:=F9 w
 have hwm:=I1 w
 have hbd:((A5 w).length+1)*8<=140737488355328:=by omega
 have happ:=λk:Int=>show A5 (w++[k])=A5 w++[[eI k]] by simp[A5]
 have hne:=λk:Int=>show(A5 (w++[k])).isEmpty=false by simp[A5]
 obtain⟨A,hA⟩:∃z,z=A5 w:=⟨_,rfl⟩
 rw[<- hA] at hw1 hwm hbd ⊢
 cases hi:xs[i]? with
 |some e=>
  have hlt:=(B4.1 hi).1
  have hil:(i:Int)<es.length:=by omega
  have hg:=g1 i e hi
  have hC:=hC e (C3 hi)
  have dx':xs.drop i=e::xs.drop (i+1):=by rw[S1 hlt,(B4.1 hi).2]
  rw[dx',G8] at i3
  have hC:Bi.Pure Tryz.prog A8l [e.av,.d dk] (.tup [.d (eI (S9 ks e).1),.d (eI (S9 ks e).2)]):=hC
  obtain⟨⟨k,er⟩,hk⟩:∃z,z=S9 ks e:=⟨_,rfl⟩
  rw[<- hk] at hC i3
  dsimp only at hC i3
  clear hk dx'
  obtain⟨xo,xn,xv,xm,xl,xa⟩:=e
  rw[Ex.ds_mk] at hg
  rw[Ex.av_mk] at hC
  have hg:es[((i:Nat):Int).toNat]?=some (T5 xo xn xv xm (ng xl (xL xa))):=hg
  obtain⟨xd,hxd⟩:∃d,d=ng xl (xL xa):=⟨_,rfl⟩
  rw[<- hxd] at hg hC
  by_cases h1:er=0
  ·subst h1
   rw[if_pos rfl] at i3
   by_cases h2:k=0
   ·subst h2
    rw[if_pos rfl] at i3
    have i3:q=([],7):=i3
    subst i3
    clear hi g1 hxd hA happ hne
    repeat' first|refine st ?_|((with_reducible apply A4);conv=>whnf)|refine⟨λ_=>?_,λ_=>?_⟩|fail
    all_goals rfl
   ·rw[if_neg h2] at i3
    have i4:q=if (G8 ks (xs.drop (i+1))).2=0 then ((w++[k])++(G8 ks (xs.drop (i+1))).1,0) else ([],(G8 ks (xs.drop (i+1))).2):=by
     rw[i3]
     by_cases h3:(G8 ks (xs.drop (i+1))).2=0
     ·rw[if_pos h3,if_pos rfl,if_pos h3,S6];rfl
     ·rw[if_neg h3,if_neg h3,if_neg h3]
    have happ:=happ k
    have hne:=hne k
    rw[<- hA] at happ
    clear hi g1 hxd i3
    repeat' first|refine st ?_|((with_reducible apply A4);conv=>whnf)|refine⟨λ_=>?_,λ_=>?_⟩|fail
    exact⟨i+1,w++[k],by rw[happ];simp,rfl,by rw[hne,happ];simp,by omega,by omega,by simp;omega,i4⟩
  ·rw[if_neg h1,if_neg h1] at i3
   subst i3
   clear hi g1 hxd hA happ hne
   repeat' first|refine st ?_|((with_reducible apply A4);conv=>whnf)|refine⟨λ_=>?_,λ_=>?_⟩|fail
   all_goals rfl
 |none=>
  have hge:=E9.1 hi
  have hil:(es.length:Int)<=i:=by omega
  rw[R1 hge] at i3
  have i3:q=(w,0):=by rw[i3];simp[G8]
  subst i3
  dsimp only
  rw[<- hA]
  clear hi g1 happ hne hA
  repeat' first|refine st ?_|((with_reducible apply A4);conv=>whnf)|refine⟨λ_=>?_,λ_=>?_⟩|fail
  all_goals (cases A<;>rfl)
theorem C6v(ks:List Int)(hks:ks.length<=1073741824)(dk:D)(hdk:A9 dk (A5 ks))(keys:List Int)(hkl:keys.length<=1073741824)(dy:D)(hdy:A9 dy (A5 keys))(ags:List Ag)(hal:ags.length<=1073741824)(da:D)(hda:A9 da (I0 ags)) :
  Pure Tryz.prog B9w [.d dy,.d da,.d dk] (.tup [.d (X8 (A5 (Q2 ks keys ags).1).isEmpty (A5 (Q2 ks keys ags).1)),.d (eI (Q2 ks keys ags).2)]):=by
 have l1:=F9 ks
 have m1:=I1 ks
 have g1:=λi r=>@N2 ks i r
 obtain⟨es,hes⟩:∃z,z=A5 ks:=⟨_,rfl⟩
 rw[<- hes] at hdk l1 m1 g1
 have l2:=F9 keys
 have m2:=I1 keys
 have g2:=λi r=>@N2 keys i r
 obtain⟨fs,hfs⟩:∃z,z=A5 keys:=⟨_,rfl⟩
 rw[<- hfs] at hdy l2 m2 g2
 have l3:=A5c ags
 have m3:=A6H ags
 have g3:=λi r=>@B1P ags i r
 obtain⟨gs,hgs⟩:∃z,z=I0 ags:=⟨_,rfl⟩
 rw[<- hgs] at hda l3 m3 g3
 clear hes hfs hgs
 obtain⟨q,hq⟩:∃q,q=Q2 ks keys ags:=⟨_,rfl⟩
 rw[<- hq]
 have hq:q=A0c ks ags [] keys:=hq
 refine C8y.go A6 rfl ?_
 repeat' first|refine st ?_|((with_reducible apply A4);conv=>whnf)|refine⟨λ_=>?_,λ_=>?_⟩|fail
 refine U7 8 1 rfl rfl ?_
 refine L6 A6 D1o D07 (λ(i:Nat) (w:List Int)=>[.arr 0 (A5 w).length,.d (eI i)]) (λi w=>[.arr (A5 w) 1 0 (A5 w).isEmpty]) (λi w=>i<=keys.length/\w.length=i/\q=A0c ks ags w (keys.drop i)) (λi w=>keys.length-i) 0 [] rfl rfl rfl rfl (λ_ _ _=>⟨rfl,rfl⟩) rfl ⟨by omega,rfl,hq⟩ ?_
 repeat' first|refine st ?_|((with_reducible apply A4);conv=>whnf)|refine⟨λ_=>?_,λ_=>?_⟩|fail
 intro i w ⟨i1,i2,i3⟩
 clear hq
 have hw1:=F9 w
 have hwm:=I1 w
 have hbd:((A5 w).length+1)*8<=140737488355328:=by omega
 have happ:=λk:Int=>show A5 (w++[k])=A5 w++[[eI k]] by simp[A5]
 have hne:=λk:Int=>show(A5 (w++[k])).isEmpty=false by simp[A5]
 cases hi:keys[i]? with
 |some k=>
  have hlt:=(B4.1 hi).1
  have hil:(i:Int)<fs.length:=by omega
  have hg:fs[((i:Nat):Int).toNat]?=some [eI k]:=g2 i k hi
  have dx':keys.drop i=k::keys.drop (i+1):=by rw[S1 hlt,(B4.1 hi).2]
  rw[dx',A0c] at i3
  obtain⟨A,hA⟩:∃z,z=A5 w:=⟨_,rfl⟩
  rw[<- hA] at hw1 hwm hbd ⊢
  by_cases h1:k<0
  ·rw[if_pos (.inl h1)] at i3
   subst i3
   clear hi g2 hA happ hne g1 g3 dx'
   repeat' first|refine st ?_|((with_reducible apply A4);conv=>whnf)|refine⟨λ_=>?_,λ_=>?_⟩|fail
   all_goals rfl
  by_cases h2:(ks.length:Int)<=k
  ·rw[if_pos (.inr h2)] at i3
   subst i3
   clear hi g2 hA happ hne g1 g3 dx'
   have h2:(es.length:Int)<=k:=by omega
   repeat' first|refine st ?_|((with_reducible apply A4);conv=>whnf)|refine⟨λ_=>?_,λ_=>?_⟩|fail
   all_goals rfl
  ·rw[if_neg (λh=>h.elim h1 h2)] at i3
   have hk:=g1 _ _ (A99 h1 h2)
   have happ:=happ (n6 ks k)
   have hne:=hne (n6 ks k)
   rw[<- hA] at happ
   obtain⟨v,hv⟩:∃z,z=n6 ks k:=⟨_,rfl⟩
   rw[<- hv] at hk happ hne i3
   have h2:¬(es.length:Int)<=k:=by omega
   clear hi g2 g1 g3 dx' hv
   repeat' first|refine st ?_|((with_reducible apply A4);conv=>whnf)|refine⟨λ_=>?_,λ_=>?_⟩|fail
   exact⟨i+1,w++[v],by rw[happ];simp,rfl,by rw[hne,happ];simp,by omega,by omega,by simp;omega,i3⟩
 |none=>
  have hge:=E9.1 hi
  have hil:(fs.length:Int)<=i:=by omega
  rw[R1 hge,A0c] at i3
  clear hi g2 happ hne
  repeat' first|refine st ?_|((with_reducible apply A4);conv=>whnf)|refine⟨λ_=>?_,λ_=>?_⟩|fail
  refine L6 A6 D1p D08 (λ(j:Nat) (u:List Int)=>[.arr 0 (A5 u).length,.d (eI j)]) (λj u=>[.arr (A5 u) 1 0 (A5 u).isEmpty]) (λj u=>j<=ags.length/\u.length=i+j/\q=A1E ks u (ags.drop j)) (λj u=>ags.length-j) 0 w rfl rfl rfl rfl (λ_ _ _=>⟨rfl,rfl⟩) rfl ⟨by omega,by omega,i3⟩ ?_
  repeat' first|refine st ?_|((with_reducible apply A4);conv=>whnf)|refine⟨λ_=>?_,λ_=>?_⟩|fail
  intro j u ⟨j1,j2,j3⟩
  clear hw1 hwm hbd i3
  have hu1:=F9 u
  have hum:=I1 u
  have hbd:((A5 u).length+1)*8<=140737488355328:=by omega
  have happ:=λk:Int=>show A5 (u++[k])=A5 u++[[eI k]] by simp[A5]
  have hne:=λk:Int=>show(A5 (u++[k])).isEmpty=false by simp[A5]
  obtain⟨A,hA⟩:∃z,z=A5 u:=⟨_,rfl⟩
  rw[<- hA] at hu1 hum hbd ⊢
  cases hj:ags[j]? with
  |some a=>
   have hlt:=(B4.1 hj).1
   have hjl:(j:Int)<gs.length:=by omega
   have hg:gs[((j:Nat):Int).toNat]?=some [eI a.op,eI a.arg]:=g3 j a hj
   have dx':ags.drop j=a::ags.drop (j+1):=by rw[S1 hlt,(B4.1 hj).2]
   rw[dx',A1E] at j3
   have hgk:=λh1 h2=>g1 _ _ (A99 (ks:=ks) (k:=a.arg) h1 h2)
   have hak:agK ks a=if a.op=1\/a.op=2\/a.op=3\/a.op=4 then
    if a.arg=-1/\a.op=1 then (1,0)
    else if a.arg<0\/ks.length<=a.arg then (0,6)
    else if a.op=2/\n6 ks a.arg≠1 then (0,7)
    else if a.op=3\/a.op=4 then (n6 ks a.arg,0) else (1,0)
    else (0,7):=rfl
   obtain⟨v,hv⟩:∃z,z=n6 ks a.arg:=⟨_,rfl⟩
   rw[<- hv] at hgk hak
   obtain⟨K,hK⟩:∃z,z=agK ks a:=⟨_,rfl⟩
   rw[<- hK] at hak j3
   obtain⟨op,ar⟩:=a
   dsimp only at hg hgk hak
   rw[<- l1] at hak hgk
   clear hj g1 g3 dx' hv hK
   have err:∀e:Int,e≠0->K=(0,e)->q=([],e):=λe he h=>by rw[j3,h,if_neg he]
   have okk:∀k:Int,K=(k,0)->q=A1E ks (u++[k]) (ags.drop (j+1)):=λk h=>by rw[j3,h,if_pos rfl]
   clear j3
   by_cases c0:op=1\/op=2\/op=3\/op=4
   ·rw[if_pos c0] at hak
    by_cases c1:ar=-1/\op=1
    ·rw[if_pos c1] at hak
     obtain⟨rfl,rfl⟩:=c1
     have okk:=okk _ hak
     have happ:=happ 1
     have hne:=hne 1
     rw[<- hA] at happ
     clear err hak hgk c0
     repeat' first|refine st ?_|((with_reducible apply A4);conv=>whnf)|refine⟨λ_=>?_,λ_=>?_⟩|fail
     exact⟨j+1,u++[1],by rw[happ];simp,rfl,by rw[hne,happ];simp,by omega,by omega,by simp;omega,okk⟩
    rw[if_neg c1] at hak
    by_cases c2:ar<0\/es.length<=ar
    ·rw[if_pos c2] at hak
     have err:=err 6 (by decide) hak
     subst err
     clear okk hak hgk happ hne hA
     rcases c2 with c2|c2
     ·rcases c0 with rfl|rfl|rfl|rfl
      ·have c1:¬ar=-1:=λh=>c1 ⟨h,rfl⟩
       repeat' first|refine st ?_|((with_reducible apply A4);conv=>whnf)|refine⟨λ_=>?_,λ_=>?_⟩|fail
       all_goals rfl
      all_goals clear c1
      all_goals skip
      all_goals repeat' first|refine st ?_|((with_reducible apply A4);conv=>whnf)|refine⟨λ_=>?_,λ_=>?_⟩|fail
      all_goals rfl
     ·have c3:¬ar<0:=by omega
      have c4:¬ar=-1:=by omega
      rcases c0 with rfl|rfl|rfl|rfl
      all_goals clear c1
      all_goals skip
      all_goals repeat' first|refine st ?_|((with_reducible apply A4);conv=>whnf)|refine⟨λ_=>?_,λ_=>?_⟩|fail
      all_goals rfl
    rw[if_neg c2] at hak
    have c3:¬ar<0:=λh=>c2 (.inl h)
    have c4:¬(es.length:Int)<=ar:=λh=>c2 (.inr h)
    have hg2:=hgk c3 c4
    have c5:¬ar=-1:=by omega
    clear hgk c1 c2
    rcases c0 with rfl|rfl|rfl|rfl
    ·have okk:=okk _ hak
     have happ:=happ 1
     have hne:=hne 1
     rw[<- hA] at happ
     clear err hak
     repeat' first|refine st ?_|((with_reducible apply A4);conv=>whnf)|refine⟨λ_=>?_,λ_=>?_⟩|fail
     exact⟨j+1,u++[1],by rw[happ];simp,rfl,by rw[hne,happ];simp,by omega,by omega,by simp;omega,okk⟩
    ·by_cases c6:v=1
     ·subst c6
      have okk:=okk 1 (by rw[hak];simp)
      have happ:=happ 1
      have hne:=hne 1
      rw[<- hA] at happ
      clear err hak
      repeat' first|refine st ?_|((with_reducible apply A4);conv=>whnf)|refine⟨λ_=>?_,λ_=>?_⟩|fail
      exact⟨j+1,u++[1],by rw[happ];simp,rfl,by rw[hne,happ];simp,by omega,by omega,by simp;omega,okk⟩
     ·have err:=err 7 (by decide) (by rw[hak,if_pos ⟨rfl,c6⟩])
      subst err
      clear okk hak happ hne hA
      repeat' first|refine st ?_|((with_reducible apply A4);conv=>whnf)|refine⟨λ_=>?_,λ_=>?_⟩|fail
      all_goals rfl
    all_goals
     have okk:=okk v (by rw[hak];simp)
     have happ:=happ v
     have hne:=hne v
     rw[<- hA] at happ
     clear err hak
    all_goals skip
    all_goals repeat' first|refine st ?_|((with_reducible apply A4);conv=>whnf)|refine⟨λ_=>?_,λ_=>?_⟩|fail
    all_goals exact⟨j+1,u++[v],by rw[happ];simp,rfl,by rw[hne,happ];simp,by omega,by omega,by simp;omega,okk⟩
   ·rw[if_neg c0] at hak
    have err:=err 7 (by decide) hak
    subst err
    have d1:¬op=1:=λh=>c0 (.inl h)
    have d2:¬op=2:=λh=>c0 (.inr (.inl h))
    have d3:¬op=3:=λh=>c0 (.inr (.inr (.inl h)))
    have d4:¬op=4:=λh=>c0 (.inr (.inr (.inr h)))
    clear okk hak happ hne hA hgk c0
    repeat' first|refine st ?_|((with_reducible apply A4);conv=>whnf)|refine⟨λ_=>?_,λ_=>?_⟩|fail
    all_goals rfl
  |none=>
   have hge2:=E9.1 hj
   have hjl:(gs.length:Int)<=j:=by omega
   rw[R1 hge2] at j3
   have j3:q=(u,0):=j3
   subst j3
   dsimp only
   rw[<- hA]
   clear hj g1 g3 happ hne hA
   repeat' first|refine st ?_|((with_reducible apply A4);conv=>whnf)|refine⟨λ_=>?_,λ_=>?_⟩|fail
   all_goals (cases A<;>rfl)
end Go.Proofs
end
