/- Texts of this claim, joined. No condition. -/
import Derived.Test.YtfnaleemmeejcaaGreatQ9
set_option linter.unusedSimpArgs false
set_option linter.unusedVariables false
set_option maxRecDepth 10000
set_option maxHeartbeats 4000000
section
namespace Go.Proofs
open Go.Bi
theorem C0j(nl:Bool)(l:List (List D)):T6 (ng nl l)=D6 l+1:=by
 unfold ng
 split
 ·rename_i h
  simp only[K7,A0r] at h
  rw[h.2];rfl
 ·simp only[T6]
theorem Ex.bk_eq(op n:Int)(v:Vl)(nm:List UInt8)(nl:Bool)(args:List Ex):(Ex.mk op n v nm nl args).bk=D6 (xL args)+v.s.length+nm.length+7:=by
 rw[Ex.bk,Ex.ds_mk]
 simp only[J8,T6,C0j]
 omega
theorem C0l{l:List Ex}{f:Ex->Ex}(h:∀x∈l,(f x).bk<=x.bk):D6 (xL (l.map f))<=D6 (xL l):=by
 induction l with
 |nil=>exact D3 _
 |cons a l ih=>
  have h1:=h a (by simp)
  have h2:=ih λx hx=>h x (by simp[hx])
  unfold Ex.bk at h1
  simp only[H5,xL,D6] at h2 ⊢
  omega
theorem A9J(ks:List Int)(hks:ks.length<=1073741824):∀e:Ex,(F6 ks e).2=0->F6 ks (B0 0 e)=F6 ks e/\(∀r,ev r (B0 0 e)=ev r e)/\G5 (B0 0 e)=G5 e:=by
 refine Ex.ind λop n v nm nl args ih h=>?_
 obtain⟨hf,h1,h2⟩:=A4c h
 have e1:B0 0 (.mk op n v nm nl args)=.mk op n v nm true (args.map (B0 0)):=by
  rw[A1N]
  by_cases h3:op=2
  ·obtain⟨h4,h5,h6⟩:=h2 h3
   rw[if_pos h3,Int.add_zero]
   have:M5 n=n:=by
    show IntKind.i64.wrap n=n
    rw[IntKind.wrap_i64]
    omega
   rw[this]
  ·rw[if_neg h3]
 have ha:∀a∈args,(F6 ks a).2=0:=by
  by_cases h3:op=2
  ·rw[(h2 h3).2.2];intro a h;cases h
  ·exact(h1 h3).1
 have ih':=λa hm=>ih a hm (ha a hm)
 have m1:(args.map (B0 0)).map (F6 ks)=args.map (F6 ks):=by
  rw[V0];exact P5 λa hm=>(ih' a hm).1
 have m2:∀r,(args.map (B0 0)).map (ev r)=args.map (ev r):=λr=>by
  rw[V0];exact P5 λa hm=>(ih' a hm).2.1 r
 have m3:(args.map (B0 0)).map G5=args.map G5:=by
  rw[V0];exact P5 λa hm=>(ih' a hm).2.2
 rw[e1]
 refine⟨?_,λr=>?_,?_⟩
 ·rw[w6,w6,D8,m1]
 ·rw[x8,x8,D8,m2]
 ·rw[U4,U4,m3]
abbrev Pl.op:Pl->Int
 |.mk o _ _=>o.op
def fdX(o:Po):Ex:=if o.op=3\/o.op=5\/o.op=6 then Q8 (B0 0 o.pred) else B0 0 o.pred
abbrev fdO(o:Po):Po:=⟨o.op,o.n,o.nk,o.ki,true,o.rows,fdX o,true,o.xs.map (B0 0),o.ny,o.keys,o.na,o.aggs⟩
theorem C2A:∀(a b:List B5),(∀x∈a,∀y∈b,K5 x y<=0)->P7 a b=a++b
 |[],b,_=>by rw[P7];rfl
 |x::a,[],_=>by rw[A5y,U9]
 |x::a,y::b,h=>by
  have h1:=h x (by simp) y (by simp)
  have h2:=A0w.sw x y
  rw[P7,if_neg (by omega),C2A a (y::b) λu hu v hv=>h u (by simp[hu]) v hv];rfl
theorem B2F:∀(n:Nat)(l:List B5),l.length<=n->Y8 l->D1 l=l
 |0,l,h,_=>by rw[D1,dif_pos (by omega)]
 |n+1,l,h,hs=>by
  rw[D1]
  split
  ·rfl
  ·rename_i h1
   have h2:Y8 (l.take (l.length / 2)):=List.Pairwise.sublist (List.take_sublist _ _) hs
   have h3:Y8 (l.drop (l.length / 2)):=List.Pairwise.sublist (List.drop_sublist _ _) hs
   have h4:Y8 (l.take (l.length / 2)++l.drop (l.length / 2)):=by rw[A45];exact hs
   rw[B2F n _ (by rw[M4];omega) h2,B2F n _ (by rw[Y2];omega) h3,C2A _ _ (A66.1 h4).2.2,A45]
def Sst(l:List B5):Prop:=l.Pairwise λa b=>K5 a b<0
theorem Sst.srt{l:List B5}(h:Sst l):Y8 l:=List.Pairwise.imp (λh=>by omega) h
theorem C17:∀(l:List B5)(p:B5),Y8 (p::l)->Sst (p::S3 (some p) l)
 |[],p,_=>by simp[S3,Sst]
 |x::r,p,h=>by
  have h1:=s7.1 h
  have h2:=h1.1 x (by simp)
  have ih:=C17 r x h1.2
  rw[S3]
  by_cases h3:K5 p x=0
  ·rw[if_pos h3,(A0w.eq _ _).1 h3];exact ih
  ·rw[if_neg h3]
   refine s7.2 ⟨λy hy=>?_,ih⟩
   rcases H2.1 hy with rfl|hy
   ·omega
   ·exact A0w.tr _ x _ (by omega) ((s7.1 ih).1 y hy)
theorem D5J{l:List B5}(h:Y8 l):Sst (S3 none l):=by
 cases l with
 |nil=>exact List.Pairwise.nil
 |cons x r=>rw[S3];exact C17 r x h
theorem C3o(f:Nat->Nat->Int):∀(w:List (B5×Nat))(ms:List Nat),A4Y w->Y8 (W2 f w ms)
 |[],_,_=>by simp[W2,Y8]
 |p::r,[],_=>by simp[W2,Y8]
 |p::r,m::ms,h=>by
  have h1:=s7.1 h
  rw[W2]
  refine A66.2 ⟨List.pairwise_replicate.2 (.inr (by have:=(A0w.eq p.1 p.1).2 rfl;omega)),C3o f r ms h1.2,λu hu v hv=>?_⟩
  obtain⟨_,rfl⟩:=A8b.1 hu
  obtain⟨q,hq,rfl⟩:=B2V f r ms v hv
  have:=h1.1 q hq
  omega
theorem D68(I:List Bg)(p:Pl):∃L,(H7 I p).rows=J0 L/\Y8 L/\(p.op=10->Sst L):=by
 obtain⟨o,ni,ins⟩:=p
 rw[A2N]
 show ∃L,_/\_/\(o.op=10->_)
 unfold m9
 by_cases h10:o.op=10
 ·rw[if_neg (by omega),if_neg (by omega),if_neg (by omega),if_neg (by omega),if_pos h10]
  have h:=D5J (A4q _ (A8 ((ins.map (H7 I)).getD 0 K9).rows) (D3 _))
  exact⟨_,rfl,h.srt,λ_=>h⟩
 ·repeat' split
  all_goals first|exact⟨_,rfl,A4q _ _ (D3 _),λh=>absurd h h10⟩|exact⟨_,rfl,C3o _ _ _ (C0S _),λh=>absurd h h10⟩|(exfalso;omega)
theorem B2M{ks:List Int}{e:Ex}(h:O4 ks e=0):(F6 ks e).2=0/\((F6 ks e).1=3\/(F6 ks e).1=0)/\G5 e<=24:=by
 unfold O4 S9 at h
 by_cases hd:24<G5 e
 ·rw[if_pos hd] at h;cases h
 ·rw[if_neg hd] at h
  split at h
  ·rename_i h1
   split at h
   ·rename_i h2;exact⟨h1,h2,by omega⟩
   ·cases h
  ·rename_i h1;exact absurd h h1
theorem B2L{ks:List Int}{e:Ex}(h1:(F6 ks e).2=0)(h2:(F6 ks e).1=3\/(F6 ks e).1=0)(h3:G5 e<=24):O4 ks e=0:=by
 have:S9 ks e=F6 ks e:=if_neg (by omega)
 unfold O4
 rw[this,if_pos h1,if_pos h2]
theorem D8J{ks:List Int}(hks:ks.length<=1073741824){e:Ex}(h:O4 ks e=0):O4 ks (Q8 (B0 0 e))=0/\∀r,ev r (Q8 (B0 0 e))=ev r e:=by
 obtain⟨h1,h2,h3⟩:=B2M h
 obtain⟨a1,a2,a3⟩:=A9J ks hks e h1
 obtain⟨b1,b2,b3,b4⟩:=D9y ks (B0 0 e) (by rw[a1];exact h1)
 rw[a1] at b3
 rw[a3] at b4
 refine⟨B2L b2 ?_ (by omega),λr=>by rw[b1,a2]⟩
 rcases b3 with b3|b3
 ·rw[b3];exact h2
 ·exact .inr b3
theorem B2O{ks:List Int}(hks:ks.length<=1073741824):∀{xs:List Ex},(G8 ks xs).2=0->G8 ks (xs.map (B0 0))=G8 ks xs/\∀r,R9 (xs.map (B0 0)) r=R9 xs r
 |[],_=>⟨rfl,λ_=>rfl⟩
 |x::l,h=>by
  rw[G8] at h
  by_cases h1:(S9 ks x).2=0
  rotate_left
  ·rw[if_neg h1] at h;exact absurd h h1
  rw[if_pos h1] at h
  by_cases h2:(S9 ks x).1=0
  ·rw[if_pos h2] at h;cases h
  rw[if_neg h2] at h
  by_cases h3:(G8 ks l).2=0
  rotate_left
  ·rw[if_neg h3] at h;exact absurd h h3
  obtain⟨i1,i2⟩:=B2O hks h3
  have hd:¬24<G5 x:=λhd=>by unfold S9 at h1;rw[if_pos hd] at h1;cases h1
  have h1':(F6 ks x).2=0:=by unfold S9 at h1;rw[if_neg hd] at h1;exact h1
  obtain⟨a1,a2,a3⟩:=A9J ks hks x h1'
  have hc:S9 ks (B0 0 x)=S9 ks x:=by unfold S9;rw[a3,a1]
  refine⟨?_,λr=>?_⟩
  ·rw[H5,G8,G8,hc,i1]
  ·have:=i2 r
   unfold R9 at this ⊢
   rw[H5,H5,H5,a2,this]
theorem B2f{e e':Ex}(h:L9 e=L9 e')(left:Bool)(nb:Nat)(B:List B5):∀A,N5 e left nb B A=N5 e' left nb B A
 |[]=>rfl
 |a::r=>by
  have hA:R5 e B a=R5 e' B a:=by unfold R5;rw[h]
  rw[N5,N5,hA,B2f h left nb B r]
theorem B2t:∀(n:Nat)(a b:List B5),a.length+b.length<=n->(P7 a b).Perm (a++b)
 |_,[],b,_=>by rw[P7];exact List.Perm.refl _
 |_,x::a,[],_=>by rw[A5y,U9]
 |0,x::a,y::b,h=>by simp at h
 |n+1,x::a,y::b,h=>by
  simp only[H9] at h
  rw[P7]
  split
  ·have:=B2t n (x::a) b (by simp only[H9];omega)
   exact(List.Perm.cons y this).trans (List.perm_middle (a:=y) (l₁:=x::a) (l₂:=b)).symm
  ·have:=B2t n a (y::b) (by simp only[H9];omega)
   exact List.Perm.cons x this
theorem A9o:∀(n:Nat)(l:List B5),l.length<=n->(D1 l).Perm l
 |0,l,h=>by rw[D1,dif_pos (by omega)]
 |n+1,l,h=>by
  rw[D1]
  split
  ·exact List.Perm.refl _
  ·rename_i h1
   have h2:=A9o n (l.take (l.length / 2)) (by rw[M4];omega)
   have h3:=A9o n (l.drop (l.length / 2)) (by rw[Y2];omega)
   have h4:=(B2t _ _ _ (D3 _)).trans (h2.append h3)
   rw[A45] at h4
   exact h4
theorem C3O:∀(a b:List B5),Y8 a->Y8 b->a.Perm b->a=b
 |[],b,_,_,h=>by rw[List.nil_perm.1 h]
 |x::a,[],_,_,h=>by have:=h.length_eq;simp at this
 |x::a,y::b,ha,hb,h=>by
  have ha':=s7.1 ha
  have hb':=s7.1 hb
  have hxy:x=y:=by
   rcases H2.1 (h.subset (W5 ..)) with h1|h1
   ·exact h1
   ·rcases H2.1 (h.symm.subset (W5 ..)) with h2|h2
    ·exact h2.symm
    ·have k1:=hb'.1 x h1
     have k2:=ha'.1 y h2
     have k3:=A0w.sw x y
     exact(A0w.eq x y).1 (by omega)
  subst hxy
  rw[C3O a b ha'.2 hb'.2 (List.Perm.cons_inv h)]
theorem C3P{l:List B5}(p:B5->Bool)(h:Y8 l):Y8 (l.filter p):=List.Pairwise.sublist List.filter_sublist h
theorem C34(p:B5->Bool)(l:List B5):(D1 l).filter p=D1 (l.filter p):=
 C3O _ _ (C3P p (A4q _ _ (D3 _))) (A4q _ _ (D3 _)) (((A9o _ _ (D3 _)).filter p).trans (A9o _ _ (D3 _)).symm)
theorem D6Q{e:Ex}{B:List B5}{a:B5}{q q' pb:B5->Bool}(h:∀b∈B,q (a++b)=(pb b&&q' (a++b))):(R5 e B a).filter q=(R5 e (B.filter pb) a).filter q':=by
 induction B with
 |nil=>rfl
 |cons b B ih=>
  have h1:=h b (by simp)
  have h2:=ih λx hx=>h x (by simp[hx])
  unfold R5 at h2 ⊢
  cases hb:pb b with
  |true=>
   rw[hb,Q4] at h1
   cases ht:L9 e (a++b) with
   |true=>
    simp only[H5,g9,hb,ht,h1,if_true]
    rw[h2]
   |false=>
    simp only[H5,g9,hb,ht,if_true,O2,if_false]
    exact h2
  |false=>
   rw[hb,A4H] at h1
   cases ht:L9 e (a++b) with
   |true=>
    simp only[H5,g9,hb,ht,h1,if_true,O2,if_false]
    exact h2
   |false=>
    simp only[H5,g9,hb,ht,O2,if_false]
    exact h2
theorem C2a{e:Ex}{B:List B5}{a:B5}{q:B5->Bool}(h:∀b∈B,q (a++b)=false):(R5 e B a).filter q=[]:=by
 rw[List.filter_eq_nil_iff]
 intro r hr
 unfold R5 at hr
 obtain⟨b,hb,rfl⟩:=D7.1 (m0.1 hr).1
 rw[h b hb];simp
theorem C2b{e:Ex}{nb:Nat}{B:List B5}{q q' pa pb:B5->Bool}:∀A:List B5,(∀a∈A,∀b∈B,q (a++b)=(pa a&&(pb b&&q' (a++b))))->(N5 e false nb B A).filter q=(N5 e false nb (B.filter pb) (A.filter pa)).filter q'
 |[],_=>rfl
 |a::A,h=>by
  have ih:=C2b (e:=e) (nb:=nb) A λx hx=>h x (by simp[hx])
  have ha:=h a (by simp)
  rw[N5,v7,v7,ih,g9]
  have e1:∀l:List B5,jnO false nb a l=[]:=λl=>rfl
  rw[e1,List.filter_nil,U9]
  cases hp:pa a with
  |true=>
   rw[if_pos rfl,N5,v7,v7,e1,List.filter_nil,U9]
   rw[D6Q (pb:=pb) (q':=q') λb hb=>by rw[ha b hb,hp,Q4]]
  |false=>
   rw[if_neg (by simp),C2a λb hb=>by rw[ha b hb,hp,A4H]];rfl
theorem C2c{e:Ex}{nb:Nat}{B:List B5}{q q' pa:B5->Bool}:∀A:List B5,(∀a∈A,∀b,(b∈B\/b=List.replicate nb E6)->q (a++b)=(pa a&&q' (a++b)))->(N5 e true nb B A).filter q=(N5 e true nb B (A.filter pa)).filter q'
 |[],_=>rfl
 |a::A,h=>by
  have ih:=C2c (e:=e) A λx hx=>h x (by simp[hx])
  have ha:=h a (by simp)
  rw[N5,v7,v7,ih,g9]
  cases hp:pa a with
  |true=>
   rw[if_pos rfl,N5,v7,v7]
   have e1:∀r∈R5 e B a,q r=q' r:=λr hr=>by
    unfold R5 at hr
    obtain⟨b,hb,rfl⟩:=D7.1 (m0.1 hr).1
    rw[ha b (.inl hb),hp,Q4]
   have e2:∀r∈jnO true nb a (R5 e B a),q r=q' r:=λr hr=>by
    unfold jnO at hr
    split at hr
    ·rw[M7] at hr
     subst hr
     rw[ha _ (.inr rfl),hp,Q4]
    ·cases hr
   rw[List.filter_congr e1,List.filter_congr e2]
  |false=>
   rw[if_neg (by simp)]
   have e1:(R5 e B a).filter q=[]:=C2a λb hb=>by rw[ha b (.inl hb),hp,A4H]
   have e2:(jnO true nb a (R5 e B a)).filter q=[]:=by
    rw[List.filter_eq_nil_iff]
    intro r hr
    unfold jnO at hr
    split at hr
    ·rw[M7] at hr
     subst hr
     rw[ha _ (.inr rfl),hp,A4H];simp
    ·cases hr
   rw[e1,e2];rfl
theorem D9W{t:Int}(h:f5 t):Q9 (r9 t)=t:=by
 rcases h with rfl|rfl|rfl<;>decide
theorem C1L:∀(l:List Vl){t:Int},f5 t->(l.foldl (V4 5) t=2↔t=2/\∀v∈l,Q9 v=2)
 |[],t,_=>by simp
 |a::l,t,ht=>by
  rw[s6,C1L l (A9e (.inl rfl) ht a)]
  have hx:V4 5 t a=2↔t=2/\Q9 a=2:=by
   have ha:=B01 a
   unfold V4
   rcases ht with rfl|rfl|rfl<;>rcases ha with h|h|h<;>rw[h]<;>decide
  rw[hx]
  constructor
  ·rintro⟨⟨h1,h2⟩,h3⟩
   exact⟨h1,λv hv=>by rcases H2.1 hv with rfl|hv;exact h2;exact h3 v hv⟩
  ·rintro⟨h1,h2⟩
   exact⟨⟨h1,h2 a (by simp)⟩,λv hv=>h2 v (by simp[hv])⟩
theorem C27{op n:Int}{v:Vl}{nm:List UInt8}{k:Nat}(h:x9 op n v nm k=true):op=5/\A15 n v nm k=true:=by
 obtain⟨h1,h2⟩:=of_decide_eq_true h
 exact⟨h1,decide_eq_true h2⟩
theorem C43(r:B5){n:Int}{v:Vl}{nm:List UInt8}(nl:Bool){l:List Ex}(h:A15 n v nm l.length=true):L9 (.mk 5 n v nm nl l) r=l.all λx=>L9 x r:=by
 have hr:f5 ((l.map (ev r)).foldl (V4 5) 2):=C1N (.inl rfl) _ (.inr (.inr rfl))
 unfold L9
 rw[A8V r nl (.inl rfl) h]
 show decide (Q9 (r9 ((l.map (ev r)).foldl (V4 5) 2))=2)=_
 rw[D9W hr,A0n,decide_eq_true_eq,C1L _ (.inr (.inr rfl)),L7]
 constructor
 ·rintro⟨_,h⟩ x hx
  exact decide_eq_true (h _ (D7.2 ⟨x,hx,rfl⟩))
 ·intro h
  refine⟨rfl,λv hv=>?_⟩
  obtain⟨x,hx,rfl⟩:=D7.1 hv
  exact of_decide_eq_true (h x hx)
theorem D9J(r:B5):∀e:Ex,L9 e r=(cj e).all λx=>L9 x r:=by
 refine Ex.ind λop n v nm nl args ih=>?_
 rw[A0U]
 split
 ·rename_i h
  obtain⟨rfl,h2⟩:=C27 h
  rw[C43 r nl h2]
  rw[A0n,L7,L7]
  constructor
  ·intro h x hx
   obtain⟨a,ha,hxa⟩:=A03.1 hx
   have:=h a ha
   rw[ih a ha,L7] at this
   exact this x hxa
  ·intro h a ha
   rw[ih a ha,L7]
   exact λx hx=>h x (A03.2 ⟨a,ha,hx⟩)
 ·simp
theorem C42(r:B5)(nl:Bool):∀l:List Ex,L9 (J6 nl l) r=l.all λx=>L9 x r
 |[]=>rfl
 |[x]=>by simp[J6]
 |x::y::l=>by
  rw[A2H (by simp)]
  exact C43 r nl (decide_eq_true ⟨by simp,rfl,rfl,rfl⟩)
def A2O(e:Ex):Prop:=cj e=[e]
theorem D59:∀e:Ex,∀x∈cj e,A2O x:=by
 refine Ex.ind λop n v nm nl args ih x hx=>?_
 have hq:=A0U op n v nm nl args
 rw[hq] at hx
 split at hx
 ·obtain⟨a,ha,hxa⟩:=A03.1 hx
  exact ih a ha x hxa
 ·rename_i h
  cases M7.1 hx
  unfold A2O
  rw[hq,if_neg h]
theorem A2K{nl:Bool}:∀{l:List Ex},(∀x∈l,A2O x)->l≠[]->cj (J6 nl l)=l
 |[],_,h=>absurd rfl h
 |[x],h,_=>h x (by simp)
 |x::y::l,h,_=>by
  rw[A2H (by simp),A0U]
  have e:x9 5 0 E6 [] (x::y::l).length=true:=decide_eq_true ⟨rfl,by simp,rfl,rfl,rfl⟩
  rw[if_pos e]
  have:∀l:List Ex,(∀x∈l,A2O x)->l.flatMap cj=l:=by
   intro l
   induction l with
   |nil=>intro _;rfl
   |cons a l ih=>intro h;rw[A41,h a (by simp),ih λz hz=>h z (by simp[hz])];rfl
  exact this _ h
def R7(ks:List Int)(e:Ex):Prop:=(F6 ks e).2=0/\((F6 ks e).1=3\/(F6 ks e).1=0)
theorem C2J{ks:List Int}{n:Int}{v:Vl}{nm:List UInt8}{nl:Bool}{l:List Ex}(h:A15 n v nm l.length=true):R7 ks (.mk 5 n v nm nl l)↔∀x∈l,R7 ks x:=by
 obtain⟨h1,rfl,rfl,rfl⟩:=of_decide_eq_true h
 have hc:(T1 5 l.length).1=true:=by
  show decide (2<=(l.length:Int))=true
  exact decide_eq_true (by omega)
 have hf:K3 5 0 E6 [] l.length=true:=by
  rw[A6T 5 0 E6 _ hc (by omega) (by omega) (by omega)];decide
 have hres:∀m:List Int,N8 5 E6 m=(3,allK m 3):=λm=>by
  unfold N8;rw[if_neg (by omega),if_pos (by omega)]
 constructor
 ·rintro⟨a,b⟩ x hx
  obtain⟨_,g,_⟩:=A4c a
  obtain⟨g1,g2,_⟩:=g (by omega)
  refine⟨g1 x hx,?_⟩
  rw[hres] at g2
  have g2:=L7.1 g2 _ (D7.2 ⟨x,hx,rfl⟩)
  simp only[A2u,decide_eq_true_eq] at g2
  omega
 ·intro g
  have hr:(N8 5 E6 (l.map λa=>(F6 ks a).1)).2=true:=by
   rw[hres]
   refine L7.2 λk hk=>?_
   obtain⟨x,hx,rfl⟩:=D7.1 hk
   have:=(g x hx).2
   simp only[A2u,decide_eq_true_eq]
   omega
  unfold R7
  rw[A8H hf (by omega) (λa ha=>(g a ha).1) hr,hres]
  exact⟨rfl,.inl rfl⟩
theorem C2K{ks:List Int}:∀e:Ex,R7 ks e↔∀x∈cj e,R7 ks x:=by
 refine Ex.ind λop n v nm nl args ih=>?_
 rw[A0U]
 split
 ·rename_i h
  obtain⟨rfl,h2⟩:=C27 h
  rw[C2J h2]
  constructor
  ·intro h x hx
   obtain⟨a,ha,hxa⟩:=A03.1 hx
   exact(ih a ha).1 (h a ha) x hxa
  ·intro h a ha
   exact(ih a ha).2 λx hx=>h x (A03.2 ⟨a,ha,hx⟩)
 ·simp
theorem A5B{ks:List Int}{nl:Bool}:∀{l:List Ex},R7 ks (J6 nl l)↔∀x∈l,R7 ks x
 |[]=>by
  refine⟨λ_ x hx=>absurd hx (by simp),λ_=>?_⟩
  have:F6 ks (J6 nl [])=(3,0):=A8G (w:=Y0 true) (by decide)
  unfold R7;rw[this];exact⟨rfl,.inl rfl⟩
 |[x]=>by simp[J6]
 |x::y::l=>by
  rw[A2H (by simp)]
  exact C2J (decide_eq_true ⟨by simp,rfl,rfl,rfl⟩)
theorem A4v{ks:List Int}{e:Ex}:O4 ks e=0↔R7 ks e/\G5 e<=24:=by
 constructor
 ·intro h
  obtain⟨h1,h2,h3⟩:=B2M h
  exact⟨⟨h1,h2⟩,h3⟩
 ·rintro⟨⟨h1,h2⟩,h3⟩
  exact B2L h1 h2 h3
theorem B2U{ks:List Int}:∀e:Ex,(F6 ks e).2=0->∀c∈L5 e,0<=c/\c<ks.length:=by
 refine Ex.ind λop n v nm nl args ih h c hc=>?_
 obtain⟨_,h1,h2⟩:=A4c h
 rw[A3N] at hc
 by_cases h3:op=2
 ·obtain⟨g1,g2,g3⟩:=h2 h3
  subst g3
  rw[if_pos h3] at hc
  simp only[List.flatMap_nil,U9,M7] at hc
  subst hc
  exact⟨g1,g2⟩
 ·rw[if_neg h3,A0M] at hc
  obtain⟨a,ha,hca⟩:=A03.1 hc
  exact ih a ha ((h1 h3).1 a ha) c hca
theorem C1K{n n':Int}{v:Vl}{nm:List UInt8}{k:Nat}:K3 2 n v nm k=K3 2 n' v nm k:=by
 unfold K3
 rw[if_neg (by decide),if_neg (by decide),if_pos rfl,if_neg (by decide),if_neg (by decide),if_pos rfl]
theorem C4g{n:Int}(h1:-1099511627776<=n)(h2:n<=1099511627776):M5 n=n:=by
 show IntKind.i64.wrap n=n
 rw[IntKind.wrap_i64]
 omega
theorem A8F{ks:List Int}{n:Int}{v:Vl}{nm:List UInt8}{nl:Bool}(hf:K3 2 n v nm 0=true)(g:0<=n/\n<ks.length):F6 ks (.mk 2 n v nm nl [])=(ks.getD n.toNat 0,0):=by
 rw[w6]
 show W7 2 n v nm ks 0 []=_
 unfold W7
 have h2c:(T1 2 ((0:Nat):Int)).2=true:=by decide
 rw[h2c,if_neg (by simp),hf,if_neg (by simp),if_pos rfl,if_pos g]
theorem D58{ks ks':List Int}{k:Int}(hk:-4294967296<=k/\k<=4294967296)(hl:ks.length<=4294967296):∀e:Ex,(F6 ks e).2=0->(∀c∈L5 e,0<=c+k/\c+k<ks'.length/\ks'.getD (c+k).toNat 0=ks.getD c.toNat 0)->F6 ks' (B0 k e)=F6 ks e/\G5 (B0 k e)=G5 e:=by
 refine Ex.ind λop n v nm nl args ih h hc=>?_
 obtain⟨hf,h1,h2⟩:=A4c h
 rw[A3N] at hc
 by_cases h3:op=2
 ·obtain⟨g1,g2,g3⟩:=h2 h3
  subst g3
  subst h3
  obtain⟨q1,q2,q3⟩:=hc n (by simp)
  rw[A1N,if_pos rfl,C4g (by omega) (by omega)]
  constructor
  ·rw[V7,A8F (by rw[C1K (n':=n)];exact hf) ⟨q1,q2⟩,A8F hf ⟨g1,g2⟩,q3]
  ·rw[U4,U4,V7]
 ·obtain⟨ha,hr,_⟩:=h1 h3
  rw[if_neg h3,A0M] at hc
  have ih':=λa hm=>ih a hm (ha a hm) λc h=>hc c (A03.2 ⟨a,hm,h⟩)
  rw[A1N,if_neg h3]
  constructor
  ·rw[w6,w6,D8,V0,show args.map (F6 ks' ∘ B0 k)=args.map (F6 ks) from P5 λa hm=>(ih' a hm).1,A2L hf h3,A2L hf h3]
  ·rw[U4,U4,V0,show args.map (G5 ∘ B0 k)=args.map G5 from P5 λa hm=>(ih' a hm).2]
theorem D57{ks ks':List Int}:∀e:Ex,(F6 ks e).2=0->(∀c∈L5 e,0<=c/\c<ks'.length/\ks'.getD c.toNat 0=ks.getD c.toNat 0)->F6 ks' e=F6 ks e:=by
 refine Ex.ind λop n v nm nl args ih h hc=>?_
 obtain⟨hf,h1,h2⟩:=A4c h
 rw[A3N] at hc
 by_cases h3:op=2
 ·obtain⟨g1,g2,g3⟩:=h2 h3
  subst g3
  subst h3
  obtain⟨q1,q2,q3⟩:=hc n (by simp)
  rw[A8F hf ⟨q1,q2⟩,A8F hf ⟨g1,g2⟩,q3]
 ·obtain⟨ha,hr,_⟩:=h1 h3
  rw[if_neg h3,A0M] at hc
  have ih':=λa hm=>ih a hm (ha a hm) λc h=>hc c (A03.2 ⟨a,hm,h⟩)
  rw[w6,w6,show args.map (F6 ks')=args.map (F6 ks) from P5 λa hm=>ih' a hm,A2L hf h3,A2L hf h3]
theorem D6f{row row':List Vl}{k:Int}:∀e:Ex,(∀c∈L5 e,r8 row' (M5 (c+k))=r8 row c)->ev row' (B0 k e)=ev row e:=by
 refine Ex.ind λop n v nm nl args ih h=>?_
 rw[A3N] at h
 rw[A1N,x8,x8,D8,V0]
 have ha:args.map (ev row' ∘ B0 k)=args.map (ev row):=P5 λa ha=>ih a ha λc hc=>h c (A8a _ (A03.2 ⟨a,ha,hc⟩))
 rw[ha]
 by_cases h2:op=2
 ·subst h2
  rw[if_pos rfl,C1K (n:=M5 (n+k)) (n':=n),B1X (n':=n) (row':=row) (λ_=>h n (by simp)) (λe=>absurd rfl e)]
 ·rw[if_neg h2,B1X (n':=n) (row':=row) (λe=>absurd e h2) (λ_=>rfl)]
theorem C0E{n:Int}{x:Ex}(h:P9 n x=0):∀c∈L5 x,c<n:=by
 intro c hc
 have hm:=(A8M x c).2 hc
 rcases A56 n x with ⟨_,h2⟩|⟨y,z,h1,h2,h3⟩
 ·rw[h2] at hm;cases hm
 ·have hy:y<n:=by omega
  obtain⟨i,hi,rfl⟩:=A1n.1 hm
  obtain⟨hl,h4⟩:=B4.1 h1
  have hp:=List.pairwise_iff_getElem.1 (B1J x)
  by_cases hlt:i<(T2 x).length-1
  ·have:=hp i ((T2 x).length-1) hi hl hlt
   omega
  ·have e:i=(T2 x).length-1:=by omega
   subst e
   omega
theorem C0F{n:Int}{x:Ex}(h:P9 n x=1):∀c∈L5 x,n<=c:=by
 intro c hc
 have hm:=(A8M x c).2 hc
 rcases A56 n x with ⟨_,h2⟩|⟨y,z,h1,h2,h3⟩
 ·rw[h2] at hm;cases hm
 ·have hz:n<=z:=by omega
  obtain⟨i,hi,rfl⟩:=A1n.1 hm
  obtain⟨hl,h4⟩:=B4.1 h2
  have hp:=List.pairwise_iff_getElem.1 (B1J x)
  by_cases hlt:0<i
  ·have:=hp 0 i hl hi hlt
   omega
  ·have e:i=0:=by omega
   subst e
   omega
theorem D9T{a b:B5}{c:Int}(h1:c<a.length):r8 (a++b) c=r8 a c:=by
 unfold r8 T4
 by_cases h0:c<0
 ·rw[if_pos (.inl h0),if_pos (.inl h0)]
 ·rw[if_neg (by rw[H8];omega),if_neg (by omega),I4,I4,P8 (by omega)]
theorem D9U{a b:B5}{c:Int}(h1:(a.length:Int)<=c):r8 (a++b) c=r8 b (c-a.length):=by
 unfold r8 T4
 by_cases h0:((a++b).length:Int)<=c
 ·rw[if_pos (.inr h0),if_pos (.inr (by rw[H8] at h0;omega))]
 ·rw[if_neg (by omega),if_neg (by rw[H8] at h0;omega),I4,I4,W4 (by omega)]
  congr 3
  omega
theorem D9K{e:Ex}{a b:B5}{n:Int}(hn:(a.length:Int)=n)(h:P9 n e=0):L9 e (a++b)=L9 e a:=by
 unfold L9
 rw[C1n e λc hc=>D9T (by have:=C0E h c hc;omega)]
theorem D9L{ks:List Int}{e:Ex}{a b:B5}{n:Int}(hn:(a.length:Int)=n)(hk:ks.length<=4294967296)(ho:(F6 ks e).2=0)(h:P9 n e=1):L9 (B0 (-n) e) b=L9 e (a++b):=by
 unfold L9
 rw[D6f (row:=a++b) (row':=b) (k:=-n) e λc hc=>by
  have h1:=C0F h c hc
  have h2:=B2U e ho c hc
  rw[D9U (by omega),C4g (by omega) (by omega)]
  congr 1
  omega]
theorem D6z{a b:List Int}{c:Int}(h:0<=c)(h1:c<a.length):(a++b).getD c.toNat 0=a.getD c.toNat 0:=by
 rw[I4,I4,P8 (by omega)]
theorem C2L{ka kb:List Int}{e:Ex}(h:R7 (ka++kb) e)(hc:P9 ka.length e=0):R7 ka e:=by
 have h2:=D57 (ks':=ka) e h.1 λc hm=>by
  have h1:=C0E hc c hm
  have h2:=(B2U e h.1 c hm).1
  exact⟨h2,h1,(D6z h2 h1).symm⟩
 unfold R7 at h ⊢
 rw[h2];exact h
theorem C2M{ka kb:List Int}{e:Ex}(hl:(ka++kb).length<=4294967296)(h:R7 (ka++kb) e)(hc:P9 ka.length e=1):R7 kb (B0 (-(ka.length:Int)) e)/\G5 (B0 (-(ka.length:Int)) e)=G5 e:=by
 have hl':ka.length<=4294967296:=by rw[H8] at hl;omega
 have h2:=D58 (ks:=ka++kb) (ks':=kb) (k:=-(ka.length:Int)) (by omega) hl e h.1 λc hm=>by
  have h1:=C0F hc c hm
  have h2:=(B2U e h.1 c hm).2
  rw[H8] at h2
  refine⟨by omega,by omega,?_⟩
  rw[I4,I4,W4 (by omega)]
  congr 2
  omega
 refine⟨?_,h2.2⟩
 unfold R7 at h ⊢
 rw[h2.1];exact h
structure Z4(o o':Po):Prop where
 op:o'.op=o.op
 n:o'.n=o.n
 nk:o'.nk=o.nk
 ki:o'.ki=o.ki
 rows:o'.rows=o.rows
 keys:o'.keys=o.keys
 aggs:o'.aggs=o.aggs
 pred:o.op=3\/o.op=5\/o.op=6->∀ks:List Int,ks.length<=1073741824->O4 ks o.pred=0->O4 ks o'.pred=0/\∀r,ev r o'.pred=ev r o.pred
 xs:∀ks:List Int,ks.length<=1073741824->(G8 ks o.xs).2=0->G8 ks o'.xs=G8 ks o.xs/\∀r,R9 o'.xs r=R9 o.xs r
theorem Z4.fd(o:Po):Z4 o (fdO o):=by
 refine⟨rfl,rfl,rfl,rfl,rfl,rfl,rfl,λh ks hks hp=>?_,λks hks hx=>B2O hks hx⟩
 show O4 ks (fdX o)=0/\∀r,ev r (fdX o)=ev r o.pred
 unfold fdX
 rw[if_pos h]
 exact D8J hks hp
theorem Z4.cp(o:Po):Z4 o (m8 o):=by
 refine⟨rfl,rfl,rfl,rfl,rfl,rfl,rfl,λh ks hks hp=>?_,λks hks hx=>B2O hks hx⟩
 show O4 ks (B0 0 o.pred)=0/\∀r,ev r (B0 0 o.pred)=ev r o.pred
 obtain⟨h1,h2,h3⟩:=B2M hp
 obtain⟨a1,a2,a3⟩:=A9J ks hks _ h1
 exact⟨B2L (by rw[a1];exact h1) (by rw[a1];exact h2) (by omega),a2⟩
theorem C3q{K:List Kw}{o o':Po}(h:Z4 o o'){k k':List Kw}(hk:∀i,(k'.getD i K0).ks=(k.getD i K0).ks)(hl:∀i,(k.getD i K0).ks.length<=48)(h0:(J4 K o k).2=0):(J4 K o' k').2=0/\(J4 K o' k').1.ks=(J4 K o k).1.ks:=by
 have l0:=hl 0
 have l1:=hl 1
 unfold J4 at h0 ⊢
 rw[h.op]
 by_cases c1:o.op=1
 ·rw[if_pos c1] at h0;rw[if_pos c1,if_pos c1,h.n];exact⟨h0,rfl⟩
 rw[if_neg c1] at h0;rw[if_neg c1,if_neg c1]
 by_cases c2:o.op=2
 ·rw[if_pos c2] at h0;rw[if_pos c2,if_pos c2,h.nk,h.ki,h.rows];exact⟨h0,rfl⟩
 rw[if_neg c2] at h0;rw[if_neg c2,if_neg c2]
 by_cases c4:o.op=4
 ·rw[if_pos c4] at h0;rw[if_pos c4,if_pos c4,hk 0,(h.xs _ (by omega) h0).1];exact⟨h0,rfl⟩
 rw[if_neg c4] at h0;rw[if_neg c4,if_neg c4]
 by_cases c11:o.op=11
 ·rw[if_pos c11] at h0;rw[if_pos c11,if_pos c11,hk 0,h.keys,h.aggs];exact⟨h0,rfl⟩
 rw[if_neg c11] at h0;rw[if_neg c11,if_neg c11]
 by_cases c10:o.op=10
 ·rw[if_pos c10] at h0;rw[if_pos c10,if_pos c10];exact⟨rfl,hk 0⟩
 rw[if_neg c10] at h0;rw[if_neg c10,if_neg c10]
 by_cases c3:o.op=3
 ·rw[if_pos c3] at h0;rw[if_pos c3,if_pos c3]
  refine⟨?_,hk 0⟩
  show O4 _ _=0
  rw[hk 0]
  exact(h.pred (.inl c3) _ (by omega) h0).1
 rw[if_neg c3] at h0;rw[if_neg c3,if_neg c3]
 by_cases c5:o.op=5\/o.op=6
 ·rw[if_pos c5] at h0;rw[if_pos c5,if_pos c5,hk 0,hk 1]
  exact⟨(h.pred (.inr c5) _ (by rw[H8];omega) h0).1,rfl⟩
 rw[if_neg c5] at h0;rw[if_neg c5,if_neg c5,hk 0,hk 1]
 by_cases d1:(k.getD 0 K0).ks.length=(k.getD 1 K0).ks.length
 rotate_left
 ·rw[if_neg d1] at h0;cases h0
 rw[if_pos d1] at h0;rw[if_pos d1,if_pos d1]
 by_cases d2:(k.getD 0 K0).ks=(k.getD 1 K0).ks
 rotate_left
 ·rw[if_neg d2] at h0;cases h0
 rw[if_pos d2,if_pos d2]
 exact⟨rfl,hk 0⟩
theorem C1t:∀{l:List (Kw×Int)},(∀x∈l,x.2=0)->n0 l=0
 |[],_=>rfl
 |y::l,h=>by rw[n0,if_pos (h y (by simp))];exact C1t λx hx=>h x (by simp[hx])
theorem B2w{K:List Kw}{o:Po}{ni:Bool}{ins:List Pl}(h1:0<=J9 o.op)(h2:(ins.length:Int)=J9 o.op)(h3:∀p∈ins,(C2 K p).2=0)(h4:(J4 K o (ins.map λp=>(C2 K p).1)).2=0)(h5:0<(J4 K o (ins.map λp=>(C2 K p).1)).1.ks.length)(h6:(J4 K o (ins.map λp=>(C2 K p).1)).1.ks.length<=48) :
  C2 K (.mk o ni ins)=((J4 K o (ins.map λp=>(C2 K p).1)).1,0):=by
 rw[A5z,ndN,if_neg (by omega),if_pos h2,if_pos (C1t λx hx=>by obtain⟨p,hp,rfl⟩:=D7.1 hx;exact h3 p hp),V0]
 show ndR (J4 K o (ins.map λp=>(C2 K p).1))=_
 rw[ndR,if_pos h4,if_neg (by omega)]
theorem A3A{α β:Type}(f:α->β)(l:List α)(i:Nat)(d:β):(l.map f).getD i d=((l[i]?).map f).getD d:=by
 rw[I4,J1]
theorem B2v{K:List Kw}{o o':Po}(h:Z4 o o'){ni ni':Bool}{ins:List Pl}{Φ:Pl->Pl}(h0:(C2 K (.mk o ni ins)).2=0)(hc:∀x∈ins,(C2 K (Φ x)).2=0/\(C2 K (Φ x)).1.ks=(C2 K x).1.ks) :
  (C2 K (.mk o' ni' (ins.map Φ))).2=0/\(C2 K (.mk o' ni' (ins.map Φ))).1.ks=(C2 K (.mk o ni ins)).1.ks:=by
 obtain⟨k1,k2,k3,k4,k5,k6⟩:=Z9 h0
 have hn:=Z8 K (.mk o ni ins)
 rw[k5] at k6 hn ⊢
 have hr:=C3q (K:=K) h (k:=ins.map λp=>(C2 K p).1) (k':=(ins.map Φ).map λp=>(C2 K p).1) (λi=>by
  rw[A3A,A3A,J1]
  cases hx:ins[i]? with
  |none=>rfl
  |some x=>exact(hc x (C3 hx)).2) (λi=>by
  rw[A3A]
  cases hx:ins[i]? with
  |none=>exact N1 _
  |some x=>exact Z8 K x) k4
 have:=B2w (K:=K) (o:=o') (ni:=ni') (ins:=ins.map Φ) (by rw[h.op];exact k1) (by rw[D8,h.op];exact k2) (λp hp=>by obtain⟨x,hx,rfl⟩:=D7.1 hp;exact(hc x hx).1) hr.1 (by rw[hr.2];exact k6) (by rw[hr.2];exact hn)
 rw[this]
 exact⟨rfl,hr.2⟩
theorem D69{I:List Bg}{o o':Po}(h:Z4 o o'){b b':List Bg}(hb:∀i,(b'.getD i K9).ki=(b.getD i K9).ki/\(b'.getD i K9).rows=(b.getD i K9).rows)(hp:o.op=3\/o.op=5\/o.op=6->L9 o'.pred=L9 o.pred)(hx:o.op=4->G8 (b.getD 0 K9).ki o'.xs=G8 (b.getD 0 K9).ki o.xs/\R9 o'.xs=R9 o.xs) :
  (m9 I o' b').ki=(m9 I o b).ki/\(m9 I o' b').rows=(m9 I o b).rows:=by
 obtain⟨a0,a1⟩:=hb 0
 obtain⟨b0,b1⟩:=hb 1
 unfold m9
 rw[h.op]
 by_cases c1:o.op=1
 ·rw[if_pos c1,if_pos c1,h.n];exact⟨rfl,rfl⟩
 rw[if_neg c1,if_neg c1]
 by_cases c2:o.op=2
 ·rw[if_pos c2,if_pos c2,h.ki,h.rows];exact⟨rfl,rfl⟩
 rw[if_neg c2,if_neg c2]
 by_cases c3:o.op=3
 ·rw[if_pos c3,if_pos c3,a0,a1,hp (.inl c3)];exact⟨rfl,rfl⟩
 rw[if_neg c3,if_neg c3]
 by_cases c4:o.op=4
 ·rw[if_pos c4,if_pos c4,a0,a1,(hx c4).1,(hx c4).2];exact⟨rfl,rfl⟩
 rw[if_neg c4,if_neg c4]
 by_cases c10:o.op=10
 ·rw[if_pos c10,if_pos c10,a0,a1];exact⟨rfl,rfl⟩
 rw[if_neg c10,if_neg c10]
 by_cases c11:o.op=11
 ·rw[if_pos c11,if_pos c11,a0,a1,h.keys,h.aggs];exact⟨rfl,rfl⟩
 rw[if_neg c11,if_neg c11]
 by_cases c5:o.op=5
 ·rw[if_pos c5,if_pos c5,a0,a1,b0,b1]
  refine⟨rfl,?_⟩
  show J0 (D1 _)=J0 (D1 _)
  rw[B2f (hp (.inr (.inl c5)))]
 rw[if_neg c5,if_neg c5]
 by_cases c6:o.op=6
 ·rw[if_pos c6,if_pos c6,a0,a1,b0,b1]
  refine⟨rfl,?_⟩
  show J0 (D1 _)=J0 (D1 _)
  rw[B2f (hp (.inr (.inr c6)))]
 rw[if_neg c6,if_neg c6]
 by_cases c7:o.op=7
 ·rw[if_pos c7,if_pos c7,a0,a1,b1];exact⟨rfl,rfl⟩
 rw[if_neg c7,if_neg c7]
 by_cases c8:o.op=8
 ·rw[if_pos c8,if_pos c8,a0,a1,b1];exact⟨rfl,rfl⟩
 rw[if_neg c8,if_neg c8,a0,a1,b1];exact⟨rfl,rfl⟩
theorem D9G{rs:List Int}{o o':Po}(h:Z4 o o')(a b:Int):W3 rs o' a b=W3 rs o a b:=by
 unfold W3
 rw[h.op,h.n,h.rows,h.keys]
theorem C3X{rs:List Int}{o o':Po}(h:Z4 o o'){ni ni':Bool}{ins:List Pl}{Φ:Pl->Pl}(hc:∀x∈ins,I3 rs (Φ x)=I3 rs x):I3 rs (.mk o' ni' (ins.map Φ))=I3 rs (.mk o ni ins):=by
 rw[I3,I3,A1P,A1P,A1P,A1P,D9G h]
 have:∀i:Nat,(((ins.map Φ)[i]?).map (I3 rs)).getD 0=((ins[i]?).map (I3 rs)).getD 0:=λi=>by
  rw[J1]
  cases hx:ins[i]? with
  |none=>rfl
  |some x=>exact hc x (C3 hx)
 rw[this,this]
theorem C1S:∀(l:List Int)(a B:Int),a<=B->(∀x∈l,x<=B)->l.foldl max a<=B
 |[],_,_,h,_=>h
 |y::l,a,B,h,h2=>C1S l (max a y) B (by have:=h2 y (by simp);omega) λx hx=>h2 x (by simp[hx])
theorem B2l{rs:List Int}{o:Po}{ni:Bool}{ins:List Pl}{B:Int}(h1:I3 rs (.mk o ni ins)<=B)(h2:∀p∈ins,N7 rs p<=B):N7 rs (.mk o ni ins)<=B:=by
 rw[N7,A9d]
 exact C1S _ _ _ h1 λx hx=>by obtain⟨p,hp,rfl⟩:=D7.1 hx;exact h2 p hp
theorem D7p{rs:List Int}{o o':Po}(h:Z4 o o'){ni ni':Bool}{ins:List Pl}{Φ:Pl->Pl}(hc:∀x∈ins,I3 rs (Φ x)=I3 rs x/\N7 rs (Φ x)<=N7 rs x):N7 rs (.mk o' ni' (ins.map Φ))<=N7 rs (.mk o ni ins):=by
 obtain⟨h1,h2⟩:=y8 (A0q (N7 rs (.mk o ni ins)))
 refine B2l (by rw[C3X h (ni:=ni) λx hx=>(hc x hx).1];exact h1) λp hp=>?_
 obtain⟨x,hx,rfl⟩:=D7.1 hp
 exact A0I (hc x hx).2 (h2 x hx)
theorem D9f{o o':Po}(h:Z4 o o'){ni ni':Bool}{ins:List Pl}{Φ:Pl->Pl}(hc:∀x∈ins,D9 (Φ x)=D9 x):D9 (.mk o' ni' (ins.map Φ))=D9 (.mk o ni ins):=by
 rw[A2j,A2j,h.op,h.n,List.flatMap_def,List.flatMap_def,V0]
 congr 2
 exact P5 hc
theorem B1K{Φ:Pl->Pl}:∀{l:List Pl},(∀x∈l,F5 (Φ x)<=F5 x)->P6 (l.map Φ)<=P6 l
 |[],_=>D3 _
 |a::l,h=>by
  have h1:=h a (by simp)
  have h2:=B1K λx hx=>h x (I2 a hx)
  rw[H5,P6,P6]
  omega
theorem Pl.bk_eq(o:Po)(ni:Bool)(ins:List Pl):(Pl.mk o ni ins).bk=D6 (A5 o.ki)+D6 (B7 o.rows)+o.pred.bk+D6 (xL o.xs)+D6 (A5 o.keys)+D6 (I0 o.aggs)+D6 (pL ins)+8:=by
 obtain⟨op,n,nk,ki,nr,rows,⟨xo,xn,xv,xm,xl,xa⟩,nx,xs,ny,keys,na,aggs⟩:=o
 rw[Pl.bk,Pl.ds_eq _ _ _ _ _ _ _ _ _ rfl,Ex.bk,Ex.ds_mk]
 simp only[K1,Po.dk,Po.dr,Po.dx,Po.dy,Po.da,T5,J8,T6,C0j]
 omega
theorem C37{Φ:Pl->Pl}:∀{l:List Pl},(∀x∈l,(Φ x).bk<=x.bk)->D6 (pL (l.map Φ))<=D6 (pL l)
 |[],_=>D3 _
 |a::l,h=>by
  have h1:=h a (by simp)
  have h2:=C37 λx hx=>h x (I2 a hx)
  unfold Pl.bk at h1
  simp only[pL,H5,D6] at h2 ⊢
  omega
structure PlE(I:List Bg)(p q:Pl):Prop where
 e:(C2 (D2 I) q).2=0
 ks:(C2 (D2 I) q).1.ks=(C2 (D2 I) p).1.ks
 ki:(H7 I q).ki=(H7 I p).ki
 rows:(H7 I q).rows=(H7 I p).rows
 sz:I3 (H3 I) q=I3 (H3 I) p
 lg:N7 (H3 I) q<=N7 (H3 I) p
 sc:D9 q=D9 p
structure PlD(I:List Bg)(p q:Pl):Prop extends PlE I p q where
 dp:F5 q<=F5 p
 bk:q.bk<=p.bk
theorem PlE.node{I:List Bg}(hI:InG I){o o':Po}(h:Z4 o o'){ni ni':Bool}{ins:List Pl}{Φ:Pl->Pl}(hb:(Pl.mk o ni ins).bk<=1073741824)(h0:(C2 (D2 I) (.mk o ni ins)).2=0)(hl:N7 (H3 I) (.mk o ni ins)<=2000)(hc:∀x∈ins,PlE I x (Φ x)) :
  PlE I (.mk o ni ins) (.mk o' ni' (ins.map Φ)):=by
 have hB:=Pl.bd hb
 obtain⟨k1,k2,k3,k4,k5,k6⟩:=Z9 h0
 obtain⟨m1,m2⟩:=y8 hl
 have hn:=B2v (K:=D2 I) h (ni':=ni') h0 λx hx=>⟨(hc x hx).e,(hc x hx).ks⟩
 have hk:∀i,((ins.map (H7 I)).getD i K9).ki=((ins.map λp=>(C2 (D2 I) p).1).getD i K0).ks:=λi=>by
  rw[A3A,A3A]
  cases hx:ins[i]? with
  |none=>rfl
  |some x=>
   have hm:=C3 hx
   exact(A5g hI x (hB.sub x hm) (k3 x hm) (m2 x hm)).ki
 have hkl:∀i,((ins.map λp=>(C2 (D2 I) p).1).getD i K0).ks.length<=48:=λi=>by
  rw[A3A]
  cases hx:ins[i]? with
  |none=>exact N1 _
  |some x=>exact Z8 _ x
 have hev:=D69 (I:=I) h (b:=ins.map (H7 I)) (b':=(ins.map Φ).map (H7 I)) (λi=>by
  rw[A3A,A3A,J1]
  cases hx:ins[i]? with
  |none=>exact⟨rfl,rfl⟩
  |some x=>exact⟨(hc x (C3 hx)).ki,(hc x (C3 hx)).rows⟩) (λho=>by
  have hq:∃ks:List Int,ks.length<=1073741824/\O4 ks o.pred=0:=by
   have l0:=hkl 0
   have l1:=hkl 1
   unfold J4 at k4
   rcases ho with ho|ho|ho
   ·rw[if_neg (by omega),if_neg (by omega),if_neg (by omega),if_neg (by omega),if_neg (by omega),if_pos ho] at k4
    exact⟨_,by omega,k4⟩
   ·rw[if_neg (by omega),if_neg (by omega),if_neg (by omega),if_neg (by omega),if_neg (by omega),if_neg (by omega),if_pos (.inl ho)] at k4
    exact⟨_,by rw[H8];omega,k4⟩
   ·rw[if_neg (by omega),if_neg (by omega),if_neg (by omega),if_neg (by omega),if_neg (by omega),if_neg (by omega),if_pos (.inr ho)] at k4
    exact⟨_,by rw[H8];omega,k4⟩
  obtain⟨ks,q1,q2⟩:=hq
  funext r
  unfold L9
  rw[(h.pred ho ks q1 q2).2 r]) (λho=>by
  have l0:=hkl 0
  unfold J4 at k4
  rw[if_neg (by omega),if_neg (by omega),if_pos ho] at k4
  rw[hk 0]
  have:=h.xs _ (by omega) k4
  exact⟨this.1,funext this.2⟩)
 refine⟨hn.1,hn.2,?_,?_,C3X h λx hx=>(hc x hx).sz,D7p h λx hx=>⟨(hc x hx).sz,(hc x hx).lg⟩,D9f h λx hx=>(hc x hx).sc⟩
 ·rw[A2N,A2N];exact hev.1
 ·rw[A2N,A2N];exact hev.2
theorem PlD.node{I:List Bg}(hI:InG I){o o':Po}(h:Z4 o o'){ni ni':Bool}{ins:List Pl}{Φ:Pl->Pl}(hb:(Pl.mk o ni ins).bk<=1073741824)(h0:(C2 (D2 I) (.mk o ni ins)).2=0)(hl:N7 (H3 I) (.mk o ni ins)<=2000)(hc:∀x∈ins,PlD I x (Φ x))(hbk:(Pl.mk o' ni' (ins.map Φ)).bk<=(Pl.mk o ni ins).bk) :
  PlD I (.mk o ni ins) (.mk o' ni' (ins.map Φ)):=
 ⟨PlE.node hI h hb h0 hl λx hx=>(hc x hx).toPlE,by
  have:=B1K (l:=ins) (Φ:=Φ) λx hx=>(hc x hx).dp
  rw[F5,F5];omega,hbk⟩
end Go.Proofs
end
section
namespace Go.Proofs
open Go.Bi
mutual
/-- A copy of a plan. -/
def W8:Pl->Pl
 |.mk o _ ins=>.mk (m8 o) true (A6B ins)
def A6B:List Pl->List Pl
 |[]=>[]
 |p::r=>W8 p::A6B r
end
theorem C0C:∀l,A6B l=l.map W8
 |[]=>by simp[A6B]
 |e::r=>by simp[A6B,C0C r]
theorem A8I(o:Po)(ni:Bool)(ins:List Pl):W8 (.mk o ni ins)=.mk (m8 o) true (ins.map W8):=by rw[W8,C0C]
theorem C5d:∀p:Pl,p.bk<=1073741824->Pure Tryz.prog B1a [p.av] (W8 p).av:=by
 refine Pl.ind λo ni ins ih hb=>?_
 have hB:=Pl.bd hb
 have hM:=C5a B1a W8 o ni ins hb (λx hx=>ih x hx (hB.sub x hx))
 rw[A8I]
 obtain⟨p,hp⟩:∃p,p=Pl.mk o ni ins:=⟨_,rfl⟩
 obtain⟨q,hq⟩:∃q,q=Pl.mk (m8 o) true (ins.map W8):=⟨_,rfl⟩
 rw[<- hp,<- hq] at hM ⊢
 clear hp hq ih hB hb
 obtain⟨op,n,dk,dr,xo,xn,xv,xm,xd,dx,dy,da,di,c1,c2⟩:=Pl.cut p
 obtain⟨op',n',dk',dr',xo',xn',xv',xm',xd',dx',dy',da',di',c3,c4⟩:=Pl.cut q
 rw[c2,c4] at hM
 rw[c2,c4]
 clear c1 c2 c3 c4
 have r1:xv.s=xv.s:=rfl
 have r2:xm=xm:=rfl
 have r3:xv'.s=xv'.s:=rfl
 have r4:xm'=xm':=rfl
 refine C8q.go A6 rfl ?_
 repeat' first|refine st ?_|((with_reducible apply A4);conv=>whnf)|refine⟨λ_=>?_,λ_=>?_⟩|fail
 all_goals rfl
theorem C0g(o:Po)(ni:Bool)(ins:List Pl){Φ:Pl->Pl}(h:∀x∈ins,(Φ x).bk<=x.bk):(Pl.mk (m8 o) true (ins.map Φ)).bk<=(Pl.mk o ni ins).bk:=by
 rw[Pl.bk_eq,Pl.bk_eq]
 have h1:=C37 h
 have h2:=C0l (l:=o.xs) λx _=>A00 0 x
 have h3:=A00 0 o.pred
 show D6 (A5 o.ki)+D6 (B7 o.rows)+(B0 0 o.pred).bk+D6 (xL (o.xs.map (B0 0)))+D6 (A5 o.keys)+D6 (I0 o.aggs)+D6 (pL (ins.map Φ))+8<=_
 omega
theorem D5f{I:List Bg}(hI:InG I):∀p:Pl,p.bk<=1073741824->(C2 (D2 I) p).2=0->N7 (H3 I) p<=2000->PlD I p (W8 p):=by
 refine Pl.ind λo ni ins ih hb h0 hl=>?_
 have hB:=Pl.bd hb
 obtain⟨k1,k2,k3,k4,k5,k6⟩:=Z9 h0
 obtain⟨m1,m2⟩:=y8 hl
 have ih':∀x∈ins,PlD I x (W8 x):=λx hx=>ih x hx (hB.sub x hx) (k3 x hx) (m2 x hx)
 rw[A8I]
 exact PlD.node hI (Z4.cp o) hb h0 hl ih' (C0g o ni ins λx hx=>(ih' x hx).bk)
end Go.Proofs
end
section
namespace Go.Proofs
open Go.Bi
abbrev F8(K:List Kw)(a:Pl):Int:=((C4 K a).1.ks.length:Nat)
def J5(K:List Kw):Pl->List Ex->Pl
 |.mk o ni [x],l=>if o.op=3 then J5 K x ((cj o.pred).map (B0 0)++l) else N3 (.mk o ni [x]) l
 |.mk o ni [a,b],l=>
  if o.op=5 then N3 (.mk o true [J5 K a (C6 (F8 K a) 0 (C8 l)),J5 K b ((C6 (F8 K a) 1 (C8 l)).map (B0 (-(F8 K a))))]) (C6 (F8 K a) 2 (C8 l))
  else if o.op=6 then N3 (.mk o true [J5 K a (C6 (F8 K a) 0 (C8 l)),J5 K b []]) (C6 (F8 K a) 1 (C8 l)++C6 (F8 K a) 2 (C8 l))
  else N3 (.mk o ni [a,b]) l
 |p,l=>N3 p l
termination_by p=>SizeOf.sizeOf p
decreasing_by
 all_goals
  simp only[Pl.mk.sizeOf_spec,List.cons.sizeOf_spec,List.nil.sizeOf_spec]
  omega
theorem A4s(K:List Kw){o:Po}{ni:Bool}{x:Pl}(l:List Ex)(h:o.op=3):J5 K (.mk o ni [x]) l=J5 K x ((cj o.pred).map (B0 0)++l):=by rw[J5,if_pos h]
theorem A4t(K:List Kw){o:Po}{ni:Bool}{a b:Pl}(l:List Ex)(h:o.op=5):J5 K (.mk o ni [a,b]) l=N3 (.mk o true [J5 K a (C6 (F8 K a) 0 (C8 l)),J5 K b ((C6 (F8 K a) 1 (C8 l)).map (B0 (-(F8 K a))))]) (C6 (F8 K a) 2 (C8 l)):=by rw[J5,if_pos h]
theorem A4u(K:List Kw){o:Po}{ni:Bool}{a b:Pl}(l:List Ex)(h:o.op=6):J5 K (.mk o ni [a,b]) l=N3 (.mk o true [J5 K a (C6 (F8 K a) 0 (C8 l)),J5 K b []]) (C6 (F8 K a) 1 (C8 l)++C6 (F8 K a) 2 (C8 l)):=by rw[J5,if_neg (by omega),if_pos h]
theorem A7f(K:List Kw){o:Po}{ni:Bool}{ins:List Pl}(l:List Ex)(h:o.op≠3/\o.op≠5/\o.op≠6):J5 K (.mk o ni ins) l=N3 (.mk o ni ins) l:=by
 match ins with
 |[]=>rw[J5]<;>simp
 |[x]=>rw[J5,if_neg h.1]
 |[a,b]=>rw[J5,if_neg h.2.1,if_neg h.2.2]
 |_::_::_::_=>rw[J5]<;>simp
mutual
/-- push. -/
def M9(K:List Kw):Pl->Pl
 |.mk o _ ins=>if o.op=3 then (match A5E K ins with|[x]=>J5 K x ((cj (B0 0 o.pred)).map (B0 0))|l=>.mk (m8 o) true l) else .mk (m8 o) true (A5E K ins)
def A5E(K:List Kw):List Pl->List Pl
 |[]=>[]
 |p::r=>M9 K p::A5E K r
end
theorem B2Q(K:List Kw):∀l,A5E K l=l.map (M9 K)
 |[]=>by simp[A5E]
 |e::r=>by simp[A5E,B2Q K r]
theorem A5D(K:List Kw){o:Po}{ni:Bool}{ins:List Pl}(h:o.op≠3):M9 K (.mk o ni ins)=.mk (m8 o) true (ins.map (M9 K)):=by rw[M9,if_neg h,B2Q]
theorem A5C(K:List Kw){o:Po}{ni:Bool}{x:Pl}(h:o.op=3):M9 K (.mk o ni [x])=J5 K (M9 K x) ((cj (B0 0 o.pred)).map (B0 0)):=by rw[M9,if_pos h,B2Q];rfl
end Go.Proofs
end
section
namespace Go.Proofs
open Go.Bi
theorem E03(n:Int):M5 (M5 n+0)=M5 n:=by
 show IntKind.i64.wrap (IntKind.i64.wrap n+0)=IntKind.i64.wrap n
 rw[IntKind.wrap_i64,IntKind.wrap_i64]
 omega
theorem D9r(k:Int):∀e:Ex,B0 0 (B0 k e)=B0 k e:=by
 refine Ex.ind λop n v nm nl args ih=>?_
 rw[A1N,A1N,V0,show args.map (B0 0 ∘ B0 k)=args.map (B0 k) from P5 λa ha=>ih a ha]
 congr 1
 split
 ·exact E03 _
 ·rfl
theorem B1D(k:Int):∀e:Ex,cj (B0 k e)=(cj e).map (B0 k):=by
 refine Ex.ind λop n v nm nl args ih=>?_
 rw[A1N,A0U,A0U,D8]
 by_cases h2:op=2
 ·have e1:∀m,x9 op m v nm args.length=false:=λm=>decide_eq_false (by omega)
  rw[e1,e1,if_neg Bool.false_ne_true,if_neg Bool.false_ne_true,H5,A1N];rfl
 ·rw[if_neg h2]
  split
  ·rw[List.flatMap_map,List.map_flatMap]
   simp only[List.flatMap_def]
   rw[P5 λa ha=>ih a ha]
  ·rw[H5,A1N,if_neg h2];rfl
structure M6(c:Ex):Prop where
 flat:A2O c
 cp:B0 0 c=c
theorem D6n{k:Int}{c:Ex}(h:A2O c):A2O (B0 k c):=by
 unfold A2O at h ⊢
 rw[B1D,h];rfl
theorem C0N(k:Int){c:Ex}(h:A2O c):M6 (B0 k c):=⟨D6n h,D9r k c⟩
theorem A25(e:Ex):∀c∈(cj e).map (B0 0),M6 c:=λc hc=>by
 obtain⟨x,hx,rfl⟩:=D7.1 hc
 exact C0N 0 (D59 e x hx)
theorem A3F{l:List Ex}(h:∀c∈l,M6 c):l.map (B0 0)=l:=by
 conv=>rhs;rw[<- v8 l]
 exact P5 λc hc=>(h c hc).cp
abbrev C44:Ex:=.mk 1 0 (Y0 true) [] true []
theorem D5l:M6 C44:=⟨rfl,rfl⟩
theorem A6y:C8 []=[C44]:=rfl
theorem A4d{l:List Ex}(h:∀c∈l,M6 c)(hn:l≠[]):C8 l=l:=by
 unfold C8
 rw[A3F h,A2K (λc hc=>(h c hc).flat) hn,A3F h]
theorem D5a{l:List Ex}(h:∀c∈l,M6 c):∀c∈C8 l,M6 c:=by
 by_cases hn:l=[]
 ·subst hn
  rw[A6y]
  intro c hc
  rw[M7] at hc
  subst hc;exact D5l
 ·rw[A4d h hn];exact h
theorem C0A{l:List Ex}(h:∀c∈l,M6 c)(r:B5):(C8 l).all (λc=>L9 c r)=l.all λc=>L9 c r:=by
 by_cases hn:l=[]
 ·subst hn
  rw[A6y];rfl
 ·rw[A4d h hn]
theorem y9{n:Int}{k:Nat}{l:List Ex}{c:Ex}:c∈C6 n k l↔c∈l/\P9 n c=k:=by
 unfold C6
 rw[m0,decide_eq_true_eq]
end Go.Proofs
end
section
namespace Go.Proofs
open Go.Bi
theorem B4b:∀p:Pl,p.bk<=1073741824->Pure Tryz.prog B97 [p.av] (.d (.sl (A5 (D9 p)))):=by
 refine Pl.ind λo ni ins ih hb=>?_
 have hB:=Pl.bd hb
 have hbk:∀i:Nat,((if o.op=1 then [o.n] else [])++(ins.take i).flatMap D9).length<=1073741824:=λi=>by
  have h1:=B32 (.mk o ni ins)
  rw[A2j] at h1
  have h2:((ins.take i).flatMap D9).length<=(ins.flatMap D9).length:=by
   conv=>rhs;rw[<- A45 i ins,List.flatMap_append,H8]
   omega
  rw[H8] at h1 ⊢
  omega
 have hq:=A2j o ni ins
 obtain⟨q,hqq⟩:∃q,q=D9 (.mk o ni ins):=⟨_,rfl⟩
 rw[<- hqq] at hq ⊢
 clear hqq
 obtain⟨xo,xn,xv,xm,xd,hav,_⟩:=Pl.cuto o ni ins
 rw[hav]
 have hdi:A9 (ng ni (pL ins)) (pL ins):=C7
 obtain⟨dk,e1⟩:∃d,d=o.dk:=⟨_,rfl⟩
 obtain⟨dr,e2⟩:∃d,d=o.dr:=⟨_,rfl⟩
 obtain⟨dx,e3⟩:∃d,d=o.dx:=⟨_,rfl⟩
 obtain⟨dy,e4⟩:∃d,d=o.dy:=⟨_,rfl⟩
 obtain⟨da,e5⟩:∃d,d=o.da:=⟨_,rfl⟩
 obtain⟨di,e6⟩:∃d,d=ng ni (pL ins):=⟨_,rfl⟩
 rw[<- e1,<- e2,<- e3,<- e4,<- e5,<- e6]
 rw[<- e6] at hdi
 clear e1 e2 e3 e4 e5 e6 hav
 have l1:=b5 ins
 have m1:=e9 ins
 have g1:=λi p=>@j6 ins i p
 obtain⟨es,hes⟩:∃z,z=pL ins:=⟨_,rfl⟩
 rw[<- hes] at hdi l1 m1 g1
 clear hes
 have hil:=hB.il
 have hsub:=hB.sub
 clear hB hb
 obtain⟨op,hop⟩:∃x,x=o.op:=⟨_,rfl⟩
 obtain⟨n,hn⟩:∃x,x=o.n:=⟨_,rfl⟩
 rw[<- hop,<- hn] at hq ⊢
 have hbk:∀i:Nat,((if op=1 then [n] else [])++(ins.take i).flatMap D9).length<=1073741824:=by rw[hop,hn];exact hbk
 clear hop hn
 obtain⟨F0,hF⟩:∃z,z=if op=1 then [n] else []:=⟨_,rfl⟩
 rw[<- hF] at hq hbk
 by_cases h1:op=1
 ·subst h1
  rw[if_pos rfl] at hF
  subst hF
  refine B4u.go A6 rfl ?_
  repeat' first|refine st ?_|((with_reducible apply A4);conv=>whnf)|refine⟨λ_=>?_,λ_=>?_⟩|fail
  refine K6 A6 B7K B7B (λ(i:Nat)=>[.arr 1 (A5 ([n]++(ins.take i).flatMap D9)).length,.d (eI i)]) (λi=>[.cells [.d (eI 1),.d (eI n),.d dk,.d dr,.d (eI xo),.d (eI xn),.d (eI xv.k),.d (eI xv.n),.d (.str xv.s),.d (.str xm),.d xd,.d dx,.d dy,.d da,.d di],.arr (A5 ([n]++(ins.take i).flatMap D9)) 1 0 false,.arr [[eI n]] 1 0 false]) (λi=>i<=ins.length) (λi=>ins.length-i) 0 rfl rfl rfl rfl (λ_ _=>⟨rfl,rfl⟩) rfl (by omega) ?_
  repeat' first|refine st ?_|((with_reducible apply A4);conv=>whnf)|refine⟨λ_=>?_,λ_=>?_⟩|fail
  intro i i1
  have hb1:=hbk i
  have hb2:=hbk (i+1)
  have hwl:=F9 ([n]++(ins.take i).flatMap D9)
  have hwm:=I1 ([n]++(ins.take i).flatMap D9)
  cases hx:ins[i]? with
  |some p=>
   have hlt:=(B4.1 hx).1
   have hilt:(i:Int)<es.length:=by omega
   have hg:=g1 i p hx
   have hI:=ih p (C3 hx) (hsub p (C3 hx))
   have ht0:(ins.take (i+1)).flatMap D9=(ins.take i).flatMap D9++D9 p:=by rw[L8,hx];simp
   have ht:A5 ([n]++(ins.take (i+1)).flatMap D9)=A5 ([n]++(ins.take i).flatMap D9)++A5 (D9 p):=by rw[ht0];simp[A5]
   rw[ht0] at hb2
   have hsl:=F9 (D9 p)
   have hsm:=I1 (D9 p)
   have hsd:A9 (.sl (A5 (D9 p))) (A5 (D9 p)):=.inr rfl
   obtain⟨A,hA⟩:∃z,z=A5 ([n]++(ins.take i).flatMap D9):=⟨_,rfl⟩
   rw[<- hA] at hwl hwm ht ⊢
   have hb3:A.length+(A5 (D9 p)).length<=1073741824:=by
    rw[hsl,hwl]
    simp only[H8] at hb2 ⊢
    omega
   obtain⟨op',n',dk',dr',xo',xn',xv',xm',xd',dx',dy',da',di',c1,c2⟩:=Pl.cut p
   have hg:es[((i:Nat):Int).toNat]?=some (K1 op' n' dk' dr' xo' xn' xv' xm' xd' dx' dy' da' di'):=by rw[<- c1];exact hg
   rw[c2] at hI
   obtain⟨B,hB⟩:∃z,z=A5 (D9 p):=⟨_,rfl⟩
   rw[<- hB] at hI ht hsm hsd hb3
   obtain⟨sd,hsdd⟩:∃z,z=D.sl B:=⟨_,rfl⟩
   rw[<- hsdd] at hI hsd
   have hbd:(A.length+B.length)*8<=140737488355328/\A.length+B.length<=9223372036854775807:=by omega
   clear hsl hB hA c1 c2 hx g1 ih hbk hb1 hb2 hwl
   subst hsdd
   repeat' first|refine st ?_|((with_reducible apply A4);conv=>whnf)|refine⟨λ_=>?_,λ_=>?_⟩|fail
   exact⟨i+1,by rw[ht];simp,rfl,by rw[ht];simp,by omega,by omega⟩
  |none=>
   have hge:=E9.1 hx
   have hilt:(es.length:Int)<=i:=by omega
   rw[H4 hge] at hwl hwm hb1 ⊢
   rw[hq]
   obtain⟨A,hA⟩:∃z,z=A5 ([n]++ins.flatMap D9):=⟨_,rfl⟩
   rw[<- hA] at hwl hwm ⊢
   clear hx g1 ih hA
   repeat' first|refine st ?_|((with_reducible apply A4);conv=>whnf)|refine⟨λ_=>?_,λ_=>?_⟩|fail
   all_goals rfl
 ·rw[if_neg h1] at hF
  subst hF
  have hq:q=ins.flatMap D9:=hq
  have hbk:∀i:Nat,((ins.take i).flatMap D9).length<=1073741824:=hbk
  refine B4u.go A6 rfl ?_
  repeat' first|refine st ?_|((with_reducible apply A4);conv=>whnf)|refine⟨λ_=>?_,λ_=>?_⟩|fail
  refine K6 A6 B7K B7B (λ(i:Nat)=>[.arr 1 (A5 ((ins.take i).flatMap D9)).length,.d (eI i)]) (λi=>[.cells [.d (eI op),.d (eI n),.d dk,.d dr,.d (eI xo),.d (eI xn),.d (eI xv.k),.d (eI xv.n),.d (.str xv.s),.d (.str xm),.d xd,.d dx,.d dy,.d da,.d di],.arr (A5 ((ins.take i).flatMap D9)) 1 0 false]) (λi=>i<=ins.length) (λi=>ins.length-i) 0 rfl rfl rfl rfl (λ_ _=>⟨rfl,rfl⟩) rfl (by omega) ?_
  repeat' first|refine st ?_|((with_reducible apply A4);conv=>whnf)|refine⟨λ_=>?_,λ_=>?_⟩|fail
  intro i i1
  have hb1:=hbk i
  have hb2:=hbk (i+1)
  have hwl:=F9 ((ins.take i).flatMap D9)
  have hwm:=I1 ((ins.take i).flatMap D9)
  cases hx:ins[i]? with
  |some p=>
   have hlt:=(B4.1 hx).1
   have hilt:(i:Int)<es.length:=by omega
   have hg:=g1 i p hx
   have hI:=ih p (C3 hx) (hsub p (C3 hx))
   have ht0:(ins.take (i+1)).flatMap D9=(ins.take i).flatMap D9++D9 p:=by rw[L8,hx];simp
   have ht:A5 ((ins.take (i+1)).flatMap D9)=A5 ((ins.take i).flatMap D9)++A5 (D9 p):=by rw[ht0];simp[A5]
   rw[ht0] at hb2
   have hsl:=F9 (D9 p)
   have hsm:=I1 (D9 p)
   have hsd:A9 (.sl (A5 (D9 p))) (A5 (D9 p)):=.inr rfl
   obtain⟨A,hA⟩:∃z,z=A5 ((ins.take i).flatMap D9):=⟨_,rfl⟩
   rw[<- hA] at hwl hwm ht ⊢
   have hb3:A.length+(A5 (D9 p)).length<=1073741824:=by
    rw[hsl,hwl]
    simp only[H8] at hb2 ⊢
    omega
   obtain⟨op',n',dk',dr',xo',xn',xv',xm',xd',dx',dy',da',di',c1,c2⟩:=Pl.cut p
   have hg:es[((i:Nat):Int).toNat]?=some (K1 op' n' dk' dr' xo' xn' xv' xm' xd' dx' dy' da' di'):=by rw[<- c1];exact hg
   rw[c2] at hI
   obtain⟨B,hB⟩:∃z,z=A5 (D9 p):=⟨_,rfl⟩
   rw[<- hB] at hI ht hsm hsd hb3
   obtain⟨sd,hsdd⟩:∃z,z=D.sl B:=⟨_,rfl⟩
   rw[<- hsdd] at hI hsd
   have hbd:(A.length+B.length)*8<=140737488355328/\A.length+B.length<=9223372036854775807:=by omega
   clear hsl hB hA c1 c2 hx g1 ih hbk hb1 hb2 hwl
   subst hsdd
   repeat' first|refine st ?_|((with_reducible apply A4);conv=>whnf)|refine⟨λ_=>?_,λ_=>?_⟩|fail
   exact⟨i+1,by rw[ht];simp,rfl,by rw[ht];simp,by omega,by omega⟩
  |none=>
   have hge:=E9.1 hx
   have hilt:(es.length:Int)<=i:=by omega
   rw[H4 hge] at hwl hwm hb1 ⊢
   rw[hq]
   obtain⟨A,hA⟩:∃z,z=A5 (ins.flatMap D9):=⟨_,rfl⟩
   rw[<- hA] at hwl hwm ⊢
   clear hx g1 ih hA
   repeat' first|refine st ?_|((with_reducible apply A4);conv=>whnf)|refine⟨λ_=>?_,λ_=>?_⟩|fail
   all_goals rfl
theorem C5p(l:List B5)(hl:l.length<=4294967296)(hr:∀r∈l,r.length<=4294967296):Pure Tryz.prog B8q [.d (.sl (rD l)),.d (.sl (rD l))] (.d (.bool true)):=by
 have l1:=p9 l
 have m1:=r5 l
 have g1:=λi v=>@A2V l i v
 have hE:∀r∈l,Pure Tryz.prog B0S [.d (.sl (B6 r)),.d (.sl (B6 r))] (.d (.bool true)):=λr h=>by
  have:=A5Y r r (hr r h) (hr r h) _ _ (.inr rfl) (.inr rfl)
  rw[show K5 r r=0 from(A0w.eq r r).2 rfl] at this
  exact this
 obtain⟨es,hes⟩:∃z,z=rD l:=⟨_,rfl⟩
 rw[<- hes] at l1 m1 g1 ⊢
 clear hes
 refine C7g.go A6 rfl ?_
 repeat' first|refine st ?_|((with_reducible apply A4);conv=>whnf)|refine⟨λ_=>?_,λ_=>?_⟩|fail
 refine K6 A6 D0p C98 (λ(i:Nat)=>[.d (eI i)]) (λi=>[]) (λi=>i<=l.length) (λi=>l.length-i) 0 rfl rfl rfl rfl (λ_ _=>⟨rfl,rfl⟩) rfl (by omega) ?_
 repeat' first|refine st ?_|((with_reducible apply A4);conv=>whnf)|refine⟨λ_=>?_,λ_=>?_⟩|fail
 intro i i1
 cases hx:l[i]? with
 |some r=>
  have hlt:=(B4.1 hx).1
  have hilt:(i:Int)<es.length:=by omega
  have hg:es[((i:Nat):Int).toNat]?=some [.sl (B6 r)]:=g1 i r hx
  have hI:=hE r (C3 hx)
  clear hx g1 hE
  repeat' first|refine st ?_|((with_reducible apply A4);conv=>whnf)|refine⟨λ_=>?_,λ_=>?_⟩|fail
  exact⟨i+1,rfl,rfl,rfl,by omega,by omega⟩
 |none=>
  have hge:=E9.1 hx
  have hilt:(es.length:Int)<=i:=by omega
  clear hx hE g1
  repeat' first|refine st ?_|((with_reducible apply A4);conv=>whnf)|refine⟨λ_=>?_,λ_=>?_⟩|fail
  all_goals rfl
theorem C5q(l:List Rw)(hl:l.length<=4294967296)(hr:∀r∈l,r.vs.length<=4294967296)(d d':D)(hd:A9 d (B7 l))(hd':A9 d' (B7 l)):Pure Tryz.prog B8t [.d d,.d d'] (.d (.bool true)):=by
 have h1:=A0p l hl hr d hd
 have h2:=A0p l hl hr d' hd'
 have hvl:(A8 l).length=l.length:=by unfold A8;rw[D8]
 have h3:=C5p (D1 (A8 l)) (by rw[A14 _ _ (D3 _),hvl];exact hl) (λr h=>by
  obtain⟨x,hx,rfl⟩:=D7.1 (A1I _ _ (D3 _) r h)
  exact hr x hx)
 obtain⟨es,hes⟩:∃z,z=rD (D1 (A8 l)):=⟨_,rfl⟩
 rw[<- hes] at h1 h2 h3
 clear hes
 refine C7j.go A6 rfl ?_
 repeat' first|refine st ?_|((with_reducible apply A4);conv=>whnf)|refine⟨λ_=>?_,λ_=>?_⟩|fail
 all_goals rfl
end Go.Proofs
end
section
namespace Go.Proofs
open Go.Bi
def szA(rs:List Int)(ins:List Pl)(i:Nat):Int:=((ins[i]?).map (I3 rs)).getD 0
theorem B3B(rs:List Int)(dr':D)(op n:Int)(dk dr:D)(xo xn:Int)(xv:Vl)(xm:List UInt8)(xd dx dy da di:D)(ins:List Pl)(hil:ins.length<=1073741824)(hdi:A9 di (pL ins))(i:Nat)(hi:i<=1)
  (ih:∀p∈ins,Pure Tryz.prog A6e [p.av,.d dr'] (.d (eI (I3 rs p)))) :
  B9 Tryz.prog B9m [.d (eI i),.ptr 0 0,.ptr 1 0] [.cells [.d (eI op),.d (eI n),.d dk,.d dr,.d (eI xo),.d (eI xn),.d (eI xv.k),.d (eI xv.n),.d (.str xv.s),.d (.str xm),.d xd,.d dx,.d dy,.d da,.d di],.cells [.d dr']]
   (λr os=>r=.d (eI (szA rs ins i))/\os=[.cells [.d (eI op),.d (eI n),.d dk,.d dr,.d (eI xo),.d (eI xn),.d (eI xv.k),.d (eI xv.n),.d (.str xv.s),.d (.str xm),.d xd,.d dx,.d dy,.d da,.d di],.cells [.d dr']]):=by
 have l1:=b5 ins
 have m1:=e9 ins
 have g1:=λi p=>@j6 ins i p
 obtain⟨es,hes⟩:∃z,z=pL ins:=⟨_,rfl⟩
 rw[<- hes] at hdi l1 m1 g1
 clear hes
 obtain⟨q,hq⟩:∃q,q=szA rs ins i:=⟨_,rfl⟩
 rw[<- hq]
 unfold szA at hq
 have r0:xv.k=xv.k:=rfl
 have r1:xv.s=xv.s:=rfl
 have r2:xm=xm:=rfl
 cases hx:ins[i]? with
 |none=>
  rw[hx] at hq
  have hge:=E9.1 hx
  have h3:(es.length:Int)<=i:=by omega
  have hq:q=0:=hq
  subst hq
  clear g1 ih hx
  refine B4A.goX A6 rfl ?_
  repeat' first|refine st ?_|((with_reducible apply A4);conv=>whnf)|refine⟨λ_=>?_,λ_=>?_⟩|fail
  all_goals exact⟨rfl,rfl⟩
 |some p=>
  rw[hx] at hq
  have hlt:=(B4.1 hx).1
  have h3:(i:Int)<es.length:=by omega
  have hq:q=I3 rs p:=hq
  have hP:=ih p (C3 hx)
  rw[<- hq] at hP
  have hg:=g1 i p hx
  obtain⟨op',n',dk',dr0,xo',xn',xv',xm',xd',dx',dy',da',di',c1,c2⟩:=Pl.cut p
  have hg:es[((i:Nat):Int).toNat]?=some (K1 op' n' dk' dr0 xo' xn' xv' xm' xd' dx' dy' da' di'):=by rw[<- c1];exact hg
  rw[c2] at hP
  clear g1 ih hx hq c1 c2
  refine B4A.goX A6 rfl ?_
  repeat' first|refine st ?_|((with_reducible apply A4);conv=>whnf)|refine⟨λ_=>?_,λ_=>?_⟩|fail
  all_goals exact⟨rfl,rfl⟩
theorem C5c(rs:List Int)(hrs:rs.length<=1073741824)(dr':D)(hdr:A9 dr' (A5 rs)):∀p:Pl,p.bk<=1073741824->Pure Tryz.prog A6e [p.av,.d dr'] (.d (eI (I3 rs p))):=by
 refine Pl.ind λo ni ins ih hb=>?_
 have hB:=Pl.bd hb
 obtain⟨xo,xn,xv,xm,xd,hav,_⟩:=Pl.cuto o ni ins
 rw[hav]
 have hdi:A9 (ng ni (pL ins)) (pL ins):=C7
 have hdy:A9 o.dy (A5 o.keys):=C7
 have hdw:A9 o.dr (B7 o.rows):=C7
 have kl:=F9 o.keys
 have wl:=U8 o.rows
 have hk1:=hB.keys
 have hw1:=hB.nr
 have hq:I3 rs (.mk o ni ins)=W3 rs o ((u5 rs ins).getD 0 0) ((u5 rs ins).getD 1 0):=rfl
 rw[A1P,A1P] at hq
 obtain⟨q,hqq⟩:∃q,q=I3 rs (.mk o ni ins):=⟨_,rfl⟩
 rw[<- hqq] at hq ⊢
 clear hqq
 have hil:=hB.il
 have hC0:=λdk dr dx dy da=>B3B rs dr' o.op o.n dk dr xo xn xv xm xd dx dy da (ng ni (pL ins)) ins hil hdi 0 (by omega) λp hp=>ih p hp (hB.sub p hp)
 have hC1:=λdk dr dx dy da=>B3B rs dr' o.op o.n dk dr xo xn xv xm xd dx dy da (ng ni (pL ins)) ins hil hdi 1 (by omega) λp hp=>ih p hp (hB.sub p hp)
 have key:∀i:Nat,0<=szA rs ins i/\szA rs ins i<=Z7:=λi=>by
  unfold szA
  cases hx:ins[i]? with
  |none=>exact⟨A0q 0,show(0:Int)<=Z7 by decide⟩
  |some p=>exact B3d rs p (hB.sub p (C3 hx))
 obtain⟨a1,a2⟩:=key 0
 obtain⟨b1,b2⟩:=key 1
 clear key ih
 have hq:q=W3 rs o (szA rs ins 0) (szA rs ins 1):=hq
 obtain⟨a,ha⟩:∃a,a=szA rs ins 0:=⟨_,rfl⟩
 obtain⟨b,hbb⟩:∃a,a=szA rs ins 1:=⟨_,rfl⟩
 rw[<- ha] at hq a1 a2 hC0
 rw[<- hbb] at hq b1 b2 hC1
 clear ha hbb
 obtain⟨op,n,nk,ki,nr,rows,pred,nx,xs,ny,keys,na,aggs⟩:=o
 dsimp only at hdy hdw kl wl hk1 hw1 hq
 obtain⟨dk,e1⟩:∃d,d=ng nk (A5 ki):=⟨_,rfl⟩
 obtain⟨dr,e2⟩:∃d,d=ng nr (B7 rows):=⟨_,rfl⟩
 obtain⟨dx,e3⟩:∃d,d=ng nx (xL xs):=⟨_,rfl⟩
 obtain⟨dy,e4⟩:∃d,d=ng ny (A5 keys):=⟨_,rfl⟩
 obtain⟨da,e5⟩:∃d,d=ng na (I0 aggs):=⟨_,rfl⟩
 obtain⟨di,e6⟩:∃d,d=ng ni (pL ins):=⟨_,rfl⟩
 show Bi.Pure Tryz.prog A6e [G3 op n (ng nk (A5 ki)) (ng nr (B7 rows)) xo xn xv xm xd (ng nx (xL xs)) (ng ny (A5 keys)) (ng na (I0 aggs)) (ng ni (pL ins)),.d dr'] (.d (eI q))
 rw[<- e6] at hC0 hC1
 have hC0:=hC0 dk dr dx dy da
 have hC1:=hC1 dk dr dx dy da
 dsimp only at hC0 hC1
 rw[<- e1,<- e2,<- e3,<- e4,<- e5,<- e6]
 have hdy:A9 dy (A5 keys):=by rw[e4];exact hdy
 have hdw:A9 dr (B7 rows):=by rw[e2];exact hdw
 clear e1 e2 e3 e4 e5 e6 hav hB hb hdi
 have r1:=F9 rs
 have rm:=I1 rs
 have rg:=λi k=>@N2 rs i k
 obtain⟨rr,hrr⟩:∃z,z=A5 rs:=⟨_,rfl⟩
 rw[<- hrr] at hdr r1 rm rg
 obtain⟨ww,hww⟩:∃z,z=B7 rows:=⟨_,rfl⟩
 rw[<- hww] at hdw wl
 obtain⟨kk,hkk⟩:∃z,z=A5 keys:=⟨_,rfl⟩
 rw[<- hkk] at hdy kl
 have wm:∀e∈ww,e.length=1:=by rw[hww];exact X2 rows
 have km:∀e∈kk,e.length=1:=by rw[hkk];exact I1 keys
 clear hrr hww hkk
 have hT:=B3Q a b a1 b1
 have hT2:=B3Q a (max b 1) a1 (by omega)
 unfold Z7 at a2 b2
 unfold W3 at hq
 dsimp only at hq
 have hcase:(op=1/\0<=n/\n<rr.length/\∃k:Int,rr[n.toNat]?=some [eI k]/\q=max 0 (min k 1099511627776))\/(op=1/\n<0/\q=0)\/(op=1/\0<=n/\(rr.length:Int)<=n/\q=0)\/(op=2/\q=min (ww.length:Int) 1099511627776)\/(op=3/\q=a)\/(op=4/\q=a)\/(op=10/\q=a)\/(op=8/\q=a)\/(op=5/\q=l7 a b)\/(op=6/\q=l7 a (max b 1))\/(op=7/\q=min (a+b) 1099511627776)\/(op=9/\q=min a b)\/(op=11/\(kk.length:Int)=0/\q=1)\/(op=11/\¬(kk.length:Int)=0/\q=a)\/
   ((op≠1/\op≠2/\op≠3/\op≠4/\op≠5/\op≠6/\op≠7/\op≠8/\op≠9/\op≠10/\op≠11)/\q=0):=by
  by_cases o1:op=1
  ·subst o1
   rw[if_pos rfl] at hq
   by_cases h1:0<=n/\n<rs.length
   ·rw[if_pos h1] at hq
    obtain⟨k,hk⟩:∃k,rs[n.toNat]?=some k:=⟨_,F4 (by omega)⟩
    rw[I4,hk] at hq
    have hq:q=min (max k 0) 1099511627776:=hq
    exact .inl ⟨rfl,h1.1,by omega,k,rg _ _ hk,by omega⟩
   ·rw[if_neg h1] at hq
    by_cases h2:n<0
    ·exact .inr (.inl ⟨rfl,h2,hq⟩)
    ·exact .inr (.inr (.inl ⟨rfl,by omega,by omega,hq⟩))
  by_cases o2:op=2
  ·subst o2
   have hq:q=(rows.length:Int):=by simpa using hq
   exact .inr (.inr (.inr (.inl ⟨rfl,by omega⟩)))
  by_cases o3:op=3
  ·subst o3;simp at hq;simp[hq]
  by_cases o4:op=4
  ·subst o4;simp at hq;simp[hq]
  by_cases o10:op=10
  ·subst o10;simp at hq;simp[hq]
  by_cases o8:op=8
  ·subst o8;simp at hq;simp[hq]
  by_cases o5:op=5
  ·subst o5;simp at hq;simp[hq]
  by_cases o6:op=6
  ·subst o6;simp at hq;simp[hq]
  by_cases o7:op=7
  ·subst o7;simp at hq;simp[hq]
  by_cases o9:op=9
  ·subst o9;simp at hq;simp[hq]
  by_cases o11:op=11
  ·subst o11
   simp at hq
   by_cases h0:keys=[]
   ·rw[if_pos h0] at hq
    have hk0:(kk.length:Int)=0:=by rw[kl,h0];rfl
    simp[hq,hk0]
   ·rw[if_neg h0] at hq
    have hk0:¬(kk.length:Int)=0:=by
     have:keys.length≠0:=λh=>h0 (A0J.1 h)
     omega
    have hk1:¬kk=[]:=λh=>hk0 (by rw[h];rfl)
    simp[hq,hk1]
  ·simp[o1,o2,o3,o4,o5,o6,o7,o8,o9,o10,o11] at hq
   simp[o1,o2,o3,o4,o5,o6,o7,o8,o9,o10,o11,hq]
 clear hq rg
 rcases hcase with ⟨rfl,z1,z2,k,z3,rfl⟩|⟨rfl,z1,rfl⟩|⟨rfl,z1,z2,rfl⟩|⟨rfl,rfl⟩|⟨rfl,rfl⟩|⟨rfl,rfl⟩|⟨rfl,rfl⟩|⟨rfl,rfl⟩|⟨rfl,rfl⟩|⟨rfl,rfl⟩|⟨rfl,rfl⟩|⟨rfl,rfl⟩|⟨rfl,z1,rfl⟩|⟨rfl,z1,rfl⟩|⟨⟨o1,o2,o3,o4,o5,o6,o7,o8,o9,o10,o11⟩,rfl⟩
 all_goals refine C8p.go A6 rfl ?_
 all_goals repeat' first|refine st ?_|((with_reducible apply A4);conv=>whnf)|((with_reducible first|apply O8|apply O7);(·first|exact hC0|exact hC1);(try rintro _ _ ⟨rfl,rfl⟩))|((with_reducible apply O9);(·first|exact hC0|exact hC1))|refine⟨λ_=>?_,λ_=>?_⟩|fail
 all_goals rfl
end Go.Proofs
end
