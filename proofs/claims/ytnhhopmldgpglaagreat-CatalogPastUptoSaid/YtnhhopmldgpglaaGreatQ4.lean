/- Texts of this claim, joined. No condition. -/
import Derived.Test.YtnhhopmldgpglaaGreatQ3
import Derived.WalkKit
import Derived.Deep.RegionLaw
import Derived.Lib.SliceRun
import Derived.Lib.ReflectliteSwap
import Derived.Test.YtnhhopmldgpglaaGreatRows
set_option linter.unusedSimpArgs false
set_option linter.unusedVariables false
set_option maxRecDepth 10000
set_option maxHeartbeats 4000000
section
namespace Go.Proofs
open Go.Bi
def S5(l:List Int)(n:Int):List Int:=l.takeWhile (λx=>decide (x<n))++([n]++(l.dropWhile λx=>decide (x<n)).filter λx=>decide (x≠n))
theorem B7D(n:Int):S5 [] n=[n]:=rfl
theorem B7B(a:Int)(l:List Int)(n:Int):S5 (a::l) n=if a<n then a::S5 l n else n::(a::l).filter λx=>decide (x≠n):=by
 unfold S5
 by_cases h:a<n
 ·rw[if_pos h,List.takeWhile_cons_of_pos (by simpa using h),List.dropWhile_cons_of_pos (by simpa using h)];rfl
 ·rw[if_neg h,List.takeWhile_cons_of_neg (by simpa using h),List.dropWhile_cons_of_neg (by simpa using h)];rfl
theorem B7C:∀(l:List Int)(n:Int),(S5 l n).length<=l.length+1
 |[],n=>by simp[B7D]
 |a::l,n=>by
  rw[B7B]
  split
  ·have:=B7C l n
   simp only[N9];omega
  ·have:=j4 (λx=>decide (x≠n)) (a::l)
   simp only[N9] at *;omega
theorem B7E:∀{l:List Int}(n:Int),j0 l->j0 (S5 l n)/\∀x,x∈S5 l n↔x=n\/x∈l
 |[],n,_=>by simp[B7D,j0]
 |a::l,n,h=>by
  have g:=s9.1 h
  rw[B7B]
  split
  ·rename_i hlt
   obtain⟨h1,h2⟩:=B7E n g.2
   constructor
   ·refine s9.2 ⟨λx hx=>?_,h1⟩
    rcases(h2 x).1 hx with rfl|hx
    ·exact hlt
    ·exact g.1 x hx
   ·intro x
    rw[I9,h2,I9]
    constructor
    ·rintro(h|h|h)
     ·exact .inr (.inl h)
     ·exact .inl h
     ·exact .inr (.inr h)
    ·rintro(h|h|h)
     ·exact .inr (.inl h)
     ·exact .inl h
     ·exact .inr (.inr h)
  ·rename_i hge
   constructor
   ·refine s9.2 ⟨λx hx=>?_,h.filter _⟩
    rw[X8] at hx
    have hne:x≠n:=by simpa using hx.2
    rcases I9.1 hx.1 with rfl|hx
    ·omega
    ·have:=g.1 x hx;omega
   ·intro x
    rw[I9,X8]
    by_cases hx:x=n
    ·simp[hx]
    ·simp[hx]
theorem D0N{l:List Int}{n:Int}{i:Nat}(h:∀(j:Nat) y,j<i->l[j]?=some y->y<n)(hi:∀y,l[i]?=some y->¬y<n):S5 l n=l.take i++([n]++(l.drop i).filter λx=>decide (x≠n)):=by
 have h1:∀x∈l.take i,decide (x<n)=true:=by
  intro x hx
  obtain⟨j,hj⟩:=A2K hx
  have hj2:=(B2.1 hj).1
  rw[N6] at hj2
  rw[Y3,if_pos (by omega)] at hj
  exact decide_eq_true (h j x (by omega) hj)
 have h2:(l.drop i).takeWhile (λx=>decide (x<n))=[]/\(l.drop i).dropWhile (λx=>decide (x<n))=l.drop i:=by
  cases hd:l.drop i with
  |nil=>exact⟨rfl,rfl⟩
  |cons y r=>
   have hy:l[i]?=some y:=by
    have:(l.drop i)[0]?=some y:=by rw[hd];rfl
    rwa [A27,A10] at this
   have:=hi y hy
   exact⟨List.takeWhile_cons_of_neg (by simpa using this),List.dropWhile_cons_of_neg (by simpa using this)⟩
 have e:l=l.take i++l.drop i:=(List.take_append_drop i l).symm
 unfold S5
 rw[show l.takeWhile (λx=>decide (x<n))=(l.take i++l.drop i).takeWhile (λx=>decide (x<n)) by rw[<- e],show l.dropWhile (λx=>decide (x<n))=(l.take i++l.drop i).dropWhile (λx=>decide (x<n)) by rw[<- e]]
 rw[List.takeWhile_append_of_pos h1,List.dropWhile_append_of_pos h1,h2.1,h2.2,Z6]
theorem A7l:∀(l out:List Int),(l.foldl S5 out).length<=out.length+l.length
 |[],out=>by simp
 |a::l,out=>by
  have h1:=A7l l (S5 out a)
  have h2:=B7C out a
  rw[A26]
  simp only[N9]
  omega
theorem B7l:∀(l:List Int){out:List Int},j0 out->j0 (l.foldl S5 out)/\∀x,x∈l.foldl S5 out↔x∈out\/x∈l
 |[],out,h=>⟨h,λx=>by simp⟩
 |a::l,out,h=>by
  obtain⟨h1,h2⟩:=B7E a h
  obtain⟨h3,h4⟩:=B7l l h1
  refine⟨h3,λx=>?_⟩
  rw[A26,h4,h2,I9]
  constructor
  ·rintro((h|h)|h)
   ·exact .inr (.inl h)
   ·exact .inl h
   ·exact .inr (.inr h)
  ·rintro(h|h|h)
   ·exact .inl (.inr h)
   ·exact .inl (.inl h)
   ·exact .inr h
mutual
def v6:Ex->List Int
 |.mk op n v nm nl args=>rcL args (own op n)
def rcL:List Ex->List Int->List Int
 |[],out=>out
 |a::l,out=>rcL l ((v6 a).foldl S5 out)
end
def v7(out:List Int)(a:Ex):List Int:=(v6 a).foldl S5 out
theorem B8R:∀(l:List Ex)(out:List Int),rcL l out=l.foldl v7 out
 |[],out=>by simp[rcL]
 |a::l,out=>by rw[rcL,B8R l];rfl
theorem B8P(op n:Int)(v:Vl)(nm:List UInt8)(nl:Bool)(args:List Ex):v6 (.mk op n v nm nl args)=args.foldl v7 (own op n):=by rw[v6,B8R]
theorem B7m:∀(l:List Ex){out:List Int},(∀a∈l,∀x,x∈v6 a↔x∈K9 a)->j0 out->j0 (l.foldl v7 out)/\∀x,x∈l.foldl v7 out↔x∈out\/x∈l.flatMap K9
 |[],out,_,h=>⟨h,λx=>by simp⟩
 |a::l,out,hl,h=>by
  obtain⟨h1,h2⟩:=B7l (v6 a) h
  obtain⟨h3,h4⟩:=B7m l (λb hb=>hl b (J3 _ hb)) h1
  refine⟨h3,λx=>?_⟩
  rw[A26,show v7 out a=(v6 a).foldl S5 out from rfl,h4,h2,hl a (R2 ..),A1B,P0,or_assoc]
theorem D2i(op n:Int):j0 (own op n):=by unfold own;split<;>simp[j0]
theorem B8Q:∀e:Ex,j0 (v6 e)/\∀x,x∈v6 e↔x∈K9 e:=by
 refine Ex.ind λop n v nm nl args ih=>?_
 rw[B8P,A36,<- own]
 obtain⟨h1,h2⟩:=B7m args (λa ha=>(ih a ha).2) (D2i op n)
 exact⟨h1,λx=>by rw[h2,P0]⟩
theorem A7H(e:Ex):v6 e=O0 e:=B5Y (B8Q e).1 (C9n e) λx=>by rw[(B8Q e).2,A7b]
theorem B8D(op n:Int):(own op n).length<=1:=by unfold own;split<;>simp
theorem A9N:∀(l:List Ex)(out:List Int),(l.foldl v7 out).length<=out.length+G6 (xL l)
 |[],out=>by simp
 |a::l,out=>by
  have h1:=A9N l (v7 out a)
  have h2:(v7 out a).length<=out.length+(v6 a).length:=A7l _ _
  have h3:=A3I a
  rw[<- A7H] at h3
  rw[A26]
  simp only[xL,Q4,G6]
  unfold Ex.bk at h3
  unfold xL at h1
  omega
theorem A9m:∀(l:List Ex)(i:Nat),G6 (xL (l.take i))<=G6 (xL l)
 |[],i=>by simp
 |a::l,0=>by simp[xL,G6]
 |a::l,i+1=>by
  have:=A9m l i
  rw[List.take_succ_cons]
  simp only[xL,Q4,G6] at *
  omega
theorem B11(l:List Int)(hl:l.length<=4194304)(n:Int)(d:D)(hd:B5 d (A0 l)):Pure Tryz.prog B4C [.d d,.d (eI n)] (.d (.sl (A0 (S5 l n)))):=by
 refine C2c.go A6 rfl ?_
 have hl1:=B6 l
 repeat' first|refine st ?_|(with_reducible first|apply A5|apply A4)<;>intro _
 refine I8 A6 C56 C40 (λ(i:Nat) (es:List (List D))=>[.arr 0 es.length,.d (eI i)]) (λi es=>[.arr es 1 0 false]) (λi es=>i<=l.length/\es=A0 (l.take i)/\∀(j:Nat) y,j<i->l[j]?=some y->y<n) (λi _=>l.length-i) 0 [] rfl rfl rfl rfl (λ_ _ _=>⟨rfl,rfl⟩) rfl ⟨by omega,rfl,by omega⟩ ?_
 repeat' first|refine st ?_|(with_reducible first|apply A5|apply A4)<;>intro _
 intro i es ⟨h1,h2,h3⟩
 have hes:es.length=i:=by rw[h2,B6,N6];omega
 have hem:∀e∈es,e.length=1:=by
  rw[h2]
  intro e he
  obtain⟨z,_,rfl⟩:=F2.1 he
  rfl
 have key:(∃y,l[i]?=some y/\y<n)\/((∀y,l[i]?=some y->¬y<n)/\((∃y,l[i]?=some y/\¬y<n)\/l.length<=i)):=by
  cases hx:l[i]? with
  |none=>exact .inr ⟨λy h=>(by cases h),.inr (D1.1 hx)⟩
  |some y=>
   by_cases hy:y<n
   ·exact .inl ⟨y,rfl,hy⟩
   ·exact .inr ⟨λz hz=>(by cases hz;exact hy),.inl ⟨y,rfl,hy⟩⟩
 have rest:(∀y,l[i]?=some y->¬y<n)->∀k:Nat,i<=k->A0 (l.take i)++([[eI n]]++A0 ((((l.take k).drop i)).filter λx=>decide (x≠n)))=A0 (l.take i++([n]++((l.take k).drop i).filter λx=>decide (x≠n))):=λ_ k _=>by simp[A0]
 rcases key with ⟨y,hy,hlt⟩|⟨hno,hx⟩
 ·have hil:=(B2.1 hy).1
  have hg:=J9 hy
  repeat' first|refine st ?_|(with_reducible first|apply A5|apply A4)<;>intro _
  refine⟨i+1,es++[[eI y]],rfl,rfl,rfl,by omega,by omega,?_,λj z hj hz=>?_⟩
  ·rw[h2,P5,hy];simp[A0]
  ·rcases Nat.lt_succ_iff_lt_or_eq.1 hj with h|rfl
   ·exact h3 j z h hz
   ·rw[hy] at hz;cases hz;exact hlt
 ·have hat:=D0N h3 hno
  rcases hx with ⟨y,hy,hge⟩|hx
  ·have hg:=J9 hy
   have hil:=(B2.1 hy).1
   repeat' first|refine st ?_|(with_reducible first|apply A5|apply A4)<;>intro _
   refine I8 A6 B4e B3Z (λ(k:Nat) (es:List (List D))=>[.arr 0 es.length,.d (eI k)]) (λk es=>[.arr es 1 0 false,.arr [[eI n]] 1 0 false]) (λk es2=>i<=k/\k<=l.length/\es2.length<=k+1/\es2=A0 (l.take i++([n]++((l.take k).drop i).filter λx=>decide (x≠n)))) (λk _=>l.length-k) i (es++[[eI n]]) rfl rfl rfl rfl (λ_ _ _=>⟨rfl,rfl⟩) rfl ⟨by omega,by omega,by simp;omega,by rw[h2,R1 (by rw[N6];omega)];simp[A0]⟩ ?_
   repeat' first|refine st ?_|(with_reducible first|apply A5|apply A4)<;>intro _
   intro k es2 ⟨q1,q2,q4,q3⟩
   cases hz:l[k]? with
   |none=>
    have hge2:=D1.1 hz
    rw[L0 hge2,<- hat] at q3
    repeat' first|refine st ?_|(with_reducible first|apply A5|apply A4)<;>intro _
    rw[q3];rfl
   |some z=>
    have hkl:=(B2.1 hz).1
    have hg2:=J9 hz
    have hdr:(l.take (k+1)).drop i=(l.take k).drop i++[z]:=by
     rw[P5,hz,List.drop_append_of_le_length (by rw[N6];omega)];rfl
    repeat' first|refine st ?_|(with_reducible first|apply A5|apply A4)<;>intro _
    ·rename_i he
     refine⟨k+1,es2,rfl,rfl,rfl,by omega,by omega,by omega,by omega,?_⟩
     rw[q3,hdr,A1A]
     simp[he]
    ·rename_i he
     refine⟨k+1,es2++[[eI z]],rfl,rfl,rfl,by omega,by omega,by omega,by simp;omega,?_⟩
     rw[q3,hdr,A1A]
     simp[he,A0]
  ·repeat' first|refine st ?_|(with_reducible first|apply A5|apply A4)<;>intro _
   refine I8 A6 B4e B3Z (λ(k:Nat) (es:List (List D))=>[.arr 0 es.length,.d (eI k)]) (λk es=>[.arr es 1 0 false,.arr [[eI n]] 1 0 false]) (λk es2=>k=i/\es2=es++[[eI n]]) (λk _=>l.length-k) i (es++[[eI n]]) rfl rfl rfl rfl (λ_ _ _=>⟨rfl,rfl⟩) rfl ⟨rfl,rfl⟩ ?_
   repeat' first|refine st ?_|(with_reducible first|apply A5|apply A4)<;>intro _
   intro k es2 ⟨q1,q3⟩
   subst q1
   repeat' first|refine st ?_|(with_reducible first|apply A5|apply A4)<;>intro _
   rw[q3,h2,hat,R1 hx]
   simp[A0]
   rfl
theorem C11:∀e:Ex,e.bk<=1048576->Pure Tryz.prog B4x [e.av] (.d (.sl (A0 (v6 e)))):=by
 refine Ex.ind λop n v nm nl args ih hb=>?_
 obtain⟨b1,b2,b3,b4⟩:=Ex.bk_bounds hb
 have hbm:=Ex.bk_mk op n v nm nl args
 rw[B8P,Ex.av_mk]
 have h1:=I3 args
 have hm:=N5 args
 obtain⟨da,hda⟩:∃d,d=ng nl (xL args):=⟨_,rfl⟩
 have hsd:B5 da (xL args):=by rw[hda];exact i5
 rw[<- hda]
 have r0:v.k=v.k:=rfl
 have r1:v.s=v.s:=rfl
 have r2:nm=nm:=rfl
 refine C24.go A6 rfl ?_
 have hown:(op=2/\own op n=[n])\/(op≠2/\own op n=[]):=by
  unfold own
  by_cases h:op=2
  ·rw[if_pos h];exact .inl ⟨h,rfl⟩
  ·rw[if_neg h];exact .inr ⟨h,rfl⟩
 rcases hown with ⟨h2,ho⟩|⟨h2,ho⟩
 ·repeat' first|refine st ?_|(with_reducible first|apply A5|apply A4)<;>intro _
  refine A2D 3 rfl rfl rfl ?_
  repeat' first|refine st ?_|(with_reducible first|apply A5|apply A4)<;>intro _
  refine I8 A6 B4a B3V (λ(i:Nat) (out:List Int)=>[.d (.sl (A0 out)),.d (eI i)]) (λi out=>[.cells [.d (eI op),.d (eI n),.d (eI v.k),.d (eI v.n),.d (.str v.s),.d (.str nm),.d da],.arr [[eI n]] 1 1 false,.arr [[eI n]] 1 0 false]) (λi out=>i<=args.length/\out=(args.take i).foldl v7 (own op n)) (λi _=>args.length-i) 0 (own op n) rfl rfl (by rw[ho];rfl) rfl (λ_ _ _=>⟨rfl,rfl⟩) rfl ⟨S9 _,rfl⟩ ?_
  repeat' first|refine st ?_|(with_reducible first|apply A5|apply A4)<;>intro _
  intro i out ⟨h4,h5⟩
  cases hx:args[i]? with
  |none=>
   have hge:=D1.1 hx
   rw[L0 hge] at h5
   repeat' first|refine st ?_|(with_reducible first|apply A5|apply A4)<;>intro _
   rw[h5]
  |some x=>
   have hlt:=(B2.1 hx).1
   have hgx:=m4 hx
   have hxm:=C2 hx
   have hxb:E7 x.ds<=G6 (xL args):=A2f (F2.2 ⟨x,hxm,rfl⟩)
   have hi:=ih x hxm (b4 x hxm)
   have hs:=A7m v7 (own op n) args i x hx
   rw[<- h5] at hs
   have hol:out.length<=1+G6 (xL args):=by
    have q1:=A9N (args.take i) (own op n)
    have q2:=B8D op n
    have q3:G6 (xL (args.take i))<=G6 (xL args):=A9m args i
    rw[h5];omega
   have hrl:=A3I x
   rw[<- A7H] at hrl
   obtain⟨ys,hys⟩:∃y,y=v6 x:=⟨_,rfl⟩
   have hss:v7 out x=ys.foldl S5 out:=by rw[hys];rfl
   rw[hss] at hs
   rw[<- hys] at hi hrl
   unfold Ex.bk at hrl
   have hyl:=B6 ys
   obtain⟨o1,n1,v1,m1,l1,a1⟩:=x
   rw[Ex.ds_mk] at hgx
   rw[Ex.av_mk] at hi
   repeat' first|refine st ?_|((with_reducible first|apply A8|apply A7);(·exact hi))|(with_reducible first|apply A5|apply A4)<;>intro _
   refine I8 A6 B49 B3U (λ(k:Nat) (o2:List Int)=>[.d (.sl (A0 o2)),.d (eI k)]) (λk o2=>[.cells [.d (eI op),.d (eI n),.d (eI v.k),.d (eI v.n),.d (.str v.s),.d (.str nm),.d da],.arr [[eI n]] 1 1 false,.arr [[eI n]] 1 0 false]) (λk o2=>k<=ys.length/\o2=(ys.take k).foldl S5 out) (λk _=>ys.length-k) 0 out rfl rfl rfl rfl (λ_ _ _=>⟨rfl,rfl⟩) rfl ⟨S9 _,rfl⟩ ?_
   repeat' first|refine st ?_|(with_reducible first|apply A5|apply A4)<;>intro _
   intro k o2 ⟨q1,q2⟩
   cases hy:ys[k]? with
   |none=>
    have hge:=D1.1 hy
    rw[L0 hge,<- hs] at q2
    repeat' first|refine st ?_|(with_reducible first|apply A5|apply A4)<;>intro _
    exact⟨i+1,o2,rfl,rfl,rfl,by omega,by omega,q2⟩
   |some y=>
    have hklt:=(B2.1 hy).1
    have hgy:=J9 hy
    have hs2:=A7m S5 out ys k y hy
    rw[<- q2] at hs2
    have hI:=B11 o2 (by
     have q3:=A7l (ys.take k) out
     rw[N6] at q3
     rw[q2];omega) y (.sl (A0 o2)) L4
    repeat' first|refine st ?_|((with_reducible first|apply A8|apply A7);(·exact hI))|(with_reducible first|apply A5|apply A4)<;>intro _
    exact⟨k+1,S5 o2 y,rfl,rfl,rfl,by omega,by omega,hs2.symm⟩
 ·repeat' first|refine st ?_|(with_reducible first|apply A5|apply A4)<;>intro _
  refine A2D 3 rfl rfl rfl ?_
  repeat' first|refine st ?_|(with_reducible first|apply A5|apply A4)<;>intro _
  refine I8 A6 B4a B3V (λ(i:Nat) (out:List Int)=>[.d (.sl (A0 out)),.d (eI i)]) (λi out=>[.cells [.d (eI op),.d (eI n),.d (eI v.k),.d (eI v.n),.d (.str v.s),.d (.str nm),.d da],.arr [] 1 0 false]) (λi out=>i<=args.length/\out=(args.take i).foldl v7 (own op n)) (λi _=>args.length-i) 0 (own op n) rfl rfl (by rw[ho];rfl) rfl (λ_ _ _=>⟨rfl,rfl⟩) rfl ⟨S9 _,rfl⟩ ?_
  repeat' first|refine st ?_|(with_reducible first|apply A5|apply A4)<;>intro _
  intro i out ⟨h4,h5⟩
  cases hx:args[i]? with
  |none=>
   have hge:=D1.1 hx
   rw[L0 hge] at h5
   repeat' first|refine st ?_|(with_reducible first|apply A5|apply A4)<;>intro _
   rw[h5]
  |some x=>
   have hlt:=(B2.1 hx).1
   have hgx:=m4 hx
   have hxm:=C2 hx
   have hxb:E7 x.ds<=G6 (xL args):=A2f (F2.2 ⟨x,hxm,rfl⟩)
   have hi:=ih x hxm (b4 x hxm)
   have hs:=A7m v7 (own op n) args i x hx
   rw[<- h5] at hs
   have hol:out.length<=1+G6 (xL args):=by
    have q1:=A9N (args.take i) (own op n)
    have q2:=B8D op n
    have q3:G6 (xL (args.take i))<=G6 (xL args):=A9m args i
    rw[h5];omega
   have hrl:=A3I x
   rw[<- A7H] at hrl
   obtain⟨ys,hys⟩:∃y,y=v6 x:=⟨_,rfl⟩
   have hss:v7 out x=ys.foldl S5 out:=by rw[hys];rfl
   rw[hss] at hs
   rw[<- hys] at hi hrl
   unfold Ex.bk at hrl
   have hyl:=B6 ys
   obtain⟨o1,n1,v1,m1,l1,a1⟩:=x
   rw[Ex.ds_mk] at hgx
   rw[Ex.av_mk] at hi
   repeat' first|refine st ?_|((with_reducible first|apply A8|apply A7);(·exact hi))|(with_reducible first|apply A5|apply A4)<;>intro _
   refine I8 A6 B49 B3U (λ(k:Nat) (o2:List Int)=>[.d (.sl (A0 o2)),.d (eI k)]) (λk o2=>[.cells [.d (eI op),.d (eI n),.d (eI v.k),.d (eI v.n),.d (.str v.s),.d (.str nm),.d da],.arr [] 1 0 false]) (λk o2=>k<=ys.length/\o2=(ys.take k).foldl S5 out) (λk _=>ys.length-k) 0 out rfl rfl rfl rfl (λ_ _ _=>⟨rfl,rfl⟩) rfl ⟨S9 _,rfl⟩ ?_
   repeat' first|refine st ?_|(with_reducible first|apply A5|apply A4)<;>intro _
   intro k o2 ⟨q1,q2⟩
   cases hy:ys[k]? with
   |none=>
    have hge:=D1.1 hy
    rw[L0 hge,<- hs] at q2
    repeat' first|refine st ?_|(with_reducible first|apply A5|apply A4)<;>intro _
    exact⟨i+1,o2,rfl,rfl,rfl,by omega,by omega,q2⟩
   |some y=>
    have hklt:=(B2.1 hy).1
    have hgy:=J9 hy
    have hs2:=A7m S5 out ys k y hy
    rw[<- q2] at hs2
    have hI:=B11 o2 (by
     have q3:=A7l (ys.take k) out
     rw[N6] at q3
     rw[q2];omega) y (.sl (A0 o2)) L4
    repeat' first|refine st ?_|((with_reducible first|apply A8|apply A7);(·exact hI))|(with_reducible first|apply A5|apply A4)<;>intro _
    exact⟨k+1,S5 o2 y,rfl,rfl,rfl,by omega,by omega,hs2.symm⟩
end Go.Proofs
end
section
namespace Go.Proofs
open Go.Bi
theorem A8i(l:List Int)(hl:l.length<=1048576)(d:D)(hd:B5 d (A0 l))(c:Int):Pure Tryz.prog B4L [.d d,.d (eI c)] (.d (.bool (decide (c∈l)))):=by
 refine C2q.go A6 rfl ?_
 have h1:=B6 l
 have hm:=D2 l
 obtain⟨q,hq⟩:∃q,q=decide (c∈l):=⟨_,rfl⟩
 rw[<- hq]
 repeat' first|refine st ?_|(with_reducible first|apply A5|apply A4)<;>intro _
 refine F3 A6 C5j C4d (λ(i:Nat)=>[.d (eI i)]) (λi=>[]) (λi=>i<=l.length/\q=decide (c∈l.drop i)) (λi=>l.length-i) 0 rfl rfl rfl rfl (λ_ _=>⟨rfl,rfl⟩) rfl ⟨by omega,hq⟩ ?_
 repeat' first|refine st ?_|(with_reducible first|apply A5|apply A4)<;>intro _
 intro i ⟨h4,h5⟩
 cases hx:l[i]? with
 |some x=>
  obtain⟨hlt,he⟩:=B2.1 hx
  have hg:=J9 hx
  rw[V5 hlt,he] at h5
  by_cases hc:x=c
  ·subst hc
   rw[show q=true by rw[h5];simp]
   repeat' first|refine st ?_|(with_reducible first|apply A5|apply A4)<;>intro _
   all_goals rfl
  ·repeat' first|refine st ?_|(with_reducible first|apply A5|apply A4)<;>intro _
   exact⟨i+1,rfl,rfl,rfl,by omega,by omega,by rw[h5];simp[Ne.symm hc]⟩
 |none=>
  have hge:=D1.1 hx
  rw[A4H hge] at h5
  rw[h5]
  repeat' first|refine st ?_|(with_reducible first|apply A5|apply A4)<;>intro _
  all_goals rfl
theorem C1n(c:Ch):Pure Tryz.prog A8J [c.av] (if c.k=1 then chD c.k [] [] c.co.nm c.co.k c.co.nl c.df.k c.df.n c.df.s else if c.k=3 then chD c.k c.nm c.to [] 0 false 0 0 [] else chD c.k c.nm [] [] 0 false 0 0 []):=by
 obtain⟨k,nm,to,⟨cn,ck,cl⟩,⟨vk,vn,vs⟩⟩:=c
 dsimp only
 by_cases h1:k=1
 ·rw[if_pos h1]
  refine A8u.go A6 rfl ?_
  repeat' first|refine st ?_|(with_reducible first|apply A5|apply A4)<;>intro _
  all_goals rfl
 ·rw[if_neg h1]
  by_cases h3:k=3
  ·rw[if_pos h3]
   refine A8u.go A6 rfl ?_
   repeat' first|refine st ?_|(with_reducible first|apply A5|apply A4)<;>intro _
   all_goals rfl
  ·rw[if_neg h3]
   refine A8u.go A6 rfl ?_
   repeat' first|refine st ?_|(with_reducible first|apply A5|apply A4)<;>intro _
   all_goals rfl
end Go.Proofs
end
section
namespace Go.Proofs
open Go.Bi
theorem C1o(t:Tb)(dc dk df dx:D)(h:N4 t dc dk df dx)(c:Int):Pure Tryz.prog A8K [eT t.nm dc dk df dx,.d (eI c)] (.d (.bool (decide (c∈Z5 t)))):=by
 obtain⟨q,hq⟩:∃q,q=decide (c∈Z5 t):=⟨_,rfl⟩
 rw[<- hq]
 unfold Z5 A21 A6k at hq
 obtain⟨n,l,ks,fs,xs⟩:=t
 obtain⟨hn,hl,hls,hk,hfl,hfc,hxs,hxb,hc,hdk,hdf,hdx⟩:=h
 dsimp only at *
 have hK:=A8i ks hk dk hdk c
 have f1:=c8 fs
 have f2:=y7 fs
 have x1:=I3 xs
 have x2:=N5 xs
 have fg0:=λi f=>A0i (l:=fs) (i:=i) (f:=f)
 obtain⟨FS,hFS⟩:∃es,es=F8 fs:=⟨_,rfl⟩
 rw[<- hFS] at f1 f2 hdf fg0
 have xg0:=m5 (args:=xs)
 obtain⟨XS,hXS⟩:∃es,es=xL xs:=⟨_,rfl⟩
 rw[<- hXS] at x1 x2 hdx xg0
 refine C2t.go A6 rfl ?_
 by_cases hin:c∈ks
 ·rw[decide_eq_true hin] at hK
  rw[show q=true by rw[hq];simp[hin]]
  repeat' first|refine st ?_|((with_reducible first|apply A8|apply A7);(·exact hK))|(with_reducible first|apply A5|apply A4)<;>intro _
  all_goals rfl
 rw[decide_eq_false hin] at hK
 have hq:q=decide (c∈fs.flatMap Fo.cs\/c∈xs.flatMap O0):=by rw[hq];simp[hin]
 repeat' first|refine st ?_|((with_reducible first|apply A8|apply A7);(·exact hK))|(with_reducible first|apply A5|apply A4)<;>intro _
 refine F3 A6 C5l C4f (λ(i:Nat)=>[.d (eI i)]) (λi=>[.cells [.d (.str n),.d dc,.d dk,.d df,.d dx]]) (λi=>i<=fs.length/\q=decide (c∈(fs.drop i).flatMap Fo.cs\/c∈xs.flatMap O0)) (λi=>fs.length-i) 0 rfl rfl rfl rfl (λ_ _=>⟨rfl,rfl⟩) rfl ⟨by omega,hq⟩ ?_
 repeat' first|refine st ?_|(with_reducible first|apply A5|apply A4)<;>intro _
 intro i ⟨h4,h5⟩
 cases hx:fs[i]? with
 |some f=>
  obtain⟨hlt,he⟩:=B2.1 hx
  have hg:=fg0 _ _ hx
  obtain⟨hf,hft⟩:=hfc f (C2 hx)
  have hF:=A8i f.cs hf f.d f.sld c
  rw[V5 hlt,he] at h5
  obtain⟨nl,cs,tb⟩:=f
  obtain⟨fd,hfd⟩:∃fd,fd=Fo.d ⟨nl,cs,tb⟩:=⟨_,rfl⟩
  have hg:FS[i]?=some [Fo.d ⟨nl,cs,tb⟩,.str tb]:=hg
  rw[<- hfd] at hg hF
  dsimp only at hF h5
  by_cases hcin:c∈cs
  ·rw[decide_eq_true hcin] at hF
   rw[show q=true by rw[h5];simp[hcin]]
   repeat' first|refine st ?_|((with_reducible first|apply A8|apply A7);(·exact hF))|(with_reducible first|apply A5|apply A4)<;>intro _
   all_goals rfl
  ·rw[decide_eq_false hcin] at hF
   have h5:q=decide (c∈(fs.drop (i+1)).flatMap Fo.cs\/c∈xs.flatMap O0):=by rw[h5,A1B];simp only[P0,hcin,false_or]
   repeat' first|refine st ?_|((with_reducible first|apply A8|apply A7);(·exact hF))|(with_reducible first|apply A5|apply A4)<;>intro _
   exact⟨i+1,rfl,rfl,rfl,by omega,by omega,h5⟩
 |none=>
  have hge:=D1.1 hx
  rw[A4H hge] at h5
  have h5:q=decide (c∈xs.flatMap O0):=by rw[h5];simp
  repeat' first|refine st ?_|(with_reducible first|apply A5|apply A4)<;>intro _
  refine F3 A6 C5m C4g (λ(i:Nat)=>[.d (eI i)]) (λi=>[.cells [.d (.str n),.d dc,.d dk,.d df,.d dx]]) (λi=>i<=xs.length/\q=decide (c∈(xs.drop i).flatMap O0)) (λi=>xs.length-i) 0 rfl rfl rfl rfl (λ_ _=>⟨rfl,rfl⟩) rfl ⟨by omega,h5⟩ ?_
  repeat' first|refine st ?_|(with_reducible first|apply A5|apply A4)<;>intro _
  intro j ⟨h6,h7⟩
  cases hy:xs[j]? with
  |some e=>
   obtain⟨hlt,he⟩:=B2.1 hy
   have hb:=hxb e (C2 hy)
   have hCo:=C11 e hb
   rw[A7H] at hCo
   have hF:=A8i (O0 e) (N7 (A3I e) hb) (.sl (A0 (O0 e))) L4 c
   rw[V5 hlt,he] at h7
   obtain⟨ce,hce⟩:∃d,d=O0 e:=⟨_,rfl⟩
   rw[A1B] at h7
   rw[<- hce] at hCo hF h7
   obtain⟨o1,n1,v1,m1,l1,a1⟩:=e
   have hg:=xg0 _ _ _ _ _ _ _ hy
   rw[Ex.av_mk] at hCo
   by_cases hcin:c∈ce
   ·rw[decide_eq_true hcin] at hF
    rw[show q=true by rw[h7];simp[hcin]]
    repeat' first|refine st ?_|((with_reducible first|apply A8|apply A7);(·first|exact hCo|exact hF))|(with_reducible first|apply A5|apply A4)<;>intro _
    all_goals rfl
   ·rw[decide_eq_false hcin] at hF
    have h7:q=decide (c∈(xs.drop (j+1)).flatMap O0):=by rw[h7];simp only[P0,hcin,false_or]
    repeat' first|refine st ?_|((with_reducible first|apply A8|apply A7);(·first|exact hCo|exact hF))|(with_reducible first|apply A5|apply A4)<;>intro _
    exact⟨j+1,rfl,rfl,rfl,by omega,by omega,h7⟩
  |none=>
   have hge:=D1.1 hy
   rw[A4H hge] at h7
   rw[show q=false by rw[h7];simp]
   repeat' first|refine st ?_|(with_reducible first|apply A5|apply A4)<;>intro _
   all_goals rfl
theorem C1l(t:Tb)(dc dk df dx:D)(h:N4 t dc dk df dx)(c:Ch)(hcn:c.co.nm.length<=1048576)(hcv:c.df.s.length<=1048576):Pure Tryz.prog A8I [eT t.nm dc dk df dx,c.av] (.d (eI (A0c t c))):=by
 have hF:=A4t t.nm t.cs h.hl dc dk df dx h.dc c.co.nm
 have hN:=A4u c.co.nm hcn
 have hV:=B1a c.df (by omega)
 have hl:=G5 t.cs
 have hdc:=h.dc
 obtain⟨q,hq⟩:∃q,q=A0c t c:=⟨_,rfl⟩
 rw[<- hq]
 unfold A0c at hq
 obtain⟨f,hf⟩:∃f,f=E8 c.co.nm t.cs:=⟨_,rfl⟩
 obtain⟨nb,hnb⟩:∃f,f=L2 c.co.nm:=⟨_,rfl⟩
 obtain⟨vb,hvb⟩:∃f,f=A0u c.df:=⟨_,rfl⟩
 rw[<- hf] at hF hq
 rw[<- hnb] at hN hq
 rw[<- hvb] at hV hq
 obtain⟨k,nm,to,⟨cn,ck,cl⟩,⟨vk,vn,vs⟩⟩:=c
 obtain⟨es,hes⟩:∃es,es=B3 t.cs:=⟨_,rfl⟩
 rw[<- hes] at hl hdc
 dsimp only at hq hF hN hV
 obtain⟨m0,hm0⟩:∃m,m=t.cs.length:=⟨_,rfl⟩
 rw[<- hm0] at hq hl
 clear hf hnb hvb hes hm0
 refine C2p.go A6 rfl ?_
 repeat' first|refine st ?_|((with_reducible first|apply A8|apply A7);(·first|exact hF|exact hN|exact hV))|(with_reducible first|apply A5|apply A4)<;>intro _
 all_goals (rw[hq];clear hq hF hN hV)
 all_goals repeat' split
 all_goals first|rfl|(exfalso;omega)|(exfalso;simp_all;done)|(exfalso;simp_all;omega)
end Go.Proofs
end
section
namespace Go.Proofs
open Go.Bi
theorem A8h(t:Tb)(dc dk df dx:D)(h:N4 t dc dk df dx)(c:Ch)(hc:J1 c):Pure Tryz.prog A8H [eT t.nm dc dk df dx,c.av] (.d (eI (E5 t c))):=by
 have hT:=A6w t dc dk df dx h
 have hS:=C1n c
 have hA:=C1l t dc dk df dx h c hc.cn hc.vs
 have hF:=A4t t.nm t.cs h.hl dc dk df dx h.dc c.nm
 have hG:=A4t t.nm t.cs h.hl dc dk df dx h.dc c.to
 have hN:=A4u c.to hc.to
 have hU:=C1o t dc dk df dx h (E8 c.nm t.cs)
 have hl:=G5 t.cs
 have hme:=I1 t.cs
 have hdc:=h.dc
 obtain⟨q,hq⟩:∃q,q=E5 t c:=⟨_,rfl⟩
 rw[<- hq]
 unfold E5 A2V at hq
 have hfs:=λhh=>A9I (nm:=c.nm) (l:=t.cs) hh
 obtain⟨n0,hn0⟩:∃n:Nat,n=(Z5 t).count (E8 c.nm t.cs):=⟨_,rfl⟩
 rw[<- hn0] at hq
 rw[show decide (E8 c.nm t.cs∈Z5 t)=decide (0<n0) from decide_eq_decide.2 (by rw[hn0];exact List.count_pos_iff.symm)] at hU
 obtain⟨f,hf⟩:∃f,f=E8 c.nm t.cs:=⟨_,rfl⟩
 rw[<- hf] at hF hq hfs hU
 obtain⟨g,hg⟩:∃f,f=E8 c.to t.cs:=⟨_,rfl⟩
 rw[<- hg] at hG hq
 obtain⟨nb,hnb⟩:∃f,f=L2 c.to:=⟨_,rfl⟩
 rw[<- hnb] at hN hq
 obtain⟨ae,hae⟩:∃f,f=A0c t c:=⟨_,rfl⟩
 rw[<- hae] at hA hq
 obtain⟨te,hte⟩:∃f,f=J0 t:=⟨_,rfl⟩
 rw[<- hte] at hT hq
 have hix:0<=f->∃s k b,(B3 t.cs)[f.toNat]?=some [.str s,eI k,.bool b]/\A1M t f=k/\f<t.cs.length:=by
  intro hh
  obtain⟨d,h1,h2⟩:=hfs hh
  have h3:=(B2.1 h1).1
  exact⟨d.nm,d.k,d.nl,L5 h1,by unfold A1M;rw[h1],by omega⟩
 obtain⟨k,nm,to,⟨cn,ck,cl⟩,⟨vk,vn,vs⟩⟩:=c
 obtain⟨es,hes⟩:∃es,es=B3 t.cs:=⟨_,rfl⟩
 rw[<- hes] at hl hdc hix hme
 obtain⟨ka,hka⟩:∃x,x=A1M t f:=⟨_,rfl⟩
 rw[<- hka] at hq hix
 obtain⟨m0,hm0⟩:∃m,m=t.cs.length:=⟨_,rfl⟩
 rw[<- hm0] at hl hix
 simp only[A2y] at hq
 dsimp only at hq hF hG hN hS hA hT hU
 clear hfs hf hg hnb hae hte hes hka hm0 hc h hn0
 have r1:nm=nm:=rfl
 have r2:to=to:=rfl
 have r3:cn=cn:=rfl
 have r4:vs=vs:=rfl
 by_cases h1:k=1
 ·rw[if_pos h1] at hS
  refine A6B.go A6 rfl ?_
  repeat' first|refine st ?_|((with_reducible first|apply A8|apply A7);(·first|exact hF|exact hN|exact hG|exact hS|exact hA|exact hT|exact hU))|(with_reducible first|apply A5|apply A4)<;>intro _
  all_goals (rw[hq];clear hq hF hN hG hS hA hT hU hix)
  all_goals (try dsimp only at *)
  all_goals first|(simp_all;done)|(simp_all;(try intros);(repeat' split)<;>omega)
 rw[if_neg h1] at hS
 by_cases h3:k=3
 ·rw[if_pos h3] at hS
  refine A6B.go A6 rfl ?_
  repeat' first|refine st ?_|((with_reducible first|apply A8|apply A7);(·first|exact hF|exact hN|exact hG|exact hS|exact hA|exact hT|exact hU))|(with_reducible first|apply A5|apply A4)<;>intro _
  all_goals (rw[hq];clear hq hF hN hG hS hA hT hU hix)
  all_goals (try dsimp only at *)
  all_goals first|(simp_all;done)|(simp_all;(try intros);(repeat' split)<;>omega)
 rw[if_neg h3] at hS
 by_cases hf0:f<0
 ·clear hix
  refine A6B.go A6 rfl ?_
  repeat' first|refine st ?_|((with_reducible first|apply A8|apply A7);(·first|exact hF|exact hN|exact hG|exact hS|exact hA|exact hT|exact hU))|(with_reducible first|apply A5|apply A4)<;>intro _
  all_goals (rw[hq];clear hq hF hN hG hS hA hT hU)
  all_goals (try dsimp only at *)
  all_goals first|(simp_all;done)|(simp_all;(try intros);(repeat' split)<;>omega)
 ·obtain⟨s,kk,b,hgt,rfl,hlt⟩:=hix (by omega)
  have hf1:0<=f:=by omega
  refine A6B.go A6 rfl ?_
  repeat' first|refine st ?_|((with_reducible first|apply A8|apply A7);(·first|exact hF|exact hN|exact hG|exact hS|exact hA|exact hT|exact hU))|(with_reducible first|apply A5|apply A4)<;>intro _
  all_goals (rw[hq];clear hq hF hN hG hS hA hT hU hix)
  all_goals (try dsimp only at *)
  all_goals first|(simp_all;done)|(simp_all;(try intros);(repeat' split)<;>omega)
end Go.Proofs
end
section
namespace Go.Proofs
open Go.RowKit Go.Lib
theorem D3j:Bi.tz Tryz.prog 30=some [.str [],.int .i64 0,.bool false]:=by kernel_rfl
theorem B9v:Tryz.prog.underlying 23=some (.slice 30):=by kernel_rfl
theorem D0K:(Tryz.prog.info? 30).map (λi=>i.size)=some 3:=by kernel_rfl
theorem D3S(z:Array Value)(h:0<z.size):(Builtin.zeroCells z 1).toList=z.toList:=by
 apply A3p
 intro i
 simp only[Builtin.zeroCells,Nat.one_mul,A6r,Array.getElem?_map,Array.getElem?_range]
 by_cases hi:i<z.size
 ·simp[hi,Nat.mod_eq_of_lt hi]
 ·simp[hi]
theorem D2L(w:World)(ty:TypeId)(z:Value)(hv:∀w,(zeroValue 30).run Tryz.prog w=.ok z w)(hz:z.cells.size=3)(h1:∀u∈z.cells.toList,u.oneCell'=true)(b o c:Nat)(hc:∀j,j<3->(w.cell? ⟨b,o+j,none⟩).isSome=true)(hf:∀j,j<3->w.frozen? ⟨b,o+j,none⟩=false) :
  (Builtin.clear_ #[23] ty #[.slice (some ⟨b,o,none⟩) 1 c]).run Tryz.prog w=.ok (.tuple #[]) (w.setCells b o z.cells.toList):=by
 have hzc:=D3S z.cells (by omega)
 have hst:=run_storeCells_cells (P:=Tryz.prog) b o z.cells.toList 0 w (by simpa[hz] using hc) (by simpa[hz] using hf) h1
 simp only[A10] at hst
 simp[Builtin.clear_,run_underlying B9v,hv,hzc,hst]
set_option maxHeartbeats 4000000 in
set_option maxRecDepth 1000000 in
theorem C9H(z:Value)(hv:∀w,(zeroValue 30).run Tryz.prog w=.ok z w)(hz:z.cells.size=3)(hz1:∀u∈z.cells.toList,u.oneCell'=true)(blk n cap i:Nat)(ca:Array Value)(w:World)(hi:i<n)(hl:n<=cap)(hm:cap<=9223372036854775807)(hsz:ca.size=cap*3)
  (hc:∀k,w.cell? ⟨blk,k,none⟩=ca[k]?) (hf:∀k,k<ca.size->w.frozen? ⟨blk,k,none⟩=false) (hone:∀k u,k<n*3->ca[k]?=some u->u.oneCell'=true) :
  Calls Tryz.prog 154 #[.slice (some ⟨blk,0,none⟩) n cap,.int .i64 i,.int .i64 ((i:Int)+1)] w λe w'=>e=.returned (.slice (some ⟨blk,0,none⟩) (n-1) cap)/\
   w'=(w.drew.setCells blk (0+i*3) ((ca.toList.drop ((i+1)*3)).take ((n-(i+1))*3))).setCells blk ((i+(n-(i+1)))*3) z.cells.toList:=by
 obtain⟨i0,hi0,hz1'⟩:=H6.1 D0K
 obtain⟨news,hnews⟩:∃news,news=(ca.toList.drop ((i+1)*3)).take ((n-(i+1))*3):=⟨_,rfl⟩
 have hlen:news.length=(n-(i+1))*3:=by rw[hnews];simp;omega
 have hget:∀t,t<(n-(i+1))*3->news[t]?=ca[(i+1)*3+t]?:=by
  intro t ht
  rw[hnews,Y3,if_pos ht,A27,A6r]
 obtain⟨A,hA,hsrc⟩:∃A:Addr,(if cap=i+1 then some (⟨blk,0,none⟩:Addr) else some ⟨blk,(i+1)*3,none⟩)=some A/\Hid (∀t u,news[t]?=some u->w.drew.cell? (A.add t)=some u):=by
  by_cases h:cap=i+1
  ·refine⟨⟨blk,0,none⟩,by simp[h],λt u hu=>?_⟩
   have h0:news.length=0:=by rw[hlen];omega
   rw[A28.1 h0] at hu
   simp at hu
  ·refine⟨⟨blk,(i+1)*3,none⟩,by simp[h],λt u hu=>?_⟩
   have ht:t<(n-(i+1))*3:=by
    have:=(B2.1 hu).1
    rwa [hlen] at this
   rw[hget t ht] at hu
   rw[Addr.add_lit]
   exact(hc _).trans hu
 have s1:Hid (news.length=(n-(i+1))*3):=hlen
 have s2:Hid (∀u∈news,u.oneCell'=true):=by
  intro u hu
  obtain⟨t,ht⟩:=A1E.1 hu
  have htl:t<(n-(i+1))*3:=by
   have:=(B2.1 ht).1
   rwa [hlen] at this
  rw[hget t htl] at ht
  exact hone _ u (by omega) ht
 have s3:Hid (∀t,t<news.length->(w.drew.cell? ⟨blk,0+i*3+t,none⟩).isSome=true/\w.drew.frozen? ⟨blk,0+i*3+t,none⟩=false):=by
  intro t ht
  rw[hlen] at ht
  have hk:0+i*3+t<ca.size:=by omega
  refine⟨?_,hf _ hk⟩
  show(w.cell? _).isSome=true
  rw[hc,K5 hk];rfl
 obtain⟨W1,hW1⟩:∃W1,W1=w.drew.setCells blk (0+i*3) news:=⟨_,rfl⟩
 have hcl:∀ty,(Builtin.clear_ #[23] ty #[.slice (some ⟨blk,(i+(n-(i+1)))*3,none⟩) (n-(i+(n-(i+1)))) (cap-(i+(n-(i+1))))]).run Tryz.prog W1=.ok (.tuple #[]) (W1.setCells blk ((i+(n-(i+1)))*3) z.cells.toList):=λty=>by
  rw[show n-(i+(n-(i+1)))=1 by omega]
  refine D2L W1 ty z hv hz hz1 blk _ _ (λj hj=>?_) (λj hj=>?_)
  ·rw[hW1]
   have hk:(i+(n-(i+1)))*3+j<ca.size:=by omega
   refine isSome_setCells blk _ _ _ _ ?_
   show(w.cell? _).isSome=true
   rw[hc,K5 hk];rfl
  ·rw[hW1,World.frozen?_setCells]
   exact hf _ (by omega)
 rw[<- hnews]
 obtain⟨zs,hzs⟩:∃zs,zs=z.cells.toList:=⟨_,rfl⟩
 rw[<- hzs] at hcl ⊢
 clear hzs hz1 hz hv
 have hW:Hid (W1=w.drew.setCells blk (0+i*3) news):=hW1
 have hic:i<=cap:=by omega
 have hjc:i+1<=cap:=by omega
 have hp0:(0:Int)<=(i:Int)+1:=by omega
 have hp1:(i:Int)+1<=(n:Int):=by omega
 have hp2:((i:Int)+1).toNat=i+1:=by omega
 have hne:¬((i:Int)=(i:Int)+1):=by omega
 clear hW1 hc hf hget hnews hlen hone
 go_enter Tryz.func154,Tryz.ntmps154
 go_wp2_with fail
 go_region_law (refine step_append_room rfl (.tmp 22) (.tmp 25) 23 rfl 30 i0 3 B9v hi0 hz1' blk 0 i cap (by simp[Act.eval,Act.put]) A (n-(i+1)) (cap-(i+1)) news (by simp[Act.eval,Act.put]) s1.out hsrc.out s2.out (by omega) s3.out ?_;rw[<- hW.out])
 go_wp2
 go_ret
 exact⟨by rw[show n-1=i+(n-(i+1)) by omega];rfl,by rw[hW.out]⟩
end Go.Proofs
end
section
namespace Go.Bi
open Go
theorem A9U(b:Nat):∀(vs:List Value)(o:Nat)(w:World)(ca:Array Value)(t:TypeId),w.heap[b]?=some (.cells ca t (0,0))->
  ∃ca',(w.setCells b o vs).heap[b]?=some (.cells ca' t (0,0))/\ca'.size=ca.size/\(∀k,ca'[k]?=if o<=k/\k<o+vs.length/\k<ca.size then vs[k-o]? else ca[k]?)/\
   (∀b',b'≠b->(w.setCells b o vs).heap[b']?=w.heap[b']?)/\(w.setCells b o vs).os=w.os/\(w.setCells b o vs).tape=w.tape/\(w.setCells b o vs).output=w.output/\(w.setCells b o vs).heap.size=w.heap.size
 |[],o,w,ca,t,h=>⟨ca,h,rfl,λk=>by rw[if_neg (by simp;omega)],λ_ _=>rfl,rfl,rfl,rfl,rfl⟩
 |v::vs,o,w,ca,t,h=>by
  have h1:(w.setCell ⟨b,o,none⟩ v).heap[b]?=some (.cells (ca.setIfInBounds o v) t (0,0)):=by
   simp[World.setCell,A4j,h]
  obtain⟨ca',a1,a2,a3,a4,a5,a6,a7,a8⟩:=A9U b vs (o+1) (w.setCell ⟨b,o,none⟩ v) _ t h1
  refine⟨ca',a1,by rw[a2];simp,λk=>?_,λb' hb=>?_,a5,a6,a7,by rw[World.setCells,a8];simp[World.setCell]⟩
  ·rw[a3 k]
   simp only[Array.size_setIfInBounds,N9]
   by_cases hk:k=o
   ·subst hk
    rw[if_neg (by omega)]
    by_cases hs:k<ca.size
    ·rw[if_pos (by omega),Nat.sub_self,Array.getElem?_setIfInBounds_self_of_lt hs];rfl
    ·rw[if_neg (by omega),Array.getElem?_eq_none (by simp;omega),Array.getElem?_eq_none (by omega)]
   ·rw[A0y (λe=>hk e.symm)]
    by_cases hc:o+1<=k/\k<o+1+vs.length/\k<ca.size
    ·rw[if_pos hc,if_pos (by omega),show k-o=(k-(o+1))+1 by omega,A0W]
    ·rw[if_neg hc,if_neg (by omega)]
  ·rw[World.setCells,a4 b' hb]
   simp[World.setCell,A4j,Ne.symm hb]
section
variable {P:Program}{M:C5}{G:Gh}{os:List AO}{w w':World}
theorem D2I(he:C3 M G os w){id sz:Nat}{es es':List (List D)}(ho:os[id]?=some (.arr es sz 0 false))(hlen:es'.length=es.length)(hsz:∀e∈es',e.length=sz)(hos:w'.os=w.os)(htp:w'.tape=w.tape)(hout:w'.output=w.output)(hs:w'.heap.size=w.heap.size)
  (hoth:∀b,b≠G.blk id->w'.heap[b]?=w.heap[b]?) (hca:∀ca t,w.heap[G.blk id]?=some (.cells ca t (0,0))->∃ca',w'.heap[G.blk id]?=some (.cells ca' t (0,0))/\ca'.size=ca.size/\∀(i j:Nat) e x,es'[i]?=some e->e[j]?=some x->∃u,ca'[i*sz+j]?=some u/\Rd M x u) :
  C3 M G (os.set id (.arr es' sz 0 false)) w'/\E3 M G os w M G (os.set id (.arr es' sz 0 false)) w':=by
 obtain⟨h1,h2,h3,h4,h5⟩:=he.obj id _ ho
 obtain⟨ca,t,h6,h7,h8,h9,h10,h11⟩:=h5 rfl
 obtain⟨ca',k1,k2,k3⟩:=hca ca t h6
 have hlt:=(B2.1 ho).1
 have hno:∀a v,M a=some v->a.block=G.blk id->False:=λa v ha hb=>by
  obtain⟨es',sz',frz',nl',h12,h13⟩:=he.sep id a v (E6.arr ho) ha hb
  rw[ho] at h12
  cases h12
  omega
 have hk:M5 G G id (os.set id (.arr es' sz 0 false)) (.arr es sz 0 false):=⟨es',0,false,by simp[hlt],by omega,λ_=>⟨rfl,rfl,rfl⟩⟩
 have hsu:=l8 he (w':=w') (M':=M) ho rfl hos htp hout hs hoth (λ_ _ h=>h) (λ_ _ h=>.inl h) hk
 refine⟨u5 he ho rfl hos htp hout hs hoth (λ_ _ h=>h) (λ_ _ h=>.inl h) hk (λ_ _=>rfl) (λa v ha hb=>(hno a v ha hb).elim) (λa v ha hb=>(hno a v ha hb).elim) ?_,hsu⟩
 exact⟨h1,hsz,S9 _,λh=>(by cases h),λ_=>⟨ca',t,k1,by rw[k2];exact h7,by omega,h9,k3,λo ho=>by omega⟩⟩
end
end Go.Bi
end
section
namespace Go.Proofs
open Go.Bi
def M3:List D:=[.str [],.int .i64 0,.bool false]
theorem D0k{α:Type}(l:List α)(i:Nat)(hi:i<l.length)(r:Nat):(l.eraseIdx i)[r]?=if r<i then l[r]? else l[r+1]?:=by
 rw[List.getElem?_eraseIdx]
theorem A4x(es:List (List D))(hm:∀e∈es,e.length=3)(i:Nat)(hi:i<es.length){os:List AO}{id:Nat}(ho:os[id]?=some (.arr es 3 0 false)) :
  B4 Tryz.prog C68 [.arr id es.length,.d (eI i),.d (eI ((i:Int)+1))] os (λr os'=>r=.d (.sl (es.eraseIdx i))/\os'=os.set id (.arr (es.eraseIdx i++[M3]) 3 (es.length-1) false)):=by
 refine⟨⟨_,Tryz.func154,rfl,by decide⟩,λM G w vs hE hl hv=>?_⟩
 obtain⟨v0,v1,v2,rfl⟩:∃v0 v1 v2,vs=#[v0,v1,v2]:=by
  obtain⟨l⟩:=vs
  match l,hl with
  |[x,y,z],_=>exact⟨x,y,z,rfl⟩
 have hv0:=hv 0 _ v0 rfl rfl
 have hv1:Rd M (eI i) v1:=hv 1 _ v1 rfl rfl
 have hv2:Rd M (eI ((i:Int)+1)) v2:=hv 2 _ v2 rfl rfl
 cases hv1
 cases hv2
 obtain⟨h0,es0,sz0,frz0,nl0,h1,h2,h3⟩:=hv0
 rw[ho] at h1
 cases h1
 have hv:=h3 rfl
 subst hv
 unfold Gh.slv
 rw[if_neg (by decide)]
 obtain⟨z,hz1,hz2,hz3⟩:=A1s (M:=M) D3j
 have hzs:z.cells.size=3:=hz2
 have hzone:∀u∈z.cells.toList,u.oneCell'=true:=by
  intro u hu
  obtain⟨j,hj⟩:=A1E.1 hu
  have hjl:j<3:=by have:=(B2.1 hj).1;simpa[hzs] using this
  have hr:=hz3 j ([D.str [],.int .i64 0,.bool false][j]) u (C9 (by simpa using hjl)) (by simpa using hj)
  exact Rd.oneCell hr
 obtain⟨k1,k2,k3,k4,k5⟩:=hE.obj id _ ho
 obtain⟨ca,t,h6,h7,h8,h9,h10,h11⟩:=k5 rfl
 have hcell:∀k,w.cell? ⟨G.blk id,k,none⟩=ca[k]?:=λk=>by simp[World.cell?,h6]
 have hfr:∀k,k<ca.size->w.frozen? ⟨G.blk id,k,none⟩=false:=λk _=>by simp[World.frozen?,h6]
 have hone:∀k u,k<es.length*3->ca[k]?=some u->u.oneCell'=true:=by
  intro k u hk hu
  have hr:k / 3<es.length:=by omega
  have he:es[k / 3]?=some es[k / 3]:=C9 hr
  have hlen:=hm _ (C2 he)
  have hx:es[k / 3][k % 3]?=some es[k / 3][k % 3]:=C9 (by omega)
  obtain⟨u',hu',hrd⟩:=h10 _ _ _ _ he hx
  rw[show k / 3*3+k % 3=k by omega,hu] at hu'
  cases hu'
  exact Rd.oneCell hrd
 refine(C9H z hz1 hzs hzone (G.blk id) es.length (G.cap id) i ca w hi h8 (by unfold maxLen at h9;omega) h7 hcell hfr hone).mono ?_
 rintro e w' ⟨rfl,rfl⟩
 obtain⟨news,hnews⟩:∃news,news=(ca.toList.drop ((i+1)*3)).take ((es.length-(i+1))*3):=⟨_,rfl⟩
 have hnl:news.length=(es.length-(i+1))*3:=by rw[hnews];simp;omega
 have hget:∀t,t<(es.length-(i+1))*3->news[t]?=ca[(i+1)*3+t]?:=by
  intro t ht
  rw[hnews,Y3,if_pos ht,A27,A6r]
 rw[<- hnews]
 have hd:w.drew.heap[G.blk id]?=some (.cells ca t (0,0)):=h6
 obtain⟨ca1,a1,a2,a3,a4,a5,a6,a7,a8⟩:=A9U (G.blk id) news (0+i*3) w.drew ca t hd
 obtain⟨ca2,b1,b2,b3,b4,b5,b6,b7,b8⟩:=A9U (G.blk id) z.cells.toList ((i+(es.length-(i+1)))*3) _ ca1 t a1
 have hel:(es.eraseIdx i).length=es.length-1:=by rw[List.length_eraseIdx,if_pos hi]
 obtain⟨e1,s1⟩:=D2I (w':=(w.drew.setCells (G.blk id) (0+i*3) news).setCells (G.blk id) ((i+(es.length-(i+1)))*3) z.cells.toList) hE.drew (id:=id) (sz:=3) (es':=es.eraseIdx i++[M3]) ho (by rw[Q3,hel,List.length_singleton];omega) (λe he=>by
   rcases P0.1 he with he|he
   ·exact hm e (A8w he)
   ·cases j5.1 he;rfl) (by rw[b5,a5]) (by rw[b6,a6]) (by rw[b7,a7]) (by rw[b8,a8]) (λb hb=>by rw[b4 b hb,a4 b hb]) (λca0 t0 hh=>by
   rw[hd] at hh
   cases hh
   refine⟨ca2,b1,by rw[b2,a2],λr j e x hr hj=>?_⟩
   have hrl:=(B2.1 hr).1
   rw[Q3,hel,List.length_singleton] at hrl
   have hjl:j<3:=by
    have h:=(B2.1 hj).1
    rcases P0.1 (C2 hr) with he|he
    ·rwa [hm e (A8w he)] at h
    ·cases j5.1 he;exact h
   rw[b3,a2]
   have hzl:z.cells.toList.length=3:=by simpa using hzs
   rw[hzl]
   by_cases hlast:r=es.length-1
   ·rw[if_pos (by omega)]
    rw[R6 (by omega),hel,show r-(es.length-1)=0 by omega] at hr
    cases hr
    rw[show r*3+j-(i+(es.length-(i+1)))*3=j by omega]
    have hju:z.cells[j]?=some z.cells[j]:=K5 (by omega)
    exact⟨z.cells[j],by rw[A6r];exact hju,hz3 j x _ hj hju⟩
   ·rw[if_neg (by omega),a3,hnl]
    rw[M6 (by omega),D0k es i hi] at hr
    by_cases hri:r<i
    ·rw[if_pos hri] at hr
     rw[if_neg (by omega)]
     exact h10 r j e x hr hj
    ·rw[if_neg hri] at hr
     rw[if_pos (by omega),hget _ (by omega),show(i+1)*3+(r*3+j-(0+i*3))=(r+1)*3+j by omega]
     exact h10 (r+1) j e x hr hj)
 have ho2:(os.set id (.arr (es.eraseIdx i++[M3]) 3 0 false))[id]?=some (.arr (es.eraseIdx i++[M3]) 3 0 false):=U4 ho
 obtain⟨e2,s2,r2⟩:=B7p e1 (id:=id) (m:=es.length-1) ho2 (by rw[Q3,hel];omega)
 rw[List.set_set] at e2 s2
 refine⟨_,rfl,_,G,.d (.sl (es.eraseIdx i)),_,e2,((A2w ..).trans s1).trans s2,?_,rfl,rfl⟩
 have ht:(es.eraseIdx i++[M3]).take (es.length-1)=es.eraseIdx i:=by rw[<- hel,List.take_left]
 rw[ht] at r2
 exact r2
end Go.Proofs
end
section
namespace Go.Bi
open Go
theorem A6q{P:Program}{n nb:Nat}{cd:IC}{N:Sl->List AO->Prop}{E0:Nat->Sl->List AO->Prop}{R:Sl->List AO->Prop}{L:Sl}{os:List AO}(ts:List Nat)(vs:List AV)(σ:List Nat)(os2:List AO)(h1:Q9 L ts=vs.map (mA (sg σ)))(hlv:vs.length=ts.length)(hn:σ.Nodup)
  (hσ:σ.take nb=List.range nb) (ho:σ.map (λs=>os[s]?)=os2.map (λo=>some (mO (sg σ) o))) (hid:(os2.take nb).map (mO (sg σ))=os2.take nb)
  (hb:vs.all (λv=>v.bndB os2.length)=true) (hb3:os2.all (λo=>o.bndB os2.length)=true) (k:j6 P n nb cd N E0 R (O5 ts vs) os2):j6 P n nb cd N E0 R L os:=by
 have hw:=D3x (n:=n) (nb:=nb) (ks:=[]) (ws:=[]) σ h1 rfl hlv hn hσ ho hid hb rfl hb3
 rw[show O5 ts vs++O5 [] []=O5 ts vs by show O5 ts vs++[]=_;rw[Z6]] at hw
 refine⟨λcode hc c M G w a hR=>?_⟩
 obtain⟨M',G',hR'⟩:=hw c M G w a hR
 exact k.h code hc c M' G' w a hR'
end Go.Bi
namespace Go.Proofs
open Go.Bi
def A9:D->Bool
 |.nil=>true
 |_=>false
theorem H5(l:List (List D))(hl:l.length<=1048577)(hm:∀e∈l,e.length=1)(d:D)(hd:B5 d l):B4 Tryz.prog W5 [.d d] [] (λr os=>r=.arr 0 l.length/\os=[.arr l 1 0 (A9 d)]):=by
 rcases hd with ⟨rfl,rfl⟩|rfl
 ·refine B4.own_nil 1 (by decide) ?_
  refine A6D.go A6 rfl ?_
  repeat' first|refine st ?_|((with_reducible apply D3);conv=>whnf)|(with_reducible first|apply A5|apply A4)<;>intro _
 ·refine A6D.goO A6 rfl ?_
  have h0:([]:List (List D)).length=0:=rfl
  have h00:(([]:List (List D))++l).length=l.length:=rfl
  have hb:(([]:List (List D)).length+l.length)*8<=140737488355328/\([]:List (List D)).length+l.length<=9223372036854775807:=by rw[h0];omega
  repeat' first|refine st ?_|((with_reducible apply D3);conv=>whnf)|(with_reducible first|apply A5|apply A4)<;>intro _
  all_goals (refine⟨rfl,?_⟩;cases l<;>rfl)
theorem V3(l:List (List D))(hl:l.length<=1048577)(hm:∀e∈l,e.length=3)(d:D)(hd:B5 d l):B4 Tryz.prog A2O [.d d] [] (λr os=>r=.arr 0 l.length/\os=[.arr l 3 0 (A9 d)]):=by
 rcases hd with ⟨rfl,rfl⟩|rfl
 ·refine B4.own_nil 3 (by decide) ?_
  refine B1C.go A6 rfl ?_
  repeat' first|refine st ?_|((with_reducible apply D3);conv=>whnf)|(with_reducible first|apply A5|apply A4)<;>intro _
 ·refine B1C.goO A6 rfl ?_
  have h0:([]:List (List D)).length=0:=rfl
  have h00:(([]:List (List D))++l).length=l.length:=rfl
  have hb:(([]:List (List D)).length+l.length)*32<=140737488355328/\([]:List (List D)).length+l.length<=9223372036854775807:=by rw[h0];omega
  repeat' first|refine st ?_|((with_reducible apply D3);conv=>whnf)|(with_reducible first|apply A5|apply A4)<;>intro _
  all_goals (refine⟨rfl,?_⟩;cases l<;>rfl)
structure Fi where
 d:D
 es:List (List D)
 nl:Bool
 tb:List UInt8
def Fi.ok(f:Fi):Prop:=B4 Tryz.prog W5 [.d f.d] [] (λr os=>r=.arr 0 f.es.length/\os=[.arr f.es 1 0 f.nl])
def R4(l:List Fi):List (List D):=l.map λf=>[f.d,.str f.tb]
def A37:Nat->List Fi->List (List AV)
 |_,[]=>[]
 |k,f::fs=>[.arr k f.es.length,.d (.str f.tb)]::A37 (k+1) fs
def A9V(fs:List Fi):List AO:=fs.map λf=>.arr f.es 1 0 f.nl
def oB(nm:List UInt8)(lc lk lf lx:Nat):List AV:=[.d (.str nm),.arr 2 lc,.arr 3 lk,.rs 5 lf,.arr 6 lx]
def b9(tab out:List AV)(nm:List UInt8)(C K:List (List D))(cn kn:Bool)(fs:List Fi)(A:List (List D))(an:Bool):List AO:=
 [.cells tab,.cells out,.arr C 3 0 cn,.arr K 1 0 kn,.cells (oB nm C.length K.length fs.length A.length),.rarr (A37 7 fs) 2 fs.isEmpty,.arr A 7 0 an]++A9V fs
end Go.Proofs
end
section
namespace Go.Proofs
open Go.Bi
theorem A4o(nm:List UInt8)(dc dk df dx:D)(Cs Ks:List (List D))(cn kn:Bool)(hC:B4 Tryz.prog A2O [.d dc] [] (λr os=>r=.arr 0 Cs.length/\os=[.arr Cs 3 0 cn]))(hK:B4 Tryz.prog W5 [.d dk] [] (λr os=>r=.arr 0 Ks.length/\os=[.arr Ks 1 0 kn]))
  (f0 f1 f2:Fi) (hf0:f0.ok) (hf1:f1.ok) (hf2:f2.ok) (hd:df=.sl (R4 [f0,f1,f2])) (l:List Ex) (hb:∀x∈l,x.bk<=1048576) (hl:l.length<=1048576) (hdx:B5 dx (xL l)) :
  B4 Tryz.prog A1I [eT nm dc dk df dx] [] (λr os=>r=.agg (oB nm Cs.length Ks.length 3 (xL (l.map (B8 0))).length)/\os=b9 [.d (.str nm),.d dc,.d dk,.d df,.d dx] (oB nm Cs.length Ks.length 3 (xL (l.map (B8 0))).length) nm Cs Ks cn kn [f0,f1,f2] (xL (l.map (B8 0))) (xL (l.map (B8 0))).isEmpty):=by
 have h1:=I3 l
 have hm:=N5 l
 have hg0:=m5 (args:=l)
 obtain⟨R,hR⟩:∃R,R=xL (l.map (B8 0)):=⟨_,rfl⟩
 rw[<- hR]
 obtain⟨es,hes⟩:∃es,es=xL l:=⟨_,rfl⟩
 rw[<- hes] at h1 hm hdx hg0
 subst hd
 obtain⟨fd0,fe0,fn0,ft0⟩:=f0
 have hf0:B4 Tryz.prog W5 [.d fd0] [] (λr os=>r=.arr 0 fe0.length/\os=[.arr fe0 1 0 fn0]):=hf0
 obtain⟨fd1,fe1,fn1,ft1⟩:=f1
 have hf1:B4 Tryz.prog W5 [.d fd1] [] (λr os=>r=.arr 0 fe1.length/\os=[.arr fe1 1 0 fn1]):=hf1
 obtain⟨fd2,fe2,fn2,ft2⟩:=f2
 have hf2:B4 Tryz.prog W5 [.d fd2] [] (λr os=>r=.arr 0 fe2.length/\os=[.arr fe2 1 0 fn2]):=hf2
 rw[show R4 [⟨fd0,fe0,fn0,ft0⟩,⟨fd1,fe1,fn1,ft1⟩,⟨fd2,fe2,fn2,ft2⟩]=[[fd0,.str ft0],[fd1,.str ft1],[fd2,.str ft2]] from rfl]
 refine A4G.goO A6 rfl ?_
 repeat' first|refine st ?_|((with_reducible apply V8);(·first|exact hC|exact hK|exact hf0|exact hf1|exact hf2))|(with_reducible first|apply A5|apply A4)<;>intro _
 refine A6p 4 3 2 rfl rfl rfl ?_
 refine A6o 4 4 7 rfl rfl rfl ?_
 refine A1z 4 ?_
 refine P4 A6 ?_
 repeat' first|refine st ?_|((with_reducible apply V8);(·first|exact hC|exact hK|exact hf0|exact hf1|exact hf2))|(with_reducible first|apply A5|apply A4)<;>intro _
 refine P4 A6 ?_
 repeat' first|refine st ?_|((with_reducible apply V8);(·first|exact hC|exact hK|exact hf0|exact hf1|exact hf2))|(with_reducible first|apply A5|apply A4)<;>intro _
 refine P4 A6 ?_
 repeat' first|refine st ?_|((with_reducible apply V8);(·first|exact hC|exact hK|exact hf0|exact hf1|exact hf2))|(with_reducible first|apply A5|apply A4)<;>intro _
 refine P4 A6 ?_
 repeat' first|refine st ?_|((with_reducible apply V8);(·first|exact hC|exact hK|exact hf0|exact hf1|exact hf2))|(with_reducible first|apply A5|apply A4)<;>intro _
 refine A6q [2,3,37,38,39] [.ptr 1 0,.ptr 4 0,.d dx,.d (.int .i64 es.length),.d (eI 0)] [0,1,2,3,4,5,6,8,11,14] (b9 [.d (.str nm),.d dc,.d dk,.d (.sl [[fd0,.str ft0],[fd1,.str ft1],[fd2,.str ft2]]),.d dx] [.d (.str []),.d .nil,.d .nil,.d .nil,.d .nil] nm Cs Ks cn kn [⟨fd0,fe0,fn0,ft0⟩,⟨fd1,fe1,fn1,ft1⟩,⟨fd2,fe2,fn2,ft2⟩] [] true) rfl rfl (by decide) rfl rfl rfl rfl rfl ?_
 refine I8 A6 A4S A4N (λ(i:Nat) (w:List (List D)×Bool)=>[.d (eI i)]) (λi w=>b9 [.d (.str nm),.d dc,.d dk,.d (.sl [[fd0,.str ft0],[fd1,.str ft1],[fd2,.str ft2]]),.d dx] [.d (.str []),.d .nil,.d .nil,.d .nil,.d .nil] nm Cs Ks cn kn [⟨fd0,fe0,fn0,ft0⟩,⟨fd1,fe1,fn1,ft1⟩,⟨fd2,fe2,fn2,ft2⟩] w.1 w.2) (λi w=>i<=l.length/\w.1=Mt (B8 0) l i/\w.2=w.1.isEmpty) (λi w=>l.length-i) 0 ([],true) rfl rfl rfl rfl (λ_ _ _=>⟨rfl,rfl⟩) rfl ⟨by omega,rfl,rfl⟩ ?_
 repeat' first|refine st ?_|(with_reducible first|apply A5|apply A4)<;>intro _
 intro i w ⟨h4,h5,h6⟩
 obtain⟨A,b⟩:=w
 dsimp only at h5 h6 ⊢
 have hAl:A.length=i:=by rw[h5];exact x5 _ l i (by omega)
 have hAm:∀e∈A,e.length=7:=by rw[h5];exact x6 _ _ _
 cases hx:l[i]? with
 |some x=>
  have hlt:=(B2.1 hx).1
  have hs:=x7 (φ:=B8 0) hx
  have hS:=A4q x (hb x (C2 hx)) 0
  rw[<- h5] at hs
  obtain⟨z,hz⟩:∃z,z=B8 0 x:=⟨_,rfl⟩
  rw[<- hz] at hs hS
  obtain⟨o1,n1,v1,m1,l1,a1⟩:=x
  obtain⟨o2,n2,v2,m2,l2,a2⟩:=z
  have hg:=hg0 _ _ _ _ _ _ _ hx
  rw[Ex.ds_mk] at hs
  rw[Ex.av_mk,Ex.av_mk] at hS
  repeat' first|refine st ?_|((with_reducible first|apply A8|apply A7);(·exact hS))|(with_reducible first|apply A5|apply A4)<;>intro _
  exact⟨i+1,(A++[V2 o2 n2 v2 m2 (ng l2 (xL a2))],false),rfl,rfl,rfl,by omega,by omega,hs,by simp⟩
 |none=>
  have hge:=D1.1 hx
  rw[x4 hge,<- hR] at h5
  subst h5
  subst h6
  repeat' first|refine st ?_|(with_reducible first|apply A5|apply A4)<;>intro _
  all_goals exact⟨rfl,rfl⟩
theorem A4p(nm:List UInt8)(dc dk df dx:D)(Cs Ks:List (List D))(cn kn:Bool)(hC:B4 Tryz.prog A2O [.d dc] [] (λr os=>r=.arr 0 Cs.length/\os=[.arr Cs 3 0 cn]))(hK:B4 Tryz.prog W5 [.d dk] [] (λr os=>r=.arr 0 Ks.length/\os=[.arr Ks 1 0 kn]))
  (f0 f1 f2 f3:Fi) (hf0:f0.ok) (hf1:f1.ok) (hf2:f2.ok) (hf3:f3.ok) (hd:df=.sl (R4 [f0,f1,f2,f3])) (l:List Ex) (hb:∀x∈l,x.bk<=1048576) (hl:l.length<=1048576) (hdx:B5 dx (xL l)) :
  B4 Tryz.prog A1I [eT nm dc dk df dx] [] (λr os=>r=.agg (oB nm Cs.length Ks.length 4 (xL (l.map (B8 0))).length)/\os=b9 [.d (.str nm),.d dc,.d dk,.d df,.d dx] (oB nm Cs.length Ks.length 4 (xL (l.map (B8 0))).length) nm Cs Ks cn kn [f0,f1,f2,f3] (xL (l.map (B8 0))) (xL (l.map (B8 0))).isEmpty):=by
 have h1:=I3 l
 have hm:=N5 l
 have hg0:=m5 (args:=l)
 obtain⟨R,hR⟩:∃R,R=xL (l.map (B8 0)):=⟨_,rfl⟩
 rw[<- hR]
 obtain⟨es,hes⟩:∃es,es=xL l:=⟨_,rfl⟩
 rw[<- hes] at h1 hm hdx hg0
 subst hd
 obtain⟨fd0,fe0,fn0,ft0⟩:=f0
 have hf0:B4 Tryz.prog W5 [.d fd0] [] (λr os=>r=.arr 0 fe0.length/\os=[.arr fe0 1 0 fn0]):=hf0
 obtain⟨fd1,fe1,fn1,ft1⟩:=f1
 have hf1:B4 Tryz.prog W5 [.d fd1] [] (λr os=>r=.arr 0 fe1.length/\os=[.arr fe1 1 0 fn1]):=hf1
 obtain⟨fd2,fe2,fn2,ft2⟩:=f2
 have hf2:B4 Tryz.prog W5 [.d fd2] [] (λr os=>r=.arr 0 fe2.length/\os=[.arr fe2 1 0 fn2]):=hf2
 obtain⟨fd3,fe3,fn3,ft3⟩:=f3
 have hf3:B4 Tryz.prog W5 [.d fd3] [] (λr os=>r=.arr 0 fe3.length/\os=[.arr fe3 1 0 fn3]):=hf3
 rw[show R4 [⟨fd0,fe0,fn0,ft0⟩,⟨fd1,fe1,fn1,ft1⟩,⟨fd2,fe2,fn2,ft2⟩,⟨fd3,fe3,fn3,ft3⟩]=[[fd0,.str ft0],[fd1,.str ft1],[fd2,.str ft2],[fd3,.str ft3]] from rfl]
 refine A4G.goO A6 rfl ?_
 repeat' first|refine st ?_|((with_reducible apply V8);(·first|exact hC|exact hK|exact hf0|exact hf1|exact hf2|exact hf3))|(with_reducible first|apply A5|apply A4)<;>intro _
 refine A6p 4 3 2 rfl rfl rfl ?_
 refine A6o 4 4 7 rfl rfl rfl ?_
 refine A1z 5 ?_
 refine P4 A6 ?_
 repeat' first|refine st ?_|((with_reducible apply V8);(·first|exact hC|exact hK|exact hf0|exact hf1|exact hf2|exact hf3))|(with_reducible first|apply A5|apply A4)<;>intro _
 refine P4 A6 ?_
 repeat' first|refine st ?_|((with_reducible apply V8);(·first|exact hC|exact hK|exact hf0|exact hf1|exact hf2|exact hf3))|(with_reducible first|apply A5|apply A4)<;>intro _
 refine P4 A6 ?_
 repeat' first|refine st ?_|((with_reducible apply V8);(·first|exact hC|exact hK|exact hf0|exact hf1|exact hf2|exact hf3))|(with_reducible first|apply A5|apply A4)<;>intro _
 refine P4 A6 ?_
 repeat' first|refine st ?_|((with_reducible apply V8);(·first|exact hC|exact hK|exact hf0|exact hf1|exact hf2|exact hf3))|(with_reducible first|apply A5|apply A4)<;>intro _
 refine P4 A6 ?_
 repeat' first|refine st ?_|((with_reducible apply V8);(·first|exact hC|exact hK|exact hf0|exact hf1|exact hf2|exact hf3))|(with_reducible first|apply A5|apply A4)<;>intro _
 refine A6q [2,3,37,38,39] [.ptr 1 0,.ptr 4 0,.d dx,.d (.int .i64 es.length),.d (eI 0)] [0,1,2,3,4,5,6,8,11,14,17] (b9 [.d (.str nm),.d dc,.d dk,.d (.sl [[fd0,.str ft0],[fd1,.str ft1],[fd2,.str ft2],[fd3,.str ft3]]),.d dx] [.d (.str []),.d .nil,.d .nil,.d .nil,.d .nil] nm Cs Ks cn kn [⟨fd0,fe0,fn0,ft0⟩,⟨fd1,fe1,fn1,ft1⟩,⟨fd2,fe2,fn2,ft2⟩,⟨fd3,fe3,fn3,ft3⟩] [] true) rfl rfl (by decide) rfl rfl rfl rfl rfl ?_
 refine I8 A6 A4S A4N (λ(i:Nat) (w:List (List D)×Bool)=>[.d (eI i)]) (λi w=>b9 [.d (.str nm),.d dc,.d dk,.d (.sl [[fd0,.str ft0],[fd1,.str ft1],[fd2,.str ft2],[fd3,.str ft3]]),.d dx] [.d (.str []),.d .nil,.d .nil,.d .nil,.d .nil] nm Cs Ks cn kn [⟨fd0,fe0,fn0,ft0⟩,⟨fd1,fe1,fn1,ft1⟩,⟨fd2,fe2,fn2,ft2⟩,⟨fd3,fe3,fn3,ft3⟩] w.1 w.2) (λi w=>i<=l.length/\w.1=Mt (B8 0) l i/\w.2=w.1.isEmpty) (λi w=>l.length-i) 0 ([],true) rfl rfl rfl rfl (λ_ _ _=>⟨rfl,rfl⟩) rfl ⟨by omega,rfl,rfl⟩ ?_
 repeat' first|refine st ?_|(with_reducible first|apply A5|apply A4)<;>intro _
 intro i w ⟨h4,h5,h6⟩
 obtain⟨A,b⟩:=w
 dsimp only at h5 h6 ⊢
 have hAl:A.length=i:=by rw[h5];exact x5 _ l i (by omega)
 have hAm:∀e∈A,e.length=7:=by rw[h5];exact x6 _ _ _
 cases hx:l[i]? with
 |some x=>
  have hlt:=(B2.1 hx).1
  have hs:=x7 (φ:=B8 0) hx
  have hS:=A4q x (hb x (C2 hx)) 0
  rw[<- h5] at hs
  obtain⟨z,hz⟩:∃z,z=B8 0 x:=⟨_,rfl⟩
  rw[<- hz] at hs hS
  obtain⟨o1,n1,v1,m1,l1,a1⟩:=x
  obtain⟨o2,n2,v2,m2,l2,a2⟩:=z
  have hg:=hg0 _ _ _ _ _ _ _ hx
  rw[Ex.ds_mk] at hs
  rw[Ex.av_mk,Ex.av_mk] at hS
  repeat' first|refine st ?_|((with_reducible first|apply A8|apply A7);(·exact hS))|(with_reducible first|apply A5|apply A4)<;>intro _
  exact⟨i+1,(A++[V2 o2 n2 v2 m2 (ng l2 (xL a2))],false),rfl,rfl,rfl,by omega,by omega,hs,by simp⟩
 |none=>
  have hge:=D1.1 hx
  rw[x4 hge,<- hR] at h5
  subst h5
  subst h6
  repeat' first|refine st ?_|(with_reducible first|apply A5|apply A4)<;>intro _
  all_goals exact⟨rfl,rfl⟩
end Go.Proofs
end
section
namespace Go.Proofs
open Go.Bi
abbrev A98:TypeId:=3
abbrev B5D:TypeId:=4
abbrev A99:TypeId:=9
abbrev B5M:TypeId:=32
abbrev B5L:TypeId:=24
theorem A5h:Tryz.prog.cellsOf A98=1:=by kernel_rfl
theorem A2U:Tryz.prog.cellsOf A99=1:=by kernel_rfl
theorem A9o:Tryz.prog.cellsOf B5M=3:=by kernel_rfl
theorem C94:Tryz.prog.cellsOf B5D=1:=by kernel_rfl
theorem D3B{ds:List D}(h:WT Tryz.prog B5D ds):∃b,ds=[.bool b]:=h.bool' Tryz.underlying4
theorem A0w{ds:List D}(h:WT Tryz.prog A98 ds):∃n,ds=[eI n]:=by
 obtain⟨a,ha,_,_⟩:=h.int' Tryz.underlying3
 exact⟨a,ha⟩
theorem A0V{ds:List D}(h:WT Tryz.prog A99 ds):∃s,ds=[.str s]:=by
 obtain⟨a,ha,_⟩:=h.str' Tryz.underlying9
 exact⟨a,ha⟩
theorem B9K{ds:List D}(h:WT Tryz.prog B5M ds):∃v:Vl,ds=v.ds:=by
 obtain⟨hl,hf⟩:=h.st' Tryz.underlying32
 rw[A9o] at hl
 match ds,hl with
 |[x,y,z],_=>
  have h0:=hf _ (R2 ..)
  have h1:=hf _ (J3 _ (R2 ..))
  have h2:=hf _ (J3 _ (J3 _ (R2 ..)))
  dsimp only at h0 h1 h2
  rw[A5h] at h0 h1
  rw[A2U] at h2
  obtain⟨a,ha⟩:=A0w h0
  obtain⟨b,hb⟩:=A0w h1
  obtain⟨s,hs⟩:=A0V h2
  simp at ha hb hs
  exact⟨⟨a,b,s⟩,by rw[ha,hb,hs]⟩
theorem B9J{ds:List D}(h:WT Tryz.prog B5L ds):∃d ks,ds=[d]/\B5 d (A0 ks):=by
 obtain⟨d,es,h1,h2,h4,h3⟩:=h.sl' Tryz.underlying24
 have:∃ks,es=A0 ks:=by
  clear h1 h2 h4
  induction es with
  |nil=>exact⟨[],rfl⟩
  |cons x es ih=>
   obtain⟨n,hn⟩:=A0w (h3 x (by simp))
   obtain⟨ks,hk⟩:=ih λy hy=>h3 y (by simp[hy])
   exact⟨n::ks,by rw[hn,hk];rfl⟩
 obtain⟨ks,rfl⟩:=this
 exact⟨d,ks,h1,h2⟩
theorem A56(d:D):Z9 Tryz.prog A98 [d]=.d d:=by unfold Z9;rw[Tryz.underlying3]
theorem A6f{d:D}{es:List (List D)}(h:B5 d es):G6 es<=E7 [d]:=by
 rcases h with ⟨rfl,rfl⟩|rfl
 ·simp[G6]
 ·simp only[E7,U0];omega
theorem B7F{d:D}{ks:List Int}(h:B5 d (A0 ks)):ks.length<=E7 [d]:=by
 have h1:=A6f h
 have h2:(A0 ks).length<=G6 (A0 ks):=A59 λx hx=>by
  obtain⟨k,_,rfl⟩:=F2.1 hx
  simp[E7,U0]
 rw[B6] at h2
 omega
theorem A5a(H:Type):A3m (H:=H) Go.Proofs.YtnhhopmldgpglaaGreat.Rows.uptoBulk Go.Proofs.YtnhhopmldgpglaaGreat.Rows.uptoBulkAll where
 lit l:=by unfold Go.Proofs.YtnhhopmldgpglaaGreat.Rows.uptoBulk;split<;>simp_all
 str b:=by simp[Go.Proofs.YtnhhopmldgpglaaGreat.Rows.uptoBulk]
 nil:=by simp[Go.Proofs.YtnhhopmldgpglaaGreat.Rows.uptoBulk]
 sl es sp:=by simp[Go.Proofs.YtnhhopmldgpglaaGreat.Rows.uptoBulk]
 agg ps:=by simp[Go.Proofs.YtnhhopmldgpglaaGreat.Rows.uptoBulk]
 cons x l:=by simp[Go.Proofs.YtnhhopmldgpglaaGreat.Rows.uptoBulkAll]
end Go.Proofs
end
section
namespace Go.Proofs
open Go.Bi
abbrev A97:TypeId:=26
abbrev B5I:TypeId:=86
theorem B6e:Tryz.prog.cellsOf A97=1:=by kernel_rfl
theorem C97:Tryz.prog.cellsOf B5I=7:=by kernel_rfl
end Go.Proofs
end
section
namespace Go.Proofs
open Go.Bi
def nuE(n:Int):Ex:=.mk 1 0 ⟨1,n,[]⟩ [] true []
def aE:Ex:=.mk 1 0 ⟨2,0,[97]⟩ [] true []
def twE(op:Int)(a b:Ex):Ex:=.mk op 0 U6 [] false [a,b]
def ckT(ks:List Int)(e:Ex):Int×Int:=if 24<L9 e then (0,26) else G7 ks e
theorem ck2:ckT [] (twE 13 (nuE 1) aE)=(0,7):=by decide +kernel
end Go.Proofs
end
section
namespace Go.Proofs
open Go.Bi
mutual
def smE:Ex->Ex->Bool
 |.mk op n v name nl args,.mk op' n' v' name' nl' args'=>decide (op=op')&&decide (n=n')&&decide (v=v')&&decide (name=name')&&smL args args'
def smL:List Ex->List Ex->Bool
 |[],[]=>true
 |a::l,b::m=>smE a b&&smL l m
 |[],_::_=>false
 |_::_,[]=>false
end
theorem A7S:∀l m,smL l m=(decide (l.length=m.length)&&(l.zip m).all λp=>smE p.1 p.2)
 |[],[]=>by simp[smL]
 |a::l,b::m=>by
  rw[smL,A7S l m]
  simp only[N9,List.zip_cons_cons,m6]
  cases smE a b<;>simp
 |[],_::_=>by simp[smL]
 |_::_,[]=>by simp[smL]
theorem B9m(op n:Int)(v:Vl)(name:List UInt8)(nl:Bool)(args:List Ex)(op' n':Int)(v':Vl)(name':List UInt8)(nl':Bool)(args':List Ex):smE (.mk op n v name nl args) (.mk op' n' v' name' nl' args')=(decide (op=op')&&decide (n=n')&&decide (v=v')&&decide (name=name')&&smL args args'):=by rw[smE]
theorem C8w{α:Type}{p:α->Bool}{l:List α}{i:Nat}{x:α}(h:l[i]?=some x):(l.take (i+1)).all p=((l.take i).all p&&p x):=by
 rw[P5,h];simp
theorem C8u{α:Type}{p:α->Bool}{l:List α}{i:Nat}{x:α}(h:l[i]?=some x)(hx:p x=false):l.all p=false:=by
 rw[Bool.eq_false_iff]
 intro e
 have:=O3.1 e x (C2 h)
 rw[hx] at this;cases this
theorem A84{args:List Ex}(i:Nat)(op' n':Int)(v':Vl)(name':List UInt8)(nl':Bool)(args':List Ex)(h:args[i]?=some (.mk op' n' v' name' nl' args')):(xL args)[i]?=some (V2 op' n' v' name' (ng nl' (xL args'))):=by
 rw[<- Ex.ds_mk];exact m4 h
end Go.Proofs
end
section
namespace Go.Proofs
open Go.Bi
inductive Ex.Rg:Ex->Prop
 |mk {op n:Int} {v:Vl} {nm:List UInt8} {nl:Bool} {args:List Ex} (h1:IntKind.i64.min<=n) (h2:n<=IntKind.i64.max) (h:∀a∈args,Ex.Rg a):Ex.Rg (.mk op n v nm nl args)
theorem D3E{t:TypeId}{ds:List D}(h:WT Tryz.prog t ds):(t=B5I->∃e:Ex,ds=e.ds/\e.Rg)/\(t=A97->∃nl args,ds=[ng nl (xL args)]/\∀a∈args,Ex.Rg a):=by
 induction h with
 |int h=>exact⟨λe=>(by subst e;rw[Tryz.underlying86] at h;cases h),λe=>(by subst e;rw[Tryz.underlying26] at h;cases h)⟩
 |bool h=>exact⟨λe=>(by subst e;rw[Tryz.underlying86] at h;cases h),λe=>(by subst e;rw[Tryz.underlying26] at h;cases h)⟩
 |str h=>exact⟨λe=>(by subst e;rw[Tryz.underlying86] at h;cases h),λe=>(by subst e;rw[Tryz.underlying26] at h;cases h)⟩
 |nil h=>exact⟨λe=>(by subst e;rw[Tryz.underlying86] at h;cases h),λe=>⟨true,[],rfl,by simp⟩⟩
 |@sl t e es h hl hs he ih=>
  refine⟨λe=>(by subst e;rw[Tryz.underlying86] at h;cases h),λe'=>?_⟩
  subst e'
  rw[Tryz.underlying26] at h
  cases h
  have hq:∃l,es=xL l/\∀a∈l,Ex.Rg a:=by
   clear he hs hl
   induction es with
   |nil=>exact⟨[],rfl,by simp⟩
   |cons x es ihh=>
    obtain⟨n,hn,hr⟩:=(ih x (by simp)).1 rfl
    obtain⟨ks,hk,hrs⟩:=ihh λy hy=>ih y (by simp[hy])
    refine⟨n::ks,by rw[hn,hk];rfl,λa ha=>?_⟩
    rcases I9.1 ha with rfl|ha
    ·exact hr
    ·exact hrs a ha
  obtain⟨l,rfl,hlr⟩:=hq
  exact⟨false,l,rfl,hlr⟩
 |@st t fs ds h hl hf ih=>
  refine⟨λe=>?_,λe=>(by subst e;rw[Tryz.underlying26] at h;cases h)⟩
  subst e
  rw[Tryz.underlying86] at h
  cases h
  rw[C97] at hl
  match ds,hl with
  |[d0,d1,d2,d3,d4,d5,d6],_=>
   have h0:=hf _ (R2 ..)
   have h1:=hf _ (J3 _ (R2 ..))
   have h2:=hf _ (J3 _ (J3 _ (R2 ..)))
   have h3:=hf _ (J3 _ (J3 _ (J3 _ (R2 ..))))
   have h4:=(ih _ (J3 _ (J3 _ (J3 _ (J3 _ (R2 ..)))))).2 rfl
   dsimp only at h0 h1 h2 h3 h4
   rw[A5h] at h0 h1
   rw[A9o] at h2
   rw[A2U] at h3
   rw[B6e] at h4
   obtain⟨a,ha⟩:=A0w h0
   obtain⟨b,hb,hb1,hb2⟩:=h1.int' Tryz.underlying3
   obtain⟨v,hv⟩:=B9K h2
   obtain⟨s,hs⟩:=A0V h3
   obtain⟨nl,args,hx,hr⟩:=h4
   simp at ha hb hs hx
   refine⟨.mk a b v s nl args,?_,.mk hb1 hb2 hr⟩
   rw[Ex.ds_mk,ha,hb,hs,hx]
   have hv:[d2,d3,d4]=[eI v.k,eI v.n,.str v.s]:=hv
   simp only[List.cons.injEq,and_true] at hv
   rw[hv.1,hv.2.1,hv.2.2]
theorem D3F{ds:List D}(h:WT Tryz.prog A97 ds):∃nl args,ds=[ng nl (xL args)]/\∀a∈args,Ex.Rg a:=(D3E h).2 rfl
theorem C8X(nl:Bool)(l:List (List D)):U0 (ng nl l)=G6 l+1:=by
 unfold ng
 split
 ·rename_i h
  simp only[O9,w8] at h
  rw[h.2];rfl
 ·rfl
theorem B66(f:Ex->Ex)(l:List Ex)(h:∀a∈l,(f a).bk<=a.bk):G6 (xL (l.map f))<=G6 (xL l):=by
 induction l with
 |nil=>exact M9 _
 |cons a l ih=>
  have h1:=h a (by simp)
  have h2:=ih λx hx=>h x (by simp[hx])
  unfold Ex.bk at h1
  simp only[Q4,xL,G6] at h2 ⊢
  omega
theorem C13(l m:List Ex)(hlen:l.length=m.length)(hl:l.length<=1048576)(h:∀(i:Nat)(x y:Ex),l[i]?=some x->m[i]?=some y->Pure Tryz.prog A4U [x.av,y.av] (.d (.bool true)))(d d':D)(hd:B5 d (xL l))(hd':B5 d' (xL m)):Pure Tryz.prog A6M [.d d,.d d'] (.d (.bool true)):=by
 have h1:=I3 l
 have hm:=N5 l
 have h1':=I3 m
 have hm':=N5 m
 have hg0:=A84 (args:=l)
 have hg1:=A84 (args:=m)
 obtain⟨es,hes⟩:∃es,es=xL l:=⟨_,rfl⟩
 obtain⟨es',hes'⟩:∃es,es=xL m:=⟨_,rfl⟩
 rw[<- hes] at h1 hm hd hg0
 rw[<- hes'] at h1' hm' hd' hg1
 have hee:(es.length:Int)=es'.length:=by omega
 refine A8s.go A6 rfl ?_
 repeat' first|refine st ?_|(with_reducible first|apply A5|apply A4)<;>intro _
 refine F3 A6 B4b B3W (λ(i:Nat)=>[.d (eI i)]) (λi=>[]) (λi=>i<=l.length) (λi=>l.length-i) 0 rfl rfl rfl rfl (λ_ _=>⟨rfl,rfl⟩) rfl (by omega) ?_
 repeat' first|refine st ?_|(with_reducible first|apply A5|apply A4)<;>intro _
 intro i h4
 cases hx:l[i]? with
 |some x=>
  have hlt:=(B2.1 hx).1
  obtain⟨y,hy⟩:∃y,m[i]?=some y:=⟨_,C9 (by omega)⟩
  have hS:=h i x y hx hy
  obtain⟨o1,n1,v1,m1,l1,a1⟩:=x
  obtain⟨o2,n2,v2,m2,l2,a2⟩:=y
  rw[Ex.av_mk,Ex.av_mk] at hS
  have hg:=hg0 _ _ _ _ _ _ _ hx
  have hg':es'[((i:Nat):Int).toNat]?=_:=hg1 i _ _ _ _ _ _ hy
  have hlt':(i:Int)<es'.length:=by omega
  repeat' first|refine st ?_|((with_reducible first|apply A8|apply A7);(·exact hS))|(with_reducible first|apply A5|apply A4)<;>intro _
  exact⟨i+1,rfl,rfl,rfl,by omega,by omega⟩
 |none=>
  have hge:=D1.1 hx
  repeat' first|refine st ?_|(with_reducible first|apply A5|apply A4)<;>intro _
  all_goals rfl
end Go.Proofs
end
