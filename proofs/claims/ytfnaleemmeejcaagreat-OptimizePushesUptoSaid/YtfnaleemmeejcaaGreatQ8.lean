/- Texts of this claim, joined. No condition. -/
import Derived.Test.YtfnaleemmeejcaaGreatQ7
import Derived.Test.YtfnaleemmeejcaaGreatRows
set_option linter.unusedSimpArgs false
set_option linter.unusedVariables false
set_option maxRecDepth 10000
set_option maxHeartbeats 4000000
section
namespace Go.Proofs
open Go.Bi
def ins(l:List Int)(n:Int):List Int:=l.takeWhile (λx=>decide (x<n))++([n]++(l.dropWhile λx=>decide (x<n)).filter λx=>decide (x≠n))
theorem C25(n:Int):ins [] n=[n]:=rfl
theorem C23(a:Int)(l:List Int)(n:Int):ins (a::l) n=if a<n then a::ins l n else n::(a::l).filter λx=>decide (x≠n):=by
 unfold ins
 by_cases h:a<n
 ·rw[if_pos h,List.takeWhile_cons_of_pos (by simpa using h),List.dropWhile_cons_of_pos (by simpa using h)];rfl
 ·rw[if_neg h,List.takeWhile_cons_of_neg (by simpa using h),List.dropWhile_cons_of_neg (by simpa using h)];rfl
theorem C24:∀(l:List Int)(n:Int),(ins l n).length<=l.length+1
 |[],n=>by simp[C25]
 |a::l,n=>by
  rw[C23]
  split
  ·have:=C24 l n
   simp only[H9];omega
  ·have:=A0K (λx=>decide (x≠n)) (a::l)
   simp only[H9] at *;omega
theorem C26:∀{l:List Int}(n:Int),s5 l->s5 (ins l n)/\∀x,x∈ins l n↔x=n\/x∈l
 |[],n,_=>by simp[C25,s5]
 |a::l,n,h=>by
  have g:=s7.1 h
  rw[C23]
  split
  ·rename_i hlt
   obtain⟨h1,h2⟩:=C26 n g.2
   constructor
   ·refine s7.2 ⟨λx hx=>?_,h1⟩
    rcases(h2 x).1 hx with rfl|hx
    ·exact hlt
    ·exact g.1 x hx
   ·intro x
    rw[H2,h2,H2]
    constructor
    ·rintro(h|h|h)
     ·exact .inr (.inl h)
     ·exact .inl h
     ·exact .inr (.inr h)
    ·rintro(h|h|h)
     ·exact .inr (.inl h)
     ·exact .inl h
     ·exact .inr (.inr h)
  ·rename_i hge
   constructor
   ·refine s7.2 ⟨λx hx=>?_,h.filter _⟩
    rw[m0] at hx
    have hne:x≠n:=by simpa using hx.2
    rcases H2.1 hx.1 with rfl|hx
    ·omega
    ·have:=g.1 x hx;omega
   ·intro x
    rw[H2,m0]
    by_cases hx:x=n
    ·simp[hx]
    ·simp[hx]
theorem D6D{l:List Int}{n:Int}{i:Nat}(h:∀(j:Nat) y,j<i->l[j]?=some y->y<n)(hi:∀y,l[i]?=some y->¬y<n):ins l n=l.take i++([n]++(l.drop i).filter λx=>decide (x≠n)):=by
 have h1:∀x∈l.take i,decide (x<n)=true:=by
  intro x hx
  obtain⟨j,hj⟩:=A43 hx
  have hj2:=(B4.1 hj).1
  rw[M4] at hj2
  rw[A02,if_pos (by omega)] at hj
  exact decide_eq_true (h j x (by omega) hj)
 have h2:(l.drop i).takeWhile (λx=>decide (x<n))=[]/\(l.drop i).dropWhile (λx=>decide (x<n))=l.drop i:=by
  cases hd:l.drop i with
  |nil=>exact⟨rfl,rfl⟩
  |cons y r=>
   have hy:l[i]?=some y:=by
    have:(l.drop i)[0]?=some y:=by rw[hd];rfl
    rwa [List.getElem?_drop,A3d] at this
   have:=hi y hy
   exact⟨List.takeWhile_cons_of_neg (by simpa using this),List.dropWhile_cons_of_neg (by simpa using this)⟩
 have e:l=l.take i++l.drop i:=(A45 i l).symm
 unfold ins
 rw[show l.takeWhile (λx=>decide (x<n))=(l.take i++l.drop i).takeWhile (λx=>decide (x<n)) by rw[<- e],show l.dropWhile (λx=>decide (x<n))=(l.take i++l.drop i).dropWhile (λx=>decide (x<n)) by rw[<- e]]
 rw[List.takeWhile_append_of_pos h1,List.dropWhile_append_of_pos h1,h2.1,h2.2,U9]
theorem A93:∀(l out:List Int),(l.foldl ins out).length<=out.length+l.length
 |[],out=>by simp
 |a::l,out=>by
  have h1:=A93 l (ins out a)
  have h2:=C24 out a
  rw[s6]
  simp only[H9]
  omega
theorem C1R:∀(l:List Int){out:List Int},s5 out->s5 (l.foldl ins out)/\∀x,x∈l.foldl ins out↔x∈out\/x∈l
 |[],out,h=>⟨h,λx=>by simp⟩
 |a::l,out,h=>by
  obtain⟨h1,h2⟩:=C26 a h
  obtain⟨h3,h4⟩:=C1R l h1
  refine⟨h3,λx=>?_⟩
  rw[s6,h4,h2,H2]
  constructor
  ·rintro((h|h)|h)
   ·exact .inr (.inl h)
   ·exact .inl h
   ·exact .inr (.inr h)
  ·rintro(h|h|h)
   ·exact .inl (.inr h)
   ·exact .inl (.inl h)
   ·exact .inr h
mutual
def rcE:Ex->List Int
 |.mk op n v nm nl args=>rcL args (own op n)
def rcL:List Ex->List Int->List Int
 |[],out=>out
 |a::l,out=>rcL l ((rcE a).foldl ins out)
end
def rcS(out:List Int)(a:Ex):List Int:=(rcE a).foldl ins out
theorem C3j:∀(l:List Ex)(out:List Int),rcL l out=l.foldl rcS out
 |[],out=>by simp[rcL]
 |a::l,out=>by rw[rcL,C3j l];rfl
theorem C3h(op n:Int)(v:Vl)(nm:List UInt8)(nl:Bool)(args:List Ex):rcE (.mk op n v nm nl args)=args.foldl rcS (own op n):=by rw[rcE,C3j]
theorem C1T:∀(l:List Ex){out:List Int},(∀a∈l,∀x,x∈rcE a↔x∈L5 a)->s5 out->s5 (l.foldl rcS out)/\∀x,x∈l.foldl rcS out↔x∈out\/x∈l.flatMap L5
 |[],out,_,h=>⟨h,λx=>by simp⟩
 |a::l,out,hl,h=>by
  obtain⟨h1,h2⟩:=C1R (rcE a) h
  obtain⟨h3,h4⟩:=C1T l (λb hb=>hl b (I2 _ hb)) h1
  refine⟨h3,λx=>?_⟩
  rw[s6,show rcS out a=(rcE a).foldl ins out from rfl,h4,h2,hl a (W5 ..),A41,K8,or_assoc]
theorem D8x(op n:Int):s5 (own op n):=by unfold own;split<;>simp[s5]
theorem C3i:∀e:Ex,s5 (rcE e)/\∀x,x∈rcE e↔x∈L5 e:=by
 refine Ex.ind λop n v nm nl args ih=>?_
 rw[C3h,A3N,<- own]
 obtain⟨h1,h2⟩:=C1T args (λa ha=>(ih a ha).2) (D8x op n)
 exact⟨h1,λx=>by rw[h2,K8]⟩
theorem A9v(e:Ex):rcE e=T2 e:=C0d (C3i e).1 (B1J e) λx=>by rw[(C3i e).2,A8M]
theorem C35(op n:Int):(own op n).length<=1:=by unfold own;split<;>simp
theorem B27:∀(l:List Ex)(out:List Int),(l.foldl rcS out).length<=out.length+D6 (xL l)
 |[],out=>by simp
 |a::l,out=>by
  have h1:=B27 l (rcS out a)
  have h2:(rcS out a).length<=out.length+(rcE a).length:=A93 _ _
  have h3:=A58 a
  rw[<- A9v] at h3
  rw[s6]
  simp only[xL,H5,D6]
  unfold Ex.bk at h3
  unfold xL at h1
  omega
theorem B1y:∀(l:List Ex)(i:Nat),D6 (xL (l.take i))<=D6 (xL l)
 |[],i=>by simp
 |a::l,0=>by simp[xL,D6]
 |a::l,i+1=>by
  have:=B1y l i
  rw[List.take_succ_cons]
  simp only[xL,H5,D6] at *
  omega
theorem B41(l:List Int)(hl:l.length<=4294967296)(n:Int)(d:D)(hd:A9 d (A5 l)):Pure Tryz.prog B8E [.d d,.d (eI n)] (.d (.sl (A5 (ins l n)))):=by
 refine C7D.go A6 rfl ?_
 have hl1:=F9 l
 repeat' first|refine st ?_|refine⟨λ_=>?_,λ_=>?_⟩|fail
 refine L6 A6 D0B C9k (λ(i:Nat) (es:List (List D))=>[.arr 0 es.length,.d (eI i)]) (λi es=>[.arr es 1 0 false]) (λi es=>i<=l.length/\es=A5 (l.take i)/\∀(j:Nat) y,j<i->l[j]?=some y->y<n) (λi _=>l.length-i) 0 [] rfl rfl rfl rfl (λ_ _ _=>⟨rfl,rfl⟩) rfl ⟨by omega,rfl,by omega⟩ ?_
 repeat' first|refine st ?_|refine⟨λ_=>?_,λ_=>?_⟩|fail
 intro i es ⟨h1,h2,h3⟩
 have hes:es.length=i:=by rw[h2,F9,M4];omega
 have hem:∀e∈es,e.length=1:=by
  rw[h2]
  intro e he
  obtain⟨z,_,rfl⟩:=D7.1 he
  rfl
 have key:(∃y,l[i]?=some y/\y<n)\/((∀y,l[i]?=some y->¬y<n)/\((∃y,l[i]?=some y/\¬y<n)\/l.length<=i)):=by
  cases hx:l[i]? with
  |none=>exact .inr ⟨λy h=>(by cases h),.inr (E9.1 hx)⟩
  |some y=>
   by_cases hy:y<n
   ·exact .inl ⟨y,rfl,hy⟩
   ·exact .inr ⟨λz hz=>(by cases hz;exact hy),.inl ⟨y,rfl,hy⟩⟩
 have rest:(∀y,l[i]?=some y->¬y<n)->∀k:Nat,i<=k->A5 (l.take i)++([[eI n]]++A5 ((((l.take k).drop i)).filter λx=>decide (x≠n)))=A5 (l.take i++([n]++((l.take k).drop i).filter λx=>decide (x≠n))):=λ_ k _=>by simp[A5]
 rcases key with ⟨y,hy,hlt⟩|⟨hno,hx⟩
 ·have hil:=(B4.1 hy).1
  have hg:=N2 hy
  repeat' first|refine st ?_|refine⟨λ_=>?_,λ_=>?_⟩|fail
  refine⟨i+1,es++[[eI y]],rfl,rfl,rfl,by omega,by omega,?_,λj z hj hz=>?_⟩
  ·rw[h2,L8,hy];simp[A5]
  ·rcases B1k.1 hj with h|rfl
   ·exact h3 j z h hz
   ·rw[hy] at hz;cases hz;exact hlt
 ·have hat:=D6D h3 hno
  rcases hx with ⟨y,hy,hge⟩|hx
  ·have hg:=N2 hy
   have hil:=(B4.1 hy).1
   repeat' first|refine st ?_|refine⟨λ_=>?_,λ_=>?_⟩|fail
   refine L6 A6 B7I B7z (λ(k:Nat) (es:List (List D))=>[.arr 0 es.length,.d (eI k)]) (λk es=>[.arr es 1 0 false,.arr [[eI n]] 1 0 false]) (λk es2=>i<=k/\k<=l.length/\es2.length<=k+1/\es2=A5 (l.take i++([n]++((l.take k).drop i).filter λx=>decide (x≠n)))) (λk _=>l.length-k) i (es++[[eI n]]) rfl rfl rfl rfl (λ_ _ _=>⟨rfl,rfl⟩) rfl ⟨by omega,by omega,by simp;omega,by rw[h2,R1 (by rw[M4];omega)];simp[A5]⟩ ?_
   repeat' first|refine st ?_|refine⟨λ_=>?_,λ_=>?_⟩|fail
   intro k es2 ⟨q1,q2,q4,q3⟩
   cases hz:l[k]? with
   |none=>
    have hge2:=E9.1 hz
    rw[H4 hge2,<- hat] at q3
    repeat' first|refine st ?_|refine⟨λ_=>?_,λ_=>?_⟩|fail
    rw[q3];rfl
   |some z=>
    have hkl:=(B4.1 hz).1
    have hg2:=N2 hz
    have hdr:(l.take (k+1)).drop i=(l.take k).drop i++[z]:=by
     rw[L8,hz,List.drop_append_of_le_length (by rw[M4];omega)];rfl
    repeat' first|refine st ?_|refine⟨λ_=>?_,λ_=>?_⟩|fail
    ·rename_i he
     refine⟨k+1,es2,rfl,rfl,rfl,by omega,by omega,by omega,by omega,?_⟩
     rw[q3,hdr,v7]
     simp[he]
    ·rename_i he
     refine⟨k+1,es2++[[eI z]],rfl,rfl,rfl,by omega,by omega,by omega,by simp;omega,?_⟩
     rw[q3,hdr,v7]
     simp[he,A5]
  ·repeat' first|refine st ?_|refine⟨λ_=>?_,λ_=>?_⟩|fail
   refine L6 A6 B7I B7z (λ(k:Nat) (es:List (List D))=>[.arr 0 es.length,.d (eI k)]) (λk es=>[.arr es 1 0 false,.arr [[eI n]] 1 0 false]) (λk es2=>k=i/\es2=es++[[eI n]]) (λk _=>l.length-k) i (es++[[eI n]]) rfl rfl rfl rfl (λ_ _ _=>⟨rfl,rfl⟩) rfl ⟨rfl,rfl⟩ ?_
   repeat' first|refine st ?_|refine⟨λ_=>?_,λ_=>?_⟩|fail
   intro k es2 ⟨q1,q3⟩
   subst q1
   repeat' first|refine st ?_|refine⟨λ_=>?_,λ_=>?_⟩|fail
   rw[q3,h2,hat,R1 hx]
   simp[A5]
   rfl
theorem C5r:∀e:Ex,e.bk<=1073741824->Pure Tryz.prog B8w [e.av] (.d (.sl (A5 (rcE e)))):=by
 refine Ex.ind λop n v nm nl args ih hb=>?_
 obtain⟨b1,b2,b3,b4⟩:=Ex.bk_bounds hb
 have hbm:=Ex.bk_mk op n v nm nl args
 rw[C3h,Ex.av_mk]
 have h1:=P0 args
 have hm:=P2 args
 obtain⟨da,hda⟩:∃d,d=ng nl (xL args):=⟨_,rfl⟩
 have hsd:A9 da (xL args):=by rw[hda];exact C7
 rw[<- hda]
 have r0:v.k=v.k:=rfl
 have r1:v.s=v.s:=rfl
 have r2:nm=nm:=rfl
 refine C7p.go A6 rfl ?_
 have hown:(op=2/\own op n=[n])\/(op≠2/\own op n=[]):=by
  unfold own
  by_cases h:op=2
  ·rw[if_pos h];exact .inl ⟨h,rfl⟩
  ·rw[if_neg h];exact .inr ⟨h,rfl⟩
 rcases hown with ⟨h2,ho⟩|⟨h2,ho⟩
 ·repeat' first|refine st ?_|refine⟨λ_=>?_,λ_=>?_⟩|fail
  refine C4F 3 rfl rfl rfl ?_
  repeat' first|refine st ?_|refine⟨λ_=>?_,λ_=>?_⟩|fail
  refine L6 A6 B7G B7x (λ(i:Nat) (out:List Int)=>[.d (.sl (A5 out)),.d (eI i)]) (λi out=>[.cells [.d (eI op),.d (eI n),.d (eI v.k),.d (eI v.n),.d (.str v.s),.d (.str nm),.d da],.arr [[eI n]] 1 1 false,.arr [[eI n]] 1 0 false]) (λi out=>i<=args.length/\out=(args.take i).foldl rcS (own op n)) (λi _=>args.length-i) 0 (own op n) rfl rfl (by rw[ho];rfl) rfl (λ_ _ _=>⟨rfl,rfl⟩) rfl ⟨N1 _,rfl⟩ ?_
  repeat' first|refine st ?_|refine⟨λ_=>?_,λ_=>?_⟩|fail
  intro i out ⟨h4,h5⟩
  cases hx:args[i]? with
  |none=>
   have hge:=E9.1 hx
   rw[H4 hge] at h5
   repeat' first|refine st ?_|refine⟨λ_=>?_,λ_=>?_⟩|fail
   rw[h5]
  |some x=>
   have hlt:=(B4.1 hx).1
   have hgx:=Y1 hx
   have hxm:=C3 hx
   have hxb:J8 x.ds<=D6 (xL args):=A23 (D7.2 ⟨x,hxm,rfl⟩)
   have hi:=ih x hxm (b4 x hxm)
   have hs:=A5o rcS (own op n) args i x hx
   rw[<- h5] at hs
   have hol:out.length<=1+D6 (xL args):=by
    have q1:=B27 (args.take i) (own op n)
    have q2:=C35 op n
    have q3:D6 (xL (args.take i))<=D6 (xL args):=B1y args i
    rw[h5];omega
   have hrl:=A58 x
   rw[<- A9v] at hrl
   obtain⟨ys,hys⟩:∃y,y=rcE x:=⟨_,rfl⟩
   have hss:rcS out x=ys.foldl ins out:=by rw[hys];rfl
   rw[hss] at hs
   rw[<- hys] at hi hrl
   unfold Ex.bk at hrl
   have hyl:=F9 ys
   obtain⟨o1,n1,v1,m1,l1,a1⟩:=x
   rw[Ex.ds_mk] at hgx
   rw[Ex.av_mk] at hi
   repeat' first|refine st ?_|refine⟨λ_=>?_,λ_=>?_⟩|fail
   refine L6 A6 B7F B7w (λ(k:Nat) (o2:List Int)=>[.d (.sl (A5 o2)),.d (eI k)]) (λk o2=>[.cells [.d (eI op),.d (eI n),.d (eI v.k),.d (eI v.n),.d (.str v.s),.d (.str nm),.d da],.arr [[eI n]] 1 1 false,.arr [[eI n]] 1 0 false]) (λk o2=>k<=ys.length/\o2=(ys.take k).foldl ins out) (λk _=>ys.length-k) 0 out rfl rfl rfl rfl (λ_ _ _=>⟨rfl,rfl⟩) rfl ⟨N1 _,rfl⟩ ?_
   repeat' first|refine st ?_|refine⟨λ_=>?_,λ_=>?_⟩|fail
   intro k o2 ⟨q1,q2⟩
   cases hy:ys[k]? with
   |none=>
    have hge:=E9.1 hy
    rw[H4 hge,<- hs] at q2
    repeat' first|refine st ?_|refine⟨λ_=>?_,λ_=>?_⟩|fail
    exact⟨i+1,o2,rfl,rfl,rfl,by omega,by omega,q2⟩
   |some y=>
    have hklt:=(B4.1 hy).1
    have hgy:=N2 hy
    have hs2:=A5o ins out ys k y hy
    rw[<- q2] at hs2
    have hI:=B41 o2 (by
     have q3:=A93 (ys.take k) out
     rw[M4] at q3
     rw[q2];omega) y (.sl (A5 o2)) u4
    repeat' first|refine st ?_|refine⟨λ_=>?_,λ_=>?_⟩|fail
    exact⟨k+1,ins o2 y,rfl,rfl,rfl,by omega,by omega,hs2.symm⟩
 ·repeat' first|refine st ?_|refine⟨λ_=>?_,λ_=>?_⟩|fail
  refine C4F 3 rfl rfl rfl ?_
  repeat' first|refine st ?_|refine⟨λ_=>?_,λ_=>?_⟩|fail
  refine L6 A6 B7G B7x (λ(i:Nat) (out:List Int)=>[.d (.sl (A5 out)),.d (eI i)]) (λi out=>[.cells [.d (eI op),.d (eI n),.d (eI v.k),.d (eI v.n),.d (.str v.s),.d (.str nm),.d da],.arr [] 1 0 false]) (λi out=>i<=args.length/\out=(args.take i).foldl rcS (own op n)) (λi _=>args.length-i) 0 (own op n) rfl rfl (by rw[ho];rfl) rfl (λ_ _ _=>⟨rfl,rfl⟩) rfl ⟨N1 _,rfl⟩ ?_
  repeat' first|refine st ?_|refine⟨λ_=>?_,λ_=>?_⟩|fail
  intro i out ⟨h4,h5⟩
  cases hx:args[i]? with
  |none=>
   have hge:=E9.1 hx
   rw[H4 hge] at h5
   repeat' first|refine st ?_|refine⟨λ_=>?_,λ_=>?_⟩|fail
   rw[h5]
  |some x=>
   have hlt:=(B4.1 hx).1
   have hgx:=Y1 hx
   have hxm:=C3 hx
   have hxb:J8 x.ds<=D6 (xL args):=A23 (D7.2 ⟨x,hxm,rfl⟩)
   have hi:=ih x hxm (b4 x hxm)
   have hs:=A5o rcS (own op n) args i x hx
   rw[<- h5] at hs
   have hol:out.length<=1+D6 (xL args):=by
    have q1:=B27 (args.take i) (own op n)
    have q2:=C35 op n
    have q3:D6 (xL (args.take i))<=D6 (xL args):=B1y args i
    rw[h5];omega
   have hrl:=A58 x
   rw[<- A9v] at hrl
   obtain⟨ys,hys⟩:∃y,y=rcE x:=⟨_,rfl⟩
   have hss:rcS out x=ys.foldl ins out:=by rw[hys];rfl
   rw[hss] at hs
   rw[<- hys] at hi hrl
   unfold Ex.bk at hrl
   have hyl:=F9 ys
   obtain⟨o1,n1,v1,m1,l1,a1⟩:=x
   rw[Ex.ds_mk] at hgx
   rw[Ex.av_mk] at hi
   repeat' first|refine st ?_|refine⟨λ_=>?_,λ_=>?_⟩|fail
   refine L6 A6 B7F B7w (λ(k:Nat) (o2:List Int)=>[.d (.sl (A5 o2)),.d (eI k)]) (λk o2=>[.cells [.d (eI op),.d (eI n),.d (eI v.k),.d (eI v.n),.d (.str v.s),.d (.str nm),.d da],.arr [] 1 0 false]) (λk o2=>k<=ys.length/\o2=(ys.take k).foldl ins out) (λk _=>ys.length-k) 0 out rfl rfl rfl rfl (λ_ _ _=>⟨rfl,rfl⟩) rfl ⟨N1 _,rfl⟩ ?_
   repeat' first|refine st ?_|refine⟨λ_=>?_,λ_=>?_⟩|fail
   intro k o2 ⟨q1,q2⟩
   cases hy:ys[k]? with
   |none=>
    have hge:=E9.1 hy
    rw[H4 hge,<- hs] at q2
    repeat' first|refine st ?_|refine⟨λ_=>?_,λ_=>?_⟩|fail
    exact⟨i+1,o2,rfl,rfl,rfl,by omega,by omega,q2⟩
   |some y=>
    have hklt:=(B4.1 hy).1
    have hgy:=N2 hy
    have hs2:=A5o ins out ys k y hy
    rw[<- q2] at hs2
    have hI:=B41 o2 (by
     have q3:=A93 (ys.take k) out
     rw[M4] at q3
     rw[q2];omega) y (.sl (A5 o2)) u4
    repeat' first|refine st ?_|refine⟨λ_=>?_,λ_=>?_⟩|fail
    exact⟨k+1,ins o2 y,rfl,rfl,rfl,by omega,by omega,hs2.symm⟩
end Go.Proofs
end
section
namespace Go.Proofs
open Go.Bi
structure Cd where
 op:Int
 col:Int
 v:Vl
abbrev Cd.ds(c:Cd):List D:=[eI c.op,eI c.col,eI c.v.k,eI c.v.n,.str c.v.s]
abbrev Cd.av(c:Cd):AV:=.agg [.d (eI c.op),.d (eI c.col),.d (eI c.v.k),.d (eI c.v.n),.d (.str c.v.s)]
def mir(op:Int):Int:=if op=9 then 11 else if op=11 then 9 else if op=10 then 12 else if op=12 then 10 else op
def D5g(op:Int):Bool:=decide (op=7\/op=9\/op=10\/op=11\/op=12)
def D5x(op aop an:Int)(av:Vl)(bop bn:Int)(bv:Vl):Option Cd:=
 if aop=1 then (if bop=2/\av.k≠0/\O5 av=true then some ⟨mir op,bn,av⟩ else none)
 else if aop=2/\bop=1/\bv.k≠0/\O5 bv=true then some ⟨op,an,bv⟩ else none
def cond:Ex->Option Cd
 |.mk op _ _ _ _ [.mk aop an av _ _ _,.mk bop bn bv _ _ _]=>if D5g op then D5x op aop an av bop bn bv else none
 |_=>none
end Go.Proofs
end
section
namespace Go.Proofs
open Go.Bi
def okA(sz:Nat)(k:Nat)(A:List (List D)):Prop:=A.length+k<=2147483648/\∀e∈A,e.length=sz
end Go.Proofs
end
section
namespace Go.Proofs
open Go.Bi
theorem C1e{g:FuncId}{sz:Nat}(hsz:Nat.blt 0 sz=true){R:List (List D)}{ds:List D}(hE:B9 Tryz.prog A4S [.agg (ds.map .d),.clo g [0]] [.cells [.arr 1 0],.arr [] sz 0 true] (λr os=>r=.tup []/\os=[.cells [.arr 1 R.length],.arr R sz 0 R.isEmpty]))(E:List AV)(hEE:∀c∈E,∃x,c=.d x) :
  B9 Tryz.prog A4S [.agg (ds.map .d),.clo g [1]] [.cells E,.cells [.d .nil]] (λr os=>r=.tup []/\os=[.cells E,.cells [.arr 2 R.length],.arr R sz 0 R.isEmpty]):=by
 refine B9.nilc 1 0 sz hsz (cs:=[.d .nil]) rfl rfl ?_
 have:=B9.frame (K:=λr os=>r=.tup []/\os=[.cells E,.cells [.arr 2 R.length],.arr R sz 0 R.isEmpty]) hE [1,2] [.cells E,.cells [.arr 2 0],.arr [] sz 0 true] rfl (by decide) (λi o h=>by
  match i,h with
  |0,h=>cases h;rfl
  |1,h=>cases h;rfl
  |i+2,h=>simp at h) (λa ha=>by
   simp only[H2,U2,or_false] at ha
   rcases ha with rfl|rfl
   ·exact A08 _ _
   ·simp[AV.bnd2,AV.bnd1]) (λo ho=>by
   simp only[H2,U2,or_false] at ho
   rcases ho with rfl|rfl<;>simp[AO.bnd,AV.bnd1]) (by rintro r bs' ⟨rfl,rfl⟩;exact⟨rfl,rfl⟩)
 rw[H5,H5,V7,A2P] at this
 exact this
theorem C02(ds:List D):∀c∈ds.map AV.d,∃x,c=.d x:=λc hc=>by
 obtain⟨y,_,rfl⟩:=D7.1 hc
 exact⟨y,rfl⟩
def A2F(A:List (List D))(x:Ex):List (List D):=A++[(B0 0 x).ds]
theorem B9Z(l:List Ex):∀A,l.foldl A2F A=A++xL (l.map (B0 0)):=by
 induction l with
 |nil=>intro A;simp[xL]
 |cons x l ih=>
  intro A
  rw[s6,ih,A2F,S6]
  simp[xL]
theorem D9q(k:Int)(x:Ex):(B0 k x).ds.length=7:=by
 obtain⟨op,n,v,nm,nl,args⟩:=x
 rw[A1N,Ex.ds_mk];rfl
theorem B3z(x:Ex)(hx:x.bk<=1073741824)(k:Nat)(A:List (List D))(hA:okA 7 (k+1) A):okA 7 k (A2F A x)/\B9 Tryz.prog A8r [x.av,.ptr 0 0] [.cells [.arr 1 A.length],.arr A 7 0 A.isEmpty] (λr os=>r=.tup []/\os=[.cells [.arr 1 (A2F A x).length],.arr (A2F A x) 7 0 (A2F A x).isEmpty]):=by
 obtain⟨k1,k2⟩:=hA
 have hC:=A2v x hx 0
 have h7:=D9q 0 x
 unfold A2F
 refine⟨⟨by simp;omega,λe he=>?_⟩,?_⟩
 ·rcases K8.1 he with h|h
  ·exact k2 e h
  ·simp at h;subst h;exact h7
 obtain⟨z,hz⟩:∃z,z=B0 0 x:=⟨_,rfl⟩
 rw[<- hz] at hC ⊢
 obtain⟨op,n,v,nm,nl,args⟩:=x
 obtain⟨o2,n2,v2,m2,l2,a2⟩:=z
 rw[Ex.av_mk,Ex.av_mk] at hC
 rw[Ex.av_mk,Ex.ds_mk]
 have e1:(A++[T5 o2 n2 v2 m2 (ng l2 (xL a2))]).isEmpty=false:=by simp
 rw[e1]
 obtain⟨b,hb⟩:∃b,b=A.isEmpty:=⟨_,rfl⟩
 rw[<- hb]
 have g1:0<=(A.length:Int)/\(A.length:Int)<((A++[[eI 0,eI 0,eI 0,eI 0,.str [],.str [],.nil]]).length:Nat):=by simp;omega
 have g2:(A++[[eI 0,eI 0,eI 0,eI 0,.str [],.str [],.nil]])[(A.length:Int).toNat]?=some [eI 0,eI 0,eI 0,eI 0,.str [],.str [],.nil]:=by simp
 have g3:(A++[[eI 0,eI 0,eI 0,eI 0,.str [],.str [],.nil]]).set (A.length:Int).toNat (T5 o2 n2 v2 m2 (ng l2 (xL a2)))=A++[T5 o2 n2 v2 m2 (ng l2 (xL a2))]:=by simp
 refine C8t.goX A6 rfl ?_
 repeat' first|refine st ?_|((with_reducible apply A4);conv=>whnf)|refine⟨λ_=>?_,λ_=>?_⟩|fail
 all_goals exact⟨rfl,by simp⟩
theorem A7V(e:Ex)(he:e.bk<=1073741824):Pure Tryz.prog B1c [e.av] (.d (M8 (xL ((cj e).map (B0 0))))):=by
 have hl:=A3n e
 have hE:=(B3F A8r 7 A2F (okA 7) B3z e he 0 [] ⟨by simp;omega,by simp⟩).2
 rw[B9Z,A0M] at hE
 obtain⟨R,hR⟩:∃R,R=xL ((cj e).map (B0 0)):=⟨_,rfl⟩
 rw[<- hR] at hE ⊢
 obtain⟨op,n,v,nm,nl,args⟩:=e
 have hB:=C1e rfl hE ((T5 op n v nm (ng nl (xL args))).map .d) (C02 _)
 rw[Ex.ds_mk] at hB
 rw[Ex.av_mk]
 refine B4D.go A6 rfl ?_
 obtain⟨b,hb⟩:∃b,b=R.isEmpty:=⟨_,rfl⟩
 rw[<- hb] at hB
 unfold M8
 rw[<- hb]
 cases b with
 |true=>
  repeat' first|refine st ?_|((with_reducible apply A4);conv=>whnf)|((with_reducible first|apply O8|apply O7);(·exact hB);(try rintro _ _ ⟨rfl,rfl⟩))|((with_reducible apply O9);(·exact hB))|refine⟨λ_=>?_,λ_=>?_⟩|fail
  all_goals rfl
 |false=>
  repeat' first|refine st ?_|((with_reducible apply A4);conv=>whnf)|((with_reducible first|apply O8|apply O7);(·exact hB);(try rintro _ _ ⟨rfl,rfl⟩))|((with_reducible apply O9);(·exact hB))|refine⟨λ_=>?_,λ_=>?_⟩|fail
  all_goals rfl
theorem D6o{n:Int}{v:Vl}{nm:List UInt8}{k:Nat}:K3 5 n v nm k=x9 5 n v nm k:=by
 have hc:(T1 5 (k:Int)).1=decide (2<=k):=by
  unfold T1
  simp
  omega
 unfold K3 x9
 rw[hc,A0n]
 simp
 constructor
 ·rintro⟨⟨h1,h2⟩,h3,h4⟩;exact⟨h1,h3,h2,h4⟩
 ·rintro⟨h1,h3,h2,h4⟩;exact⟨⟨h1,h2⟩,h3,h4⟩
theorem C5F:∀e:Ex,e.bk<=1073741824->Pure Tryz.prog B8I [e.av] (.d (.sl (xL (cj e)))):=by
 refine Ex.ind λop n v nm nl args ih hb=>?_
 obtain⟨b1,b2,b3,b4⟩:=Ex.bk_bounds hb
 have h1:=P0 args
 have hm:=P2 args
 have hF:=B0l op n v nm (ng nl (xL args)) (xL args) C7 b2 (by omega)
 rw[h1] at hF
 rw[A0U,Ex.av_mk]
 obtain⟨da,hda⟩:∃d,d=ng nl (xL args):=⟨_,rfl⟩
 have hsd:A9 da (xL args):=by rw[hda];exact C7
 rw[<- hda] at hF ⊢
 have r1:v.s=v.s:=rfl
 have r2:nm=nm:=rfl
 by_cases h5:op=5
 rotate_left
 ·have:x9 op n v nm args.length=false:=by unfold x9;rw[decide_eq_false (λh=>h5 h.1)]
  rw[this,if_neg (by simp)]
  refine B0s.go A6 rfl ?_
  rw[show xL [Ex.mk op n v nm nl args]=[T5 op n v nm da] by rw[xL,H5,V7,Ex.ds_mk,hda]]
  repeat' first|refine st ?_|((with_reducible apply A4);conv=>whnf)|refine⟨λ_=>?_,λ_=>?_⟩|fail
  all_goals rfl
 subst h5
 rw[D6o] at hF
 cases hA:x9 5 n v nm args.length with
 |false=>
  rw[hA] at hF
  rw[if_neg (by simp)]
  refine B0s.go A6 rfl ?_
  rw[show xL [Ex.mk 5 n v nm nl args]=[T5 5 n v nm da] by rw[xL,H5,V7,Ex.ds_mk,hda]]
  repeat' first|refine st ?_|((with_reducible apply A4);conv=>whnf)|refine⟨λ_=>?_,λ_=>?_⟩|fail
  all_goals rfl
 |true=>
  rw[hA] at hF
  rw[if_pos rfl]
  refine B0s.go A6 rfl ?_
  obtain⟨R,hR⟩:∃R,R=xL (args.flatMap cj):=⟨_,rfl⟩
  rw[<- hR]
  have hbl:=Ex.bk_mk 5 n v nm nl args
  repeat' first|refine st ?_|((with_reducible apply A4);conv=>whnf)|refine⟨λ_=>?_,λ_=>?_⟩|fail
  refine L6 A6 D0D C9m (λ(i:Nat) (A:List (List D))=>[.arr 1 A.length,.d (eI i)]) (λi A=>[.cells [.d (eI 5),.d (eI n),.d (eI v.k),.d (eI v.n),.d (.str v.s),.d (.str nm),.d da],.arr A 7 0 false]) (λi A=>i<=args.length/\A=xL ((args.take i).flatMap cj)) (λi _=>args.length-i) 0 [] rfl rfl rfl rfl (λ_ _ _=>⟨rfl,rfl⟩) rfl ⟨by omega,rfl⟩ ?_
  repeat' first|refine st ?_|((with_reducible apply A4);conv=>whnf)|refine⟨λ_=>?_,λ_=>?_⟩|fail
  intro i A ⟨h4,h5⟩
  have hAl:A.length<=1073741824:=by
   rw[h5,P0]
   have:=D5c args i
   omega
  have hAm:∀e∈A,e.length=7:=by rw[h5];exact P2 _
  cases hx:args[i]? with
  |some x=>
   have hlt:=(B4.1 hx).1
   have hg:=Y1 hx
   have hi:=ih x (C3 hx) (b4 x (C3 hx))
   have hcl:=A3n x
   have hbx:=b4 x (C3 hx)
   have hs:A++xL (cj x)=xL ((args.take (i+1)).flatMap cj):=by rw[B1E hx,h5];simp[xL]
   obtain⟨B,hB⟩:∃B,B=xL (cj x):=⟨_,rfl⟩
   have hBl:B.length<=1073741824:=by rw[hB,P0];omega
   have hBm:∀e∈B,e.length=7:=by rw[hB];exact P2 _
   rw[<- hB] at hi hs
   obtain⟨o1,n1,v1,m1,l1,a1⟩:=x
   rw[Ex.ds_mk] at hg
   rw[Ex.av_mk] at hi
   repeat' first|refine st ?_|((with_reducible apply A4);conv=>whnf)|refine⟨λ_=>?_,λ_=>?_⟩|fail
   exact⟨i+1,A++B,rfl,rfl,by cases B<;>rfl,by omega,by omega,hs⟩
  |none=>
   have hge:=E9.1 hx
   rw[H4 hge,<- hR] at h5
   rw[<- h5]
   repeat' first|refine st ?_|((with_reducible apply A4);conv=>whnf)|refine⟨λ_=>?_,λ_=>?_⟩|fail
   all_goals rfl
end Go.Proofs
end
section
namespace Go.Proofs
open Go.Bi
def eqP(s op aop an bop bn:Int):Option (Int×Int):=
 if op=7/\aop=2/\bop=2/\min an bn<s/\s<=max an bn then some (min an bn,max an bn) else none
def eqn(s:Int):Ex->Option (Int×Int)
 |.mk op _ _ _ _ [.mk aop an _ _ _ _,.mk bop bn _ _ _ _]=>eqP s op aop an bop bn
 |_=>none
def eqs(s:Int)(e:Ex):List (Int×Int):=(cj e).filterMap (eqn s)
end Go.Proofs
end
section
namespace Go.Proofs
open Go.Bi
abbrev B9R:TypeId:=3
abbrev B9U:TypeId:=9
abbrev B9V:TypeId:=25
abbrev B1o:TypeId:=22
abbrev D4n:TypeId:=78
theorem A8D:Tryz.prog.cellsOf B9R=1:=by kernel_rfl
theorem C0v:Tryz.prog.cellsOf B9U=1:=by kernel_rfl
theorem C0w:Tryz.prog.cellsOf B9V=3:=by kernel_rfl
theorem A35{ds:List D}(h:WT Tryz.prog B9R ds):∃n,ds=[eI n]:=by
 obtain⟨a,ha,_,_⟩:=h.int' Tryz.underlying3
 exact⟨a,ha⟩
theorem C4o{ds:List D}(h:WT Tryz.prog B9U ds):∃s,ds=[.str s]:=by
 obtain⟨a,ha,_⟩:=h.str' Tryz.underlying9
 exact⟨a,ha⟩
theorem C4p{ds:List D}(h:WT Tryz.prog B9V ds):∃v:Vl,ds=v.ds:=by
 obtain⟨hl,hf⟩:=h.st' Tryz.underlying25
 rw[C0w] at hl
 match ds,hl with
 |[x,y,z],_=>
  have h0:=hf _ (W5 ..)
  have h1:=hf _ (I2 _ (W5 ..))
  have h2:=hf _ (I2 _ (I2 _ (W5 ..)))
  dsimp only at h0 h1 h2
  rw[A8D] at h0 h1
  rw[C0v] at h2
  obtain⟨a,ha⟩:=A35 h0
  obtain⟨b,hb⟩:=A35 h1
  obtain⟨s,hs⟩:=C4o h2
  simp at ha hb hs
  exact⟨⟨a,b,s⟩,by rw[ha,hb,hs]⟩
theorem E0e{ds:List D}(h:WT Tryz.prog B1o ds):∃d ks,ds=[d]/\A9 d (A5 ks):=by
 obtain⟨d,es,h1,h2,h4,h3⟩:=h.sl' Tryz.underlying22
 have:∃ks,es=A5 ks:=by
  clear h1 h2 h4
  induction es with
  |nil=>exact⟨[],rfl⟩
  |cons x es ih=>
   obtain⟨n,hn⟩:=A35 (h3 x (by simp))
   obtain⟨ks,hk⟩:=ih λy hy=>h3 y (by simp[hy])
   exact⟨n::ks,by rw[hn,hk];rfl⟩
 obtain⟨ks,rfl⟩:=this
 exact⟨d,ks,h1,h2⟩
theorem E0h{ds:List D}(h:WT Tryz.prog D4n ds):∃d row,ds=[d]/\A9 d (B6 row):=by
 obtain⟨d,es,h1,h2,h4,h3⟩:=h.sl' Tryz.underlying78
 have:∃row,es=B6 row:=by
  clear h1 h2 h4
  induction es with
  |nil=>exact⟨[],rfl⟩
  |cons x es ih=>
   obtain⟨n,hn⟩:=C4p (h3 x (by simp))
   obtain⟨ks,hk⟩:=ih λy hy=>h3 y (by simp[hy])
   exact⟨n::ks,by rw[hn,hk];rfl⟩
 obtain⟨ks,rfl⟩:=this
 exact⟨d,ks,h1,h2⟩
theorem D9u{d:D}{es:List (List D)}(h:A9 d es):D6 es<=J8 [d]:=by
 rcases h with ⟨rfl,rfl⟩|rfl
 ·simp[D6]
 ·simp only[J8,T6];omega
theorem D4U(H:Type):A4I (H:=H) Go.Proofs.YtfnaleemmeejcaaGreat.Rows.uptoBulk Go.Proofs.YtfnaleemmeejcaaGreat.Rows.uptoBulkAll where
 lit l:=by unfold Go.Proofs.YtfnaleemmeejcaaGreat.Rows.uptoBulk;split<;>simp_all
 str b:=by simp[Go.Proofs.YtfnaleemmeejcaaGreat.Rows.uptoBulk]
 nil:=by simp[Go.Proofs.YtfnaleemmeejcaaGreat.Rows.uptoBulk]
 sl es sp:=by simp[Go.Proofs.YtfnaleemmeejcaaGreat.Rows.uptoBulk]
 agg ps:=by simp[Go.Proofs.YtfnaleemmeejcaaGreat.Rows.uptoBulk]
 cons x l:=by simp[Go.Proofs.YtfnaleemmeejcaaGreat.Rows.uptoBulkAll]
end Go.Proofs
end
section
namespace Go.Proofs
open Go.Bi
abbrev B1n:TypeId:=26
abbrev B1m:TypeId:=28
theorem C0s:Tryz.prog.cellsOf B1n=1:=by kernel_rfl
theorem C0r:Tryz.prog.cellsOf B1m=7:=by kernel_rfl
theorem C4m{t:TypeId}{ds:List D}(h:WT Tryz.prog t ds):(t=B1m->∃e:Ex,ds=e.ds)/\(t=B1n->∃nl args,ds=[ng nl (xL args)]):=by
 induction h with
 |int h=>exact⟨λe=>(by subst e;rw[Tryz.underlying28] at h;cases h),λe=>(by subst e;rw[Tryz.underlying26] at h;cases h)⟩
 |bool h=>exact⟨λe=>(by subst e;rw[Tryz.underlying28] at h;cases h),λe=>(by subst e;rw[Tryz.underlying26] at h;cases h)⟩
 |str h=>exact⟨λe=>(by subst e;rw[Tryz.underlying28] at h;cases h),λe=>(by subst e;rw[Tryz.underlying26] at h;cases h)⟩
 |nil h=>exact⟨λe=>(by subst e;rw[Tryz.underlying28] at h;cases h),λe=>⟨true,[],rfl⟩⟩
 |@sl t e es h hl hs he ih=>
  refine⟨λe=>(by subst e;rw[Tryz.underlying28] at h;cases h),λe'=>?_⟩
  subst e'
  rw[Tryz.underlying26] at h
  cases h
  have:∃l,es=xL l:=by
   clear he hs hl
   induction es with
   |nil=>exact⟨[],rfl⟩
   |cons x es ihh=>
    obtain⟨n,hn⟩:=(ih x (by simp)).1 rfl
    obtain⟨ks,hk⟩:=ihh λy hy=>ih y (by simp[hy])
    exact⟨n::ks,by rw[hn,hk];rfl⟩
  obtain⟨l,rfl⟩:=this
  exact⟨false,l,rfl⟩
 |@st t fs ds h hl hf ih=>
  refine⟨λe=>?_,λe=>(by subst e;rw[Tryz.underlying26] at h;cases h)⟩
  subst e
  rw[Tryz.underlying28] at h
  cases h
  rw[C0r] at hl
  match ds,hl with
  |[d0,d1,d2,d3,d4,d5,d6],_=>
   have h0:=hf _ (W5 ..)
   have h1:=hf _ (I2 _ (W5 ..))
   have h2:=hf _ (I2 _ (I2 _ (W5 ..)))
   have h3:=hf _ (I2 _ (I2 _ (I2 _ (W5 ..))))
   have h4:=(ih _ (I2 _ (I2 _ (I2 _ (I2 _ (W5 ..)))))).2 rfl
   dsimp only at h0 h1 h2 h3 h4
   rw[A8D] at h0 h1
   rw[C0w] at h2
   rw[C0v] at h3
   rw[C0s] at h4
   obtain⟨a,ha⟩:=A35 h0
   obtain⟨b,hb⟩:=A35 h1
   obtain⟨v,hv⟩:=C4p h2
   obtain⟨s,hs⟩:=C4o h3
   obtain⟨nl,args,hx⟩:=h4
   simp at ha hb hs hx
   refine⟨.mk a b v s nl args,?_⟩
   rw[Ex.ds_mk,ha,hb,hs,hx]
   have hv:[d2,d3,d4]=[eI v.k,eI v.n,.str v.s]:=hv
   simp only[List.cons.injEq,and_true] at hv
   rw[hv.1,hv.2.1,hv.2.2]
theorem E0c{ds:List D}(h:WT Tryz.prog B1m ds):∃e:Ex,ds=e.ds:=(C4m h).1 rfl
end Go.Proofs
end
section
namespace Go.Proofs
open Go.Bi
mutual
def k9:Ex->Ex->Bool
 |.mk op n v name nl args,.mk op' n' v' name' nl' args'=>decide (op=op')&&decide (n=n')&&decide (v=v')&&decide (name=name')&&smL args args'
def smL:List Ex->List Ex->Bool
 |[],[]=>true
 |a::l,b::m=>k9 a b&&smL l m
 |[],_::_=>false
 |_::_,[]=>false
end
theorem A9L:∀l m,smL l m=(decide (l.length=m.length)&&(l.zip m).all λp=>k9 p.1 p.2)
 |[],[]=>by simp[smL]
 |a::l,b::m=>by
  rw[smL,A9L l m]
  simp only[H9,List.zip_cons_cons,A1l]
  cases k9 a b<;>simp
 |[],_::_=>by simp[smL]
 |_::_,[]=>by simp[smL]
theorem C3M(op n:Int)(v:Vl)(name:List UInt8)(nl:Bool)(args:List Ex)(op' n':Int)(v':Vl)(name':List UInt8)(nl':Bool)(args':List Ex):k9 (.mk op n v name nl args) (.mk op' n' v' name' nl' args')=(decide (op=op')&&decide (n=n')&&decide (v=v')&&decide (name=name')&&smL args args'):=by rw[k9]
theorem C04{α:Type}{p:α->Bool}{l:List α}{i:Nat}{x:α}(h:l[i]?=some x):(l.take (i+1)).all p=((l.take i).all p&&p x):=by
 rw[L8,h];simp
theorem C03{α:Type}{p:α->Bool}{l:List α}{i:Nat}{x:α}(h:l[i]?=some x)(hx:p x=false):l.all p=false:=by
 rw[A4G]
 intro e
 have:=L7.1 e x (C3 h)
 rw[hx] at this;cases this
theorem A7O{args:List Ex}(i:Nat)(op' n':Int)(v':Vl)(name':List UInt8)(nl':Bool)(args':List Ex)(h:args[i]?=some (.mk op' n' v' name' nl' args')):(xL args)[i]?=some (T5 op' n' v' name' (ng nl' (xL args'))):=by
 rw[<- Ex.ds_mk];exact Y1 h
theorem C4Y(args args':List Ex)(hl:args.length<=2147483648)(hl':args'.length<=2147483648)(ih:∀a∈args,∀b∈args',Pure Tryz.prog A6c [a.av,b.av] (.d (.bool (k9 a b))))(d d':D)(hd:A9 d (xL args))(hd':A9 d' (xL args')):Pure Tryz.prog B1f [.d d,.d d',.d (.fn A6c)] (.d (.bool (smL args args'))):=by
 refine C8w.go A6 rfl ?_
 have hlen:=P0 args
 have hm:=P2 args
 have hlen':=P0 args'
 have hm':=P2 args'
 have hget:=A7O (args:=args)
 have hget':=A7O (args:=args')
 obtain⟨es,hes⟩:∃es,es=xL args:=⟨_,rfl⟩
 rw[<- hes] at hlen hm hd hget
 obtain⟨es',hes'⟩:∃es,es=xL args':=⟨_,rfl⟩
 rw[<- hes'] at hlen' hm' hd' hget'
 obtain⟨q,hq⟩:∃q,q=smL args args':=⟨_,rfl⟩
 rw[<- hq]
 rw[A9L] at hq
 by_cases hll:args.length=args'.length
 rotate_left
 ·rw[decide_eq_false hll,A4H] at hq
  rw[hq]
  repeat' first|refine st ?_|refine⟨λ_=>?_,λ_=>?_⟩|fail
  all_goals first|rfl|(exfalso;omega)
 rw[decide_eq_true hll,Q4] at hq
 have hl2:es.length=es'.length:=by omega
 repeat' first|refine st ?_|refine⟨λ_=>?_,λ_=>?_⟩|fail
 refine K6 A6 D1i D01 (λ(i:Nat)=>[.d (eI i)]) (λi=>[]) (λi=>i<=args.length/\((args.zip args').take i).all (λp=>k9 p.1 p.2)=true) (λi=>args.length-i) 0 rfl rfl rfl rfl (λ_ _=>⟨rfl,rfl⟩) rfl ⟨by omega,rfl⟩ ?_
 repeat' first|refine st ?_|refine⟨λ_=>?_,λ_=>?_⟩|fail
 intro i ⟨h4,h5⟩
 cases hx:args[i]? with
 |some x=>
  have hlt:=(B4.1 hx).1
  obtain⟨y,hy⟩:∃y,args'[i]?=some y:=⟨_,F4 (by omega)⟩
  have hz:(args.zip args')[i]?=some (x,y):=B0H.2 ⟨hx,hy⟩
  have hI:=ih x (C3 hx) y (C3 hy)
  have hs:=C04 (p:=λp:Ex×Ex=>k9 p.1 p.2) hz
  have hn:=C03 (p:=λp:Ex×Ex=>k9 p.1 p.2) hz
  rw[h5,Q4] at hs
  dsimp only at hs hn
  obtain⟨b,hb⟩:∃b,b=k9 x y:=⟨_,rfl⟩
  rw[<- hb] at hI hs hn
  obtain⟨o1,n1,v1,m1,l1,a1⟩:=x
  obtain⟨o2,n2,v2,m2,l2,a2⟩:=y
  rw[Ex.av_mk,Ex.av_mk] at hI
  have hg:=hget i _ _ _ _ _ _ hx
  have hg':es'[((i:Nat):Int).toNat]?=_:=hget' i _ _ _ _ _ _ hy
  have hlt':(i:Int)<es'.length:=by omega
  cases b with
  |true=>
   repeat' first|refine st ?_|refine⟨λ_=>?_,λ_=>?_⟩|fail
   exact⟨i+1,rfl,rfl,rfl,by omega,by omega,hs⟩
  |false=>
   rw[hn rfl] at hq
   rw[hq]
   repeat' first|refine st ?_|refine⟨λ_=>?_,λ_=>?_⟩|fail
   all_goals rfl
 |none=>
  have hge:=E9.1 hx
  rw[H4 (by rw[A65];omega)] at h5
  rw[h5] at hq
  rw[hq]
  repeat' first|refine st ?_|refine⟨λ_=>?_,λ_=>?_⟩|fail
  all_goals rfl
theorem E0u:∀a:Ex,a.bk<=2147483648->∀b:Ex,b.bk<=2147483648->Pure Tryz.prog A6c [a.av,b.av] (.d (.bool (k9 a b))):=by
 refine Ex.ind λop n v name nl args ih hbk b hbb=>?_
 obtain⟨op',n',v',name',nl',args'⟩:=b
 obtain⟨b1,b2,b3,b4⟩:=Ex.bk_bounds hbk
 obtain⟨c1,c2,c3,c4⟩:=Ex.bk_bounds hbb
 have hE:=C4Y args args' b1 c1 (λa ha b hb=>ih a ha (b4 a ha) b (c4 b hb)) (ng nl (xL args)) (ng nl' (xL args')) C7 C7
 rw[Ex.av_mk,Ex.av_mk,C3M]
 obtain⟨d,hde⟩:∃d,d=ng nl (xL args):=⟨_,rfl⟩
 obtain⟨d',hde'⟩:∃d,d=ng nl' (xL args'):=⟨_,rfl⟩
 rw[<- hde,<- hde'] at hE ⊢
 refine C8a.go A6 rfl ?_
 obtain⟨q,hq⟩:∃q,q=smL args args':=⟨_,rfl⟩
 rw[<- hq] at hE ⊢
 have hv:decide (v=v')=(decide (v.k=v'.k)&&(decide (v.n=v'.n)&&decide (v.s=v'.s))):=by
  rw[A0n]
  simp only[decide_eq_true_eq,K7,A7M]
 rw[hv]
 repeat' first|refine st ?_|refine⟨λ_=>?_,λ_=>?_⟩|fail
 all_goals simp_all
theorem C5s:∀a:Ex,a.bk<=2147483648->∀b:Ex,b.bk<=2147483648->Pure Tryz.prog A8h [a.av,b.av] (.d (.bool (k9 a b))):=by
 refine Ex.ind λop n v name nl args ih hbk b hbb=>?_
 obtain⟨op',n',v',name',nl',args'⟩:=b
 obtain⟨b1,b2,b3,b4⟩:=Ex.bk_bounds hbk
 obtain⟨c1,c2,c3,c4⟩:=Ex.bk_bounds hbb
 have ih':∀a∈args,∀b∈args',Pure Tryz.prog A8h [a.av,b.av] (.d (.bool (k9 a b))):=λa ha b hb=>ih a ha (b4 a ha) b (c4 b hb)
 clear ih
 rw[Ex.av_mk,Ex.av_mk,C3M]
 have hd:A9 (ng nl (xL args)) (xL args):=C7
 have hd':A9 (ng nl' (xL args')) (xL args'):=C7
 have hlen:=P0 args
 have hm:=P2 args
 have hlen':=P0 args'
 have hm':=P2 args'
 have hget:=A7O (args:=args)
 have hget':=A7O (args:=args')
 obtain⟨d,hde⟩:∃d,d=ng nl (xL args):=⟨_,rfl⟩
 obtain⟨d',hde'⟩:∃d,d=ng nl' (xL args'):=⟨_,rfl⟩
 rw[<- hde] at hd ⊢
 rw[<- hde'] at hd' ⊢
 obtain⟨es,hes⟩:∃es,es=xL args:=⟨_,rfl⟩
 rw[<- hes] at hlen hm hd hget
 obtain⟨es',hes'⟩:∃es,es=xL args':=⟨_,rfl⟩
 rw[<- hes'] at hlen' hm' hd' hget'
 refine C7u.go A6 rfl ?_
 have hv:decide (v=v')=(decide (v.k=v'.k)&&(decide (v.n=v'.n)&&decide (v.s=v'.s))):=by
  rw[A0n]
  simp only[decide_eq_true_eq,K7,A7M]
 by_cases hall:op=op'/\n=n'/\v=v'/\name=name'/\args.length=args'.length
 rotate_left
 ·have hr:(decide (op=op')&&decide (n=n')&&decide (v=v')&&decide (name=name')&&smL args args')=false:=by
   rw[A4G]
   intro h
   simp only[K7,decide_eq_true_eq,A9L] at h
   exact hall ⟨h.1.1.1.1,h.1.1.1.2,h.1.1.2,h.1.2,h.2.1⟩
  rw[hr]
  clear hr
  have hlle:((es.length:Int)=es'.length)↔args.length=args'.length:=by omega
  rw[A7M] at hall
  clear hget hget' ih'
  by_cases g1:op=op'
  rotate_left
  ·repeat' first|refine st ?_|refine⟨λ_=>?_,λ_=>?_⟩|fail
   all_goals rfl
  by_cases g2:n=n'
  rotate_left
  ·repeat' first|refine st ?_|refine⟨λ_=>?_,λ_=>?_⟩|fail
   all_goals rfl
  by_cases g3:v.k=v'.k/\v.n=v'.n/\v.s=v'.s
  rotate_left
  ·repeat' first|refine st ?_|refine⟨λ_=>?_,λ_=>?_⟩|fail
   all_goals first|rfl|(exfalso;simp_all)
  obtain⟨g3,g4,g5⟩:=g3
  by_cases g6:name=name'
  rotate_left
  ·repeat' first|refine st ?_|refine⟨λ_=>?_,λ_=>?_⟩|fail
   all_goals first|rfl|(exfalso;simp_all)
  have g7:¬(es.length:Int)=es'.length:=λh=>hall ⟨g1,g2,⟨g3,g4,g5⟩,g6,hlle.1 h⟩
  repeat' first|refine st ?_|refine⟨λ_=>?_,λ_=>?_⟩|fail
  all_goals first|rfl|(exfalso;simp_all;done)|(exfalso;omega)
 obtain⟨rfl,rfl,rfl,rfl,hll⟩:=hall
 obtain⟨q,hq⟩:∃q,q=(decide (op=op)&&decide (n=n)&&decide (v=v)&&decide (name=name)&&smL args args'):=⟨_,rfl⟩
 rw[<- hq]
 rw[A9L,decide_eq_true hll] at hq
 simp only[decide_true,Q4] at hq
 have hl2:(es.length:Int)=es'.length:=by omega
 have hl3:es.length=es'.length:=by omega
 have r1:v.s=v.s:=rfl
 have r2:name=name:=rfl
 repeat' first|refine st ?_|refine⟨λ_=>?_,λ_=>?_⟩|fail
 refine K6 A6 D0w C9f (λ(i:Nat)=>[.d (eI i)]) (λi=>[.cells [.d (eI op),.d (eI n),.d (eI v.k),.d (eI v.n),.d (.str v.s),.d (.str name),.d d],.cells [.d (eI op),.d (eI n),.d (eI v.k),.d (eI v.n),.d (.str v.s),.d (.str name),.d d']]) (λi=>i<=args.length/\((args.zip args').take i).all (λp=>k9 p.1 p.2)=true) (λi=>args.length-i) 0 rfl rfl rfl rfl (λ_ _=>⟨rfl,rfl⟩) rfl ⟨by omega,rfl⟩ ?_
 repeat' first|refine st ?_|refine⟨λ_=>?_,λ_=>?_⟩|fail
 intro i ⟨h4,h5⟩
 cases hx:args[i]? with
 |some x=>
  have hlt:=(B4.1 hx).1
  obtain⟨y,hy⟩:∃y,args'[i]?=some y:=⟨_,F4 (by omega)⟩
  have hz:(args.zip args')[i]?=some (x,y):=B0H.2 ⟨hx,hy⟩
  have hI:=ih' x (C3 hx) y (C3 hy)
  have hs:=C04 (p:=λp:Ex×Ex=>k9 p.1 p.2) hz
  have hn:=C03 (p:=λp:Ex×Ex=>k9 p.1 p.2) hz
  rw[h5,Q4] at hs
  dsimp only at hs hn
  obtain⟨b,hb⟩:∃b,b=k9 x y:=⟨_,rfl⟩
  rw[<- hb] at hI hs hn
  obtain⟨o1,n1,v1,m1,l1,a1⟩:=x
  obtain⟨o2,n2,v2,m2,l2,a2⟩:=y
  rw[Ex.av_mk,Ex.av_mk] at hI
  have hg:=hget i _ _ _ _ _ _ hx
  have hg':es'[((i:Nat):Int).toNat]?=_:=hget' i _ _ _ _ _ _ hy
  have hlt':(i:Int)<es'.length:=by omega
  cases b with
  |true=>
   repeat' first|refine st ?_|refine⟨λ_=>?_,λ_=>?_⟩|fail
   exact⟨i+1,rfl,rfl,rfl,by omega,by omega,hs⟩
  |false=>
   rw[hn rfl] at hq
   rw[hq]
   repeat' first|refine st ?_|refine⟨λ_=>?_,λ_=>?_⟩|fail
   all_goals rfl
 |none=>
  have hge:=E9.1 hx
  rw[H4 (by rw[A65];omega)] at h5
  rw[h5] at hq
  rw[hq]
  repeat' first|refine st ?_|refine⟨λ_=>?_,λ_=>?_⟩|fail
  all_goals rfl
end Go.Proofs
end
section
namespace Go.Proofs
open Go.Bi
theorem D4W(nl:Bool)(l:List (List D)):T6 (ng nl l)=D6 l+1:=by
 unfold ng
 split
 ·rename_i h
  simp only[K7,A0r] at h
  rw[h.2];rfl
 ·rfl
theorem D4V(f:Ex->Ex)(l:List Ex)(h:∀a∈l,(f a).bk<=a.bk):D6 (xL (l.map f))<=D6 (xL l):=by
 induction l with
 |nil=>exact D3 _
 |cons a l ih=>
  have h1:=h a (by simp)
  have h2:=ih λx hx=>h x (by simp[hx])
  unfold Ex.bk at h1
  simp only[H5,xL,D6] at h2 ⊢
  omega
theorem A00(k:Int):∀e:Ex,(B0 k e).bk<=e.bk:=by
 refine Ex.ind λop n v nm nl args ih=>?_
 have h:=D4V (B0 k) args ih
 rw[A1N,Ex.bk,Ex.bk,Ex.ds_mk,Ex.ds_mk]
 simp only[J8,T6,D4W]
 omega
end Go.Proofs
end
section
namespace Go.Proofs
open Go.Bi
def J6(nl:Bool):List Ex->Ex
 |[]=>.mk 1 0 (Y0 true) [] true []
 |[x]=>x
 |l=>.mk 5 0 E6 [] nl l
theorem A2H{nl:Bool}{l:List Ex}(h:2<=l.length):J6 nl l=.mk 5 0 E6 [] nl l:=by
 match l,h with
 |_::_::_,_=>rfl
theorem C5k(v:Vl):Pure Tryz.prog B9q [eV v] (eX 1 0 v [] .nil):=by
 refine C8u.go A6 rfl ?_
 repeat' first|refine st ?_|refine⟨λ_=>?_,λ_=>?_⟩|fail
 all_goals rfl
theorem A7U(l:List Ex)(hb:∀x∈l,x.bk<=1073741824)(hl:l.length<=1073741824)(d:D)(hd:A9 d (xL l)):Pure Tryz.prog B9p [.d d] (J6 false (l.map (B0 0))).av:=by
 have h1:=P0 l
 have hm:=P2 l
 by_cases h0:l.length=0
 ·have hle:l=[]:=List.eq_nil_of_length_eq_zero h0
  subst hle
  rw[show(J6 false (List.map (B0 0) [])).av=eX 1 0 (Y0 true) [] .nil by rw[V7,J6,Ex.av_mk];rfl]
  have hB:=B4l true
  have hC:=C5k (Y0 true)
  refine B0z.go A6 rfl ?_
  obtain⟨es,hes⟩:∃es,es=xL ([]:List Ex):=⟨_,rfl⟩
  rw[<- hes] at h1 hm hd
  repeat' first|refine st ?_|refine⟨λ_=>?_,λ_=>?_⟩|fail
  all_goals rfl
 by_cases hone:l.length=1
 ·match l,hone with
  |[x],_=>
   have hS:=A2v x (hb x (by simp)) 0
   rw[H5,V7,J6]
   have hg:=Y1 (l:=[x]) (i:=0) rfl
   obtain⟨z,hz⟩:∃z,z=B0 0 x:=⟨_,rfl⟩
   rw[<- hz] at hS ⊢
   obtain⟨es,hes⟩:∃es,es=xL [x]:=⟨_,rfl⟩
   rw[<- hes] at h1 hm hd hg
   have h1:es.length=1:=h1
   obtain⟨o1,n1,v1,m1,l1,a1⟩:=x
   obtain⟨o2,n2,v2,m2,l2,a2⟩:=z
   rw[Ex.av_mk,Ex.av_mk] at hS
   rw[Ex.av_mk]
   rw[Ex.ds_mk] at hg
   refine B0z.go A6 rfl ?_
   repeat' first|refine st ?_|refine⟨λ_=>?_,λ_=>?_⟩|fail
   all_goals rfl
 rw[A2H (by rw[D8];omega),Ex.av_mk]
 obtain⟨R,hR⟩:∃R,R=xL (l.map (B0 0)):=⟨_,rfl⟩
 rw[<- hR]
 rw[show ng false R=.sl R by unfold ng;simp]
 have hg0:=A7O (args:=l)
 obtain⟨es,hes⟩:∃es,es=xL l:=⟨_,rfl⟩
 rw[<- hes] at h1 hm hd hg0
 refine B0z.go A6 rfl ?_
 repeat' first|refine st ?_|refine⟨λ_=>?_,λ_=>?_⟩|fail
 refine E0r 1 6 7 rfl rfl rfl ?_
 refine L6 A6 D1g C9Z (λ(i:Nat) (w:List (List D)×Bool)=>[.d (eI i)]) (λi w=>[.cells [.d (eI 0),.d (eI 0),.d (eI 0),.d (eI 0),.d (.str []),.d (.str []),.d .nil],.cells [.d (eI 5),.d (eI 0),.d (eI 0),.d (eI 0),.d (.str []),.d (.str []),.arr 2 w.1.length],.arr w.1 7 0 w.2]) (λi w=>i<=l.length/\w.1=Mt (B0 0) l i/\w.2=w.1.isEmpty) (λi _=>l.length-i) 0 ([],true) rfl rfl rfl rfl (λ_ _ _=>⟨rfl,rfl⟩) rfl ⟨by omega,rfl,rfl⟩ ?_
 repeat' first|refine st ?_|refine⟨λ_=>?_,λ_=>?_⟩|fail
 intro i w ⟨h4,h5,h6⟩
 obtain⟨A,b⟩:=w
 dsimp only at h5 h6 ⊢
 have hAl:A.length=i:=by rw[h5];exact B7Q _ l i (by omega)
 have hAm:∀e∈A,e.length=7:=by rw[h5];exact B7R _ _ _
 cases hx:l[i]? with
 |some x=>
  have hlt:=(B4.1 hx).1
  have hs:=B7S (φ:=B0 0) hx
  have hS:=A2v x (hb x (C3 hx)) 0
  rw[<- h5] at hs
  obtain⟨z,hz⟩:∃z,z=B0 0 x:=⟨_,rfl⟩
  rw[<- hz] at hs hS
  obtain⟨o1,n1,v1,m1,l1,a1⟩:=x
  obtain⟨o2,n2,v2,m2,l2,a2⟩:=z
  have hg:=hg0 _ _ _ _ _ _ _ hx
  rw[Ex.ds_mk] at hs
  rw[Ex.av_mk,Ex.av_mk] at hS
  repeat' first|refine st ?_|refine⟨λ_=>?_,λ_=>?_⟩|fail
  exact⟨i+1,(A++[T5 o2 n2 v2 m2 (ng l2 (xL a2))],false),rfl,rfl,rfl,by omega,by omega,hs,by simp⟩
 |none=>
  have hge:=E9.1 hx
  rw[B7P hge,<- hR] at h5
  have h7:b=false:=by rw[h6,List.isEmpty_eq_false_iff];intro h;rw[h] at hAl;simp at hAl;omega
  rw[<- h5]
  rw[h7]
  repeat' first|refine st ?_|refine⟨λ_=>?_,λ_=>?_⟩|fail
  all_goals rfl
end Go.Proofs
end
section
namespace Go.Proofs
open Go.Bi
def C0G(n:Int):List Int->Nat
 |[]=>0
 |z::l=>if (z::l).getD l.length 0<n then 0 else if n<=z then 1 else 2
def P9(n:Int)(x:Ex):Nat:=C0G n (T2 x)
theorem A56(n:Int)(x:Ex):(P9 n x=0/\T2 x=[])\/∃y z,(T2 x)[(T2 x).length-1]?=some y/\(T2 x)[0]?=some z/\((P9 n x=0/\y<n)\/(P9 n x=1/\¬y<n/\n<=z)\/(P9 n x=2/\¬y<n/\¬n<=z)):=by
 unfold P9
 cases hc:T2 x with
 |nil=>exact .inl ⟨rfl,rfl⟩
 |cons z l=>
  right
  have hy:(z::l)[(z::l).length-1]?=some ((z::l).getD l.length 0):=by
   rw[I4,H9,A6f,F4 (by simp)];rfl
  refine⟨_,z,hy,rfl,?_⟩
  rw[C0G]
  by_cases h1:(z::l).getD l.length 0<n
  ·rw[if_pos h1];exact .inl ⟨rfl,h1⟩
  ·rw[if_neg h1]
   by_cases h2:n<=z
   ·rw[if_pos h2];exact .inr (.inl ⟨rfl,h1,h2⟩)
   ·rw[if_neg h2];exact .inr (.inr ⟨rfl,h1,h2⟩)
def C6(n:Int)(k:Nat)(L:List Ex):List Ex:=L.filter λx=>decide (P9 n x=k)
def St7(nl:Bool)(w:List (List D)×Bool)(l:List Ex)(i:Nat):Prop:=(∀e∈w.1,e.length=7)/\w.1.length<=i/\w.1=xL l/\w.2=(nl&&w.1.isEmpty)
theorem A5G{nl:Bool}{n:Int}{k:Nat}:St7 nl ([],nl) (C6 n k ([]:List Ex)) 0:=by
 refine⟨by simp,by simp,rfl,by simp⟩
theorem A5H(nl:Bool){n:Int}{L:List Ex}{i:Nat}{x:Ex}(hx:L[i]?=some x)(k:Nat){A:List (List D)}{c:Bool} :
  (P9 n x=k->(∀e∈A,e.length=7)->A.length<=i->A=xL (C6 n k (L.take i))->c=(nl&&A.isEmpty)->St7 nl (A++[x.ds],false) (C6 n k (L.take (i+1))) (i+1))/\
  (P9 n x≠k->(∀e∈A,e.length=7)->A.length<=i->A=xL (C6 n k (L.take i))->c=(nl&&A.isEmpty)->St7 nl (A,c) (C6 n k (L.take (i+1))) (i+1)):=by
 have e:L.take (i+1)=L.take i++[x]:=by rw[L8,hx];rfl
 constructor
 ·intro h m l ea ec
  refine⟨λy hy=>?_,by simp;omega,?_,by simp⟩
  ·rcases K8.1 hy with hy|hy
   ·exact m y hy
   ·cases M7.1 hy
    exact P2 [x] _ (by simp[xL])
  ·rw[e,ea]
   unfold C6
   rw[v7]
   simp[xL,h]
 ·intro h m l ea ec
  refine⟨m,by dsimp only;omega,?_,ec⟩
  rw[e]
  unfold C6 at ea ⊢
  rw[v7]
  dsimp only
  rw[ea]
  simp[h]
theorem A3J(l:List (List D)):M8 l=ng true l:=by unfold M8 ng;rw[Q4]
theorem B3R(n:Int)(e:Ex)(he:e.bk<=1073741824):Pure Tryz.prog A4R [e.av,.d (eI n)] (.tup [.d (M8 (xL (C6 n 0 ((cj e).map (B0 0))))),.d (M8 (xL (C6 n 1 ((cj e).map (B0 0))))),.d (M8 (xL (C6 n 2 ((cj e).map (B0 0)))))]):=by
 have hj:=A7V e he
 have hLb:∀x∈(cj e).map (B0 0),x.bk<=1073741824:=λx hx=>by
  obtain⟨y,hy,rfl⟩:=D7.1 hx
  have h1:=B1C e y hy
  have h2:=A00 0 y
  omega
 have hLl:((cj e).map (B0 0)).length<=1073741824:=by rw[D8];have:=A3n e;omega
 obtain⟨L,hL⟩:∃L,L=(cj e).map (B0 0):=⟨_,rfl⟩
 rw[<- hL] at hj hLb hLl ⊢
 have hxl:=P0 L
 have hxm:=P2 L
 have hsL:A9 (M8 (xL L)) (xL L):=B38
 obtain⟨dL,hdL⟩:∃d,d=M8 (xL L):=⟨_,rfl⟩
 rw[<- hdL] at hj hsL
 obtain⟨op,k,v,nm,nl,args⟩:=e
 rw[Ex.av_mk] at hj ⊢
 obtain⟨da,hda⟩:∃d,d=ng nl (xL args):=⟨_,rfl⟩
 rw[<- hda] at hj ⊢
 clear hda hdL hL he
 have r0:v.k=v.k:=rfl
 have r1:v.s=v.s:=rfl
 have r2:nm=nm:=rfl
 refine B4E.go A6 rfl ?_
 repeat' first|refine st ?_|refine⟨λ_=>?_,λ_=>?_⟩|fail
 refine U7 7 7 rfl rfl ?_
 repeat' first|refine st ?_|refine⟨λ_=>?_,λ_=>?_⟩|fail
 refine U7 8 7 rfl rfl ?_
 repeat' first|refine st ?_|refine⟨λ_=>?_,λ_=>?_⟩|fail
 refine U7 9 7 rfl rfl ?_
 repeat' first|refine st ?_|refine⟨λ_=>?_,λ_=>?_⟩|fail
 refine C4G A6 B7N B7E (λ(i:Nat) (w1 w2 w3:List (List D)×Bool)=>[.arr 1 w1.1.length,.arr 2 w2.1.length,.arr 3 w3.1.length,.d (eI i)]) (λi w1 w2 w3=>[.cells [.d (eI op),.d (eI k),.d (eI v.k),.d (eI v.n),.d (.str v.s),.d (.str nm),.d da],.arr w1.1 7 0 w1.2,.arr w2.1 7 0 w2.2,.arr w3.1 7 0 w3.2]) (λi w1 w2 w3=>i<=L.length/\St7 true w1 (C6 n 0 (L.take i)) i/\St7 true w2 (C6 n 1 (L.take i)) i/\St7 true w3 (C6 n 2 (L.take i)) i) (λi _ _ _=>L.length-i) 0 ([],true) ([],true) ([],true) rfl rfl rfl rfl (λ_ _ _ _ _=>⟨rfl,rfl⟩) rfl ⟨N1 _,A5G,A5G,A5G⟩ ?_
 repeat' first|refine st ?_|refine⟨λ_=>?_,λ_=>?_⟩|fail
 intro i w1 w2 w3 ⟨h1,h2,h3,h4⟩
 obtain⟨A1,c1⟩:=w1
 obtain⟨A2,c2⟩:=w2
 obtain⟨A3,c3⟩:=w3
 obtain⟨m1,l1,e1,f1⟩:=h2
 obtain⟨m2,l2,e2,f2⟩:=h3
 obtain⟨m3,l3,e3,f3⟩:=h4
 dsimp only at m1 l1 e1 f1 m2 l2 e2 f2 m3 l3 e3 f3 ⊢
 cases hx:L[i]? with
 |none=>
  have hge:=E9.1 hx
  rw[H4 hge] at e1 e2 e3
  rw[<- e1,<- e2,<- e3]
  repeat' first|refine st ?_|refine⟨λ_=>?_,λ_=>?_⟩|fail
  all_goals
   rw[Q4] at f1 f2 f3
   rw[B2y f1,B2y f2,B2y f3]
 |some x=>
  have hlt:=(B4.1 hx).1
  have hgx:=Y1 hx
  have hxin:=C3 hx
  have hC:=B3H x (hLb x hxin)
  have hks:A9 (A3p x) (A5 (T2 x)):=C0U x
  have hcl:=A58 x
  have hxb:=hLb x hxin
  have s0:=A5H true (n:=n) (A:=A1) (c:=c1) hx 0
  have s1:=A5H true (n:=n) (A:=A2) (c:=c2) hx 1
  have s2:=A5H true (n:=n) (A:=A3) (c:=c3) hx 2
  have hcs:=A56 n x
  obtain⟨ks,hk⟩:∃y,y=T2 x:=⟨_,rfl⟩
  obtain⟨dk,hdk⟩:∃y,y=A3p x:=⟨_,rfl⟩
  rw[<- hk] at hks hcl hcs
  rw[<- hdk] at hC hks
  have hkl:=F9 ks
  obtain⟨o1,n1,v1,u1,b1,a1⟩:=x
  rw[Ex.ds_mk] at hgx
  rw[Ex.av_mk] at hC
  simp only[Ex.ds_mk] at s0 s1 s2
  rcases hcs with ⟨hc,hks0⟩|⟨y,z,hy,hz,hcc⟩
  ·have hks0':ks.length=0:=by rw[hks0];rfl
   rw[hc] at s0 s1 s2
   repeat' first|refine st ?_|refine⟨λ_=>?_,λ_=>?_⟩|fail
   all_goals exact⟨i+1,(A1++[_],_),(A2,c2),(A3,c3),rfl,rfl,rfl,by omega,by omega,s0.1 rfl m1 l1 e1 f1,s1.2 (by decide) m2 l2 e2 f2,s2.2 (by decide) m3 l3 e3 f3⟩
  ·have hpos:=(B4.1 hz).1
   have hg1:(A5 ks)[((ks.length:Int)-1).toNat]?=some [eI y]:=by
    rw[show((ks.length:Int)-1).toNat=ks.length-1 by omega];exact N2 hy
   have hg1':(A5 ks)[(((A5 ks).length:Int)-1).toNat]?=some [eI y]:=by rw[hkl];exact hg1
   have hg2:(A5 ks)[0]?=some [eI z]:=N2 hz
   have hg3:(A5 ks)[(0:Int).toNat]?=some [eI z]:=hg2
   have hk0:ks.length≠0:=by omega
   rcases hcc with ⟨hc,q1⟩|⟨hc,q1,q2⟩|⟨hc,q1,q2⟩
   ·rw[hc] at s0 s1 s2
    repeat' first|refine st ?_|refine⟨λ_=>?_,λ_=>?_⟩|fail
    all_goals exact⟨i+1,(A1++[_],_),(A2,c2),(A3,c3),rfl,rfl,rfl,by omega,by omega,s0.1 rfl m1 l1 e1 f1,s1.2 (by decide) m2 l2 e2 f2,s2.2 (by decide) m3 l3 e3 f3⟩
   ·rw[hc] at s0 s1 s2
    repeat' first|refine st ?_|refine⟨λ_=>?_,λ_=>?_⟩|fail
    all_goals exact⟨i+1,(A1,c1),(A2++[_],_),(A3,c3),rfl,rfl,rfl,by omega,by omega,s0.2 (by decide) m1 l1 e1 f1,s1.1 rfl m2 l2 e2 f2,s2.2 (by decide) m3 l3 e3 f3⟩
   ·rw[hc] at s0 s1 s2
    repeat' first|refine st ?_|refine⟨λ_=>?_,λ_=>?_⟩|fail
    all_goals exact⟨i+1,(A1,c1),(A2,c2),(A3++[_],_),rfl,rfl,rfl,by omega,by omega,s0.2 (by decide) m1 l1 e1 f1,s1.2 (by decide) m2 l2 e2 f2,s2.1 rfl m3 l3 e3 f3⟩
end Go.Proofs
end
