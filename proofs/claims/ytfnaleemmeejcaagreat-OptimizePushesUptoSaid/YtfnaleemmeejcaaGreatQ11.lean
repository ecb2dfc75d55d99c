/- Texts of this claim, joined. No condition. -/
import Derived.Test.YtfnaleemmeejcaaGreatQ10
set_option linter.unusedSimpArgs false
set_option linter.unusedVariables false
set_option maxRecDepth 10000
set_option maxHeartbeats 4000000
section
namespace Go.Proofs
open Go.Bi
theorem B3A(q:Pl)(hq:q.bk<=1073741824)(input s0 s1:Int)(hs:D9 q=[s0,s1])(hc:(s0=input/\s1≠input)\/(s0≠input/\s1=input))(x:Ex)(hxb:x.bk<=1073741824)(b1 b2:Bool)(hf:Pure Tryz.prog A3b [q.av,.d (eI input)] (.tup [.d (.sl [x.ds]),.d (.bool b1),.d (.bool b2)])) :
  Pure Tryz.prog A8p [q.av,.d (eI input)] (.d (.sl [(B0 0 x).ds])):=by
 have hS:=B3P q hq
 rw[hs,show ng true (A5 [s0,s1])=.sl [[eI s0],[eI s1]] from rfl] at hS
 have hC:=B0i [x] (by simp) (λy hy=>by rw[M7.1 hy];exact hxb) (.sl [x.ds]) (.inr rfl)
 rw[show ng true (xL ([x].map (B0 0)))=.sl [(B0 0 x).ds] from rfl] at hC
 clear hs hxb
 obtain⟨d1,hd1⟩:∃d,d=D.sl [x.ds]:=⟨_,rfl⟩
 obtain⟨d2,hd2⟩:∃d,d=D.sl [(B0 0 x).ds]:=⟨_,rfl⟩
 rw[<- hd1] at hf hC
 rw[<- hd2] at hC ⊢
 clear hd1 hd2
 obtain⟨ao,an,ak,ar,axo,axn,axv,axm,axd,adx,ady,ada,adi,a1,a2⟩:=Pl.cut q
 rw[a2] at hS hf ⊢
 clear a1 a2
 rcases hc with ⟨rfl,h⟩|⟨h,rfl⟩
 ·refine B4x.go A6 rfl ?_
  repeat' first|refine st ?_|((with_reducible apply A4);conv=>whnf)|refine⟨λ_=>?_,λ_=>?_⟩|fail
  refine A2r 3 (u6 A6 ?_)
  repeat' first|refine st ?_|((with_reducible apply A4);conv=>whnf)|refine⟨λ_=>?_,λ_=>?_⟩|fail
  refine u6 A6 ?_
  repeat' first|refine st ?_|((with_reducible apply A4);conv=>whnf)|refine⟨λ_=>?_,λ_=>?_⟩|fail
  refine u6 A6 ?_
  repeat' first|refine st ?_|((with_reducible apply A4);conv=>whnf)|refine⟨λ_=>?_,λ_=>?_⟩|fail
  all_goals rfl
 ·refine B4x.go A6 rfl ?_
  repeat' first|refine st ?_|((with_reducible apply A4);conv=>whnf)|refine⟨λ_=>?_,λ_=>?_⟩|fail
  refine A2r 3 (u6 A6 ?_)
  repeat' first|refine st ?_|((with_reducible apply A4);conv=>whnf)|refine⟨λ_=>?_,λ_=>?_⟩|fail
  refine u6 A6 ?_
  repeat' first|refine st ?_|((with_reducible apply A4);conv=>whnf)|refine⟨λ_=>?_,λ_=>?_⟩|fail
  refine u6 A6 ?_
  repeat' first|refine st ?_|((with_reducible apply A4);conv=>whnf)|refine⟨λ_=>?_,λ_=>?_⟩|fail
  all_goals rfl
abbrev A3X:Ex:=A2M ⟨3,1,[]⟩
abbrev zX:Ex:=.mk 0 0 E6 [] true []
abbrev V6(i:Int):Pl:=Q7 1 i zX []
abbrev A1G:Pl:=Q7 5 0 A3X [V6 0,V6 1]
abbrev A48:Ex:=.mk 5 0 E6 [] true [H0 0 1,H0 2 2]
abbrev pA:Pl:=Q7 3 0 A48 [A1G]
abbrev fl0:Pl:=Q7 3 0 (H0 0 1) [V6 0]
abbrev fl1:Pl:=Q7 3 0 (H0 0 2) [V6 1]
abbrev qA:Pl:=Q7 5 0 A3X [fl0,fl1]
abbrev A9c:Pl:=Q7 6 0 A3X [V6 0,V6 1]
abbrev K2:List Kw:=[⟨false,[1,1]⟩,⟨false,[1,1]⟩]
theorem B1U(i n:Int):(H0 i n).ds=[eI 7,eI 0,eI 0,eI 0,.str [],.str [],.sl [[eI 2,eI i,eI 0,eI 0,.str [],.str [],.nil],[eI 1,eI 0,eI 1,eI n,.str [],.str [],.nil]]]:=by
 rw[Ex.ds_mk];rfl
theorem D66(i n:Int):(H0 i n).av=eX 7 0 E6 [] (.sl [[eI 2,eI i,eI 0,eI 0,.str [],.str [],.nil],[eI 1,eI 0,eI 1,eI n,.str [],.str [],.nil]]):=by
 rw[Ex.av_mk];rfl
theorem C3D(i:Int):(V6 i).ds=K1 1 i .nil .nil 0 0 E6 [] .nil .nil .nil .nil .nil:=by
 rw[B2G];rfl
theorem D6T:A1G.ds=K1 5 0 .nil .nil 1 0 ⟨3,1,[]⟩ [] .nil .nil .nil .nil (.sl [(V6 0).ds,(V6 1).ds]):=by
 rw[B2G];rfl
theorem D8A:pA.av=G3 3 0 .nil .nil 5 0 E6 [] (.sl [(H0 0 1).ds,(H0 2 2).ds]) .nil .nil .nil (.sl [A1G.ds]):=by
 rw[A0h];rfl
theorem D7n:A9c.av=G3 6 0 .nil .nil 1 0 ⟨3,1,[]⟩ [] .nil .nil .nil .nil (.sl [(V6 0).ds,(V6 1).ds]):=by
 rw[A0h];rfl
theorem D8X:qA.av=G3 5 0 .nil .nil 1 0 ⟨3,1,[]⟩ [] .nil .nil .nil .nil (.sl [fl0.ds,fl1.ds]):=by
 rw[A0h];rfl
theorem A1a(k i n:Int):B0 k (H0 i n)=H0 (M5 (i+k)) n:=rfl
theorem A4h(i n:Int):(H0 i n).bk<=100:=by
 rw[Ex.bk,B1U];simp[J8,T6,D6]
theorem D5t(i n:Int):T2 (H0 i n)=[i]:=by
 have:L5 (H0 i n)=[i]:=rfl
 unfold T2
 rw[this]
 simp[srt,Lib.compact]
 rfl
theorem B1F(m i n:Int):P9 m (H0 i n)=if i<m then 0 else 1:=by
 unfold P9
 rw[D5t]
 show(if i<m then 0 else if m<=i then 1 else 2)=_
 by_cases h:i<m
 ·rw[if_pos h,if_pos h]
 ·rw[if_neg h,if_neg h,if_pos (by omega)]
theorem w0:M5 (0+0)=0:=by decide
theorem w2:M5 (2+0)=2:=by decide
theorem wm:M5 (2+(0-((2:Nat):Int)))=0:=by decide
theorem D8S:(cj (B0 0 A48)).map (B0 0)=[H0 0 1,H0 2 2]:=by
 have h1:B0 0 A48=.mk 5 0 E6 [] true [H0 0 1,H0 2 2]:=by
  show Ex.mk 5 0 E6 [] true [B0 0 (H0 0 1),B0 0 (H0 2 2)]=_
  rw[A1a,A1a,w0,w2]
 have h2:cj (.mk 5 0 E6 [] true [H0 0 1,H0 2 2])=[H0 0 1,H0 2 2]:=rfl
 rw[h1,h2,H5,H5,V7,A1a,A1a,w0,w2]
theorem A6x:C8 [H0 0 1,H0 2 2]=[H0 0 1,H0 2 2]:=by
 unfold C8
 rw[H5,H5,V7,A1a,A1a,w0,w2]
 have h2:cj (J6 false [H0 0 1,H0 2 2])=[H0 0 1,H0 2 2]:=rfl
 rw[h2,H5,H5,V7,A1a,A1a,w0,w2]
theorem D9j:C6 ((2:Nat):Int) 0 [H0 0 1,H0 2 2]=[H0 0 1]:=by
 unfold C6
 simp[B1F]
theorem D9k:C6 ((2:Nat):Int) 1 [H0 0 1,H0 2 2]=[H0 2 2]:=by
 unfold C6
 simp[B1F]
theorem D9l:C6 ((2:Nat):Int) 2 [H0 0 1,H0 2 2]=[]:=by
 unfold C6
 simp[B1F]
theorem D6l(p:Pl)(n:Int):N3 p [H0 0 n]=Q7 3 0 (H0 0 n) [p]:=by
 show Q7 3 0 (J6 false [B0 0 (H0 0 n)]) [p]=_
 rw[A1a,w0];rfl
theorem C36:pA.bk<=1000:=by decide
theorem B2T:qA.bk<=1000:=by decide
theorem D6S:A1G.bk<=1000:=by decide
theorem D9h:(V6 0).bk<=1000:=by decide
theorem D9i:(V6 1).bk<=1000:=by decide
theorem D7o:A9c.bk<=1000:=by decide
theorem E0s:A3X.bk<=1000:=by decide
theorem E0t:zX.bk<=1000:=by decide
theorem D4w:A48.bk<=1000:=by decide
theorem D4x:(B0 0 A48).bk<=1000:=by decide
theorem D4t:(J6 false ([H0 0 1,H0 2 2].map (B0 0))).bk<=1000:=by decide
theorem kA:(C4 K2 pA).2=0/\(C4 K2 pA).1.ks=[1,1,1,1]:=by decide
theorem kQ:(C4 K2 qA).2=0/\(C4 K2 qA).1.ks=[1,1,1,1]:=by decide
theorem kS:(C4 K2 (V6 0)).1.ks=[1,1]:=by decide
theorem scA:D9 pA=[0,1]:=by decide
theorem scQ:D9 qA=[0,1]:=by decide
theorem szL:I3 [3,0] A9c=3:=by decide
theorem B1W(l:List Ex)(h:∀x∈l,∃i n,x=H0 i n):∀x∈l,x.bk<=1073741824:=λx hx=>by
 obtain⟨i,n,rfl⟩:=h x hx
 have:=A4h i n
 omega
theorem K2b:∀k∈K2,k.ks.length<=4294967296:=by
 intro k hk
 simp only[H2,U2,or_false] at hk
 rcases hk with rfl|rfl<;>decide
theorem D8C(din:D)(hin:A9 din (E7 K2)):B9 Tryz.prog m6 [.ptr 0 0,U6 A1G (C4 K2 A1G).1.d,.d (M8 (xL ((cj (B0 0 A48)).map (B0 0))))] (F7 din) (λr os=>r=qA.av/\os=F7 din):=by
 rw[D8S]
 have hb1:∀x∈[H0 0 1],x.bk<=1073741824:=B1W _ λx hx=>⟨0,1,M7.1 hx⟩
 have hb2:∀x∈[H0 0 2],x.bk<=1073741824:=B1W _ λx hx=>⟨0,2,M7.1 hx⟩
 have hb3:∀x∈[H0 0 1,H0 2 2],x.bk<=1073741824:=B1W _ λx hx=>by
  simp only[H2,U2,or_false] at hx
  rcases hx with rfl|rfl
  ·exact⟨0,1,rfl⟩
  ·exact⟨2,2,rfl⟩
 have hA:=B0j din (po0 1 0 zX) true [] ⟨by decide,by decide,by decide⟩ (C4 K2 (V6 0)).1.d [H0 0 1] hb1 (by decide) (M8 (xL [H0 0 1])) (by rw[A3J];exact C7)
 have hB:=B0j din (po0 1 1 zX) true [] ⟨by decide,by decide,by decide⟩ (C4 K2 (V6 1)).1.d [H0 0 2] hb2 (by decide) (ng true (xL [H0 0 2])) C7
 rw[D6l] at hA hB
 have hsh:[H0 2 2].map (B0 (0-((2:Nat):Int)))=[H0 0 2]:=by
  rw[H5,V7,A1a,wm]
 have h:=C5i K2 (by decide) K2b din hin 0 A3X (V6 0) (V6 1) (K4 D9h (by decide)) (K4 D9i (by decide)) (C4 K2 A1G).1.d [H0 0 1,H0 2 2] hb3 (by decide) (M8 (xL [H0 0 1,H0 2 2])) (by rw[A3J];exact C7)
  (K4 D4t (by decide)) 2 (by rw[kS];rfl) (by decide) (by rw[A6x];exact hb3) (by rw[A6x];decide) fl0 fl1 (by rw[A6x,D9j];exact hA) (by rw[A6x,D9k,hsh];exact hB)
 rw[A6x,D9l] at h
 exact h
theorem D8T(din:D)(i:Int):B9 Tryz.prog S7 [.ptr 0 0,(V6 i).av] (F7 din) (λr os=>r=(V6 i).av/\os=F7 din):=
 B3S din (λx=>x) 1 i zX [] (by decide) (K4 E0t (by decide)) (by decide) λx hx=>by cases hx
theorem D8R(din:D):B9 Tryz.prog S7 [.ptr 0 0,A1G.av] (F7 din) (λr os=>r=A1G.av/\os=F7 din):=
 B3S din (λx=>x) 5 0 A3X [V6 0,V6 1] (by decide) (K4 E0s (by decide)) (by decide) λx hx=>by
  simp only[H2,U2,or_false] at hx
  rcases hx with rfl|rfl<;>exact D8T din _
theorem D8Q(din:D)(hin:A9 din (E7 K2)):B9 Tryz.prog S7 [.ptr 0 0,pA.av] (F7 din) (λr os=>r=qA.av/\os=F7 din):=
 C5n K2 (by decide) K2b din hin 0 A48 A1G A1G qA (K4 D4w (by decide)) (K4 D4x (by decide)) (K4 D6S (by decide)) (D8R din) (D8C din hin)
theorem C4R:Pure Tryz.prog A6d [pA.av,.d (.sl (E7 K2))] qA.av:=
 C5b K2 (by decide) K2b (.sl (E7 K2)) (.inr rfl) pA qA (K4 C36 (by decide)) (K4 B2T (by decide)) (D8Q _ (.inr rfl)) kA.1 kQ.1 (kA.2.trans kQ.2.symm) (by rw[kA.2];decide)
theorem C4O:Pure Tryz.prog A8p [qA.av,.d (eI 0)] (.d (.sl [(H0 0 1).ds])):=by
 have h0:=B0e 0 0 (H0 0 1) (V6 0) true (B0f 0 0 zX)
 have h1:=B3L 0 0 A3X fl0 fl1 true (.sl [(H0 0 1).ds]) .nil h0 (by intro h;cases h)
 have h2:=B3A qA (K4 B2T (by decide)) 0 0 1 scQ (.inl ⟨rfl,by decide⟩) (H0 0 1) (K4 (A4h 0 1) (by decide)) true false h1
 rw[A1a,w0] at h2
 exact h2
theorem C4P:Pure Tryz.prog A8p [qA.av,.d (eI 1)] (.d (.sl [(H0 0 2).ds])):=by
 have h0:=B0e 0 1 (H0 0 1) (V6 0) false (B0f 0 1 zX)
 have h0':=B0e 0 1 (H0 0 2) (V6 1) true (B0f 1 1 zX)
 have h1:=B3L 0 1 A3X fl0 fl1 false .nil (.sl [(H0 0 2).ds]) h0 (λ_=>h0')
 have h2:=B3A qA (K4 B2T (by decide)) 1 0 1 scQ (.inr ⟨by decide,rfl⟩) (H0 0 2) (K4 (A4h 0 2) (by decide)) true false h1
 rw[A1a,w0] at h2
 exact h2
theorem C54:Pure Tryz.prog B7V [] (.d (.bool true)):=by
 have hE1:=B0g 0 1
 have hE2:=B0g 2 2
 have hE3:=B0g 0 2
 have hP:=C4R
 have hF0:=C4O
 have hF1:=C4P
 have hC0:=B3M (H0 0 1) (H0 0 1) (K4 (A4h 0 1) (by decide)) (K4 (A4h 0 1) (by decide)) (by decide)
 have hC1:=B3M (H0 0 2) (H0 0 2) (K4 (A4h 0 2) (by decide)) (K4 (A4h 0 2) (by decide)) (by decide)
 have hZ:=C5c [3,0] (by decide) (.sl (A5 [3,0])) (.inr rfl) A9c (K4 D7o (by decide))
 have hS:=B3P pA (K4 C36 (by decide))
 rw[szL] at hZ
 rw[scA,show ng true (A5 [0,1])=.sl [[eI 0],[eI 1]] from rfl] at hS
 rw[D8X] at hP hF0 hF1
 obtain⟨dq,hdq⟩:∃d,d=D.sl [fl0.ds,fl1.ds]:=⟨_,rfl⟩
 rw[<- hdq] at hP hF0 hF1
 rw[D8A] at hP hS
 rw[D7n] at hZ
 rw[D6T] at hP hS
 rw[C3D,C3D] at hP hS hZ
 rw[D66] at hE1 hE2 hE3 hC0 hC1
 rw[B1U,B1U] at hP hS
 obtain⟨d0,hd0⟩:∃d,d=D.sl [(H0 0 1).ds]:=⟨_,rfl⟩
 obtain⟨d1,hd1⟩:∃d,d=D.sl [(H0 0 2).ds]:=⟨_,rfl⟩
 rw[<- hd0] at hF0 hC0
 rw[<- hd1] at hF1 hC1
 have hP:Bi.Pure Tryz.prog A6d [_,.d (.sl [[.sl [[eI 1],[eI 1]]],[.sl [[eI 1],[eI 1]]]])] _:=hP
 have hZ:Bi.Pure Tryz.prog A6e [_,.d (.sl [[eI 3],[eI 0]])] _:=hZ
 clear hdq hd0 hd1
 refine C6H.go A6 rfl ?_
 repeat' first|(with_reducible apply D78)|refine st ?_|((with_reducible apply A4);conv=>whnf)|refine⟨λ_=>?_,λ_=>?_⟩|fail
 all_goals rfl
theorem S2{K:List Kw}{p:Pl}(h:(C4 K p).2=0):F5 p<=24/\(C2 K p).2=0/\C4 K p=C2 K p:=by
 unfold C4 at h ⊢
 by_cases hd:24<F5 p
 ·rw[if_pos hd] at h;cases h
 ·rw[if_neg hd] at h ⊢;exact⟨by omega,h,rfl⟩
theorem A1y{K:List Kw}{p:Pl}(hd:F5 p<=24):C4 K p=C2 K p:=if_neg (by omega)
theorem C55{I:List Bg}(hI:I.length<=1073741824)(hb:∀b∈I,b.ki.length<=1073741824/\b.rows.length<=1073741824/\∀r∈b.rows,r.vs.length<=1073741824/\∀v∈r.vs,v.s.length<=1073741824)(hG:InG I)(din:D)(hin:A9 din (V2 I))(p q:Pl)(hp:p.bk<=1073741824)(h0:(C4 (D2 I) p).2=0)(hl:N7 (H3 I) p<=2000)(hqb:q.bk<=1073741824)(hq0:(C4 (D2 I) q).2=0)(h:PlE I p q) :
  Pure Tryz.prog B7Y [p.av,q.av,.d din] (.d (.bool true)):=by
 obtain⟨p1,p2,p3⟩:=S2 h0
 have q3:C4 (D2 I) q=C2 (D2 I) q:=(S2 hq0).2.2
 have hlq:N7 (H3 I) q<=2000:=A0I h.lg hl
 have hg:=A5g hG p hp p2 hl
 have hsz:I3 (H3 I) p<=2000:=by
  obtain⟨o,ni,ins⟩:=p
  exact(y8 hl).1
 have hKb:∀k∈D2 I,k.ks.length<=4294967296:=λk hk=>by
  obtain⟨b,hb1,rfl⟩:=D7.1 hk
  have:=(hb b hb1).1
  show b.ki.length<=4294967296
  omega
 have hKl:(D2 I).length<=4294967296:=by rw[D8];omega
 have hKs:=B0h I (by omega) din hin
 have hC1:=A5W (D2 I) hKl hKb (.sl (E7 (D2 I))) (.inr rfl) p hp
 have hC2:=A5W (D2 I) hKl hKb (.sl (E7 (D2 I))) (.inr rfl) q hqb
 have hks:(C4 (D2 I) q).1.ks=(C4 (D2 I) p).1.ks:=by rw[q3,p3];exact h.ks
 have hn1:=Z8 (D2 I) p
 have hIn:=B42 (C4 (D2 I) p).1.ks (by rw[p3];omega) (C4 (D2 I) p).1.d (C4 (D2 I) q).1.d C7 (by rw[<- hks];exact C7)
 have hS1:=B4b p hp
 have hS2:=B4b q hqb
 rw[h.sc] at hS2
 have hSc:=B42 (D9 p) (K4 (B32 p) hp) (.sl (A5 (D9 p))) (.sl (A5 (D9 p))) (.inr rfl) (.inr rfl)
 have hR1:=B46 (by omega) (λb h=>by have:=(hb b h).1;omega) hG din hin p hp h0 hl
 have hR2:=B46 (by omega) (λb h=>by have:=(hb b h).1;omega) hG din hin q hqb hq0 hlq
 have hSa:=C5q (H7 I p).rows (by have:=hg.len;omega) (λr hr=>by have:=(hg.row r hr).1;have:=Z8 (D2 I) p;omega) (H7 I p).rd (H7 I q).rd C7 (by rw[<- h.rows];exact C7)
 rw[h0] at hC1
 rw[hq0] at hC2
 have hR1:Bi.Pure Tryz.prog A6a [p.av,.d din] (.tup [.agg [.d (H7 I p).kd,.d (H7 I p).rd],.d (eI 0)]):=hR1
 have hR2:Bi.Pure Tryz.prog A6a [q.av,.d din] (.tup [.agg [.d (H7 I q).kd,.d (H7 I q).rd],.d (eI 0)]):=hR2
 obtain⟨z1,e⟩:∃d,d=(C4 (D2 I) p).1.d:=⟨_,rfl⟩
 rw[<- e] at hC1 hIn;clear e
 obtain⟨z2,e⟩:∃d,d=(C4 (D2 I) q).1.d:=⟨_,rfl⟩
 rw[<- e] at hC2 hIn;clear e
 obtain⟨z3,e⟩:∃d,d=(H7 I p).kd:=⟨_,rfl⟩
 rw[<- e] at hR1;clear e
 obtain⟨z4,e⟩:∃d,d=(H7 I p).rd:=⟨_,rfl⟩
 rw[<- e] at hR1 hSa;clear e
 obtain⟨z5,e⟩:∃d,d=(H7 I q).kd:=⟨_,rfl⟩
 rw[<- e] at hR2;clear e
 obtain⟨z6,e⟩:∃d,d=(H7 I q).rd:=⟨_,rfl⟩
 rw[<- e] at hR2 hSa;clear e
 obtain⟨z7,e⟩:∃d,d=A5 (D9 p):=⟨_,rfl⟩
 rw[<- e] at hS1 hS2 hSc;clear e
 obtain⟨z8,e⟩:∃d,d=E7 (D2 I):=⟨_,rfl⟩
 rw[<- e] at hKs hC1 hC2;clear e
 clear hks hn1 hKb hKl hsz hg hlq hq0 q3 hqb p1 p2 p3 h hl h0 hG hb
 obtain⟨op,n,dk,dr,xo,xn,xv,xm,xd,dx,dy,da,di,c1,c2⟩:=Pl.cut p
 obtain⟨op',n',dk',dr',xo',xn',xv',xm',xd',dx',dy',da',di',c3,c4⟩:=Pl.cut q
 rw[c2] at hC1 hS1 hR1 ⊢
 rw[c4] at hC2 hS2 hR2 ⊢
 clear c1 c2 c3 c4
 have r1:xv.s=xv.s:=rfl
 have r2:xm=xm:=rfl
 have r3:xv'.s=xv'.s:=rfl
 have r4:xm'=xm':=rfl
 refine C6K.go A6 rfl ?_
 repeat' first|refine st ?_|((with_reducible apply A4);conv=>whnf)|refine⟨λ_=>?_,λ_=>?_⟩|fail
 all_goals rfl
theorem Z4.refl(o:Po):Z4 o o:=⟨rfl,rfl,rfl,rfl,rfl,rfl,rfl,λ_ _ _ h=>⟨h,λ_=>rfl⟩,λ_ _ _=>⟨rfl,λ_=>rfl⟩⟩
def B3b(K:List Kw):Pl->Ex->Prop
 |.mk o _ [a,_],c=>(o.op=5->P9 (F8 K a) c=2)/\(o.op=6->P9 (F8 K a) c≠0)
 |_,_=>True
inductive NF(K:List Kw):Pl->Prop
 |leaf {o:Po} {ni:Bool} {ins:List Pl} (h:o.op≠3/\o.op≠5/\o.op≠6) (hs:∀a∈ins,NF K a):NF K (.mk o ni ins)
 |join {o:Po} {ni:Bool} {a b:Pl} (h:o.op=5\/o.op=6) (ha:NF K a) (hb:NF K b):NF K (.mk o ni [a,b])
 |filt {o:Po} {ni:Bool} {y:Pl} {l:List Ex} (h:o.op=3) (hy:NF K y) (h3:y.op≠3) (hp:o.pred=J6 false l) (hl:l≠[]) (hc:∀c∈l,M6 c) (hr:(C4 K y).2=0->∀c∈l,B3b K y c):NF K (.mk o ni [y])
theorem D5B{nl nl':Bool}:∀{l m:List Ex},l≠[]->(∀c∈l,c∈m)->(l.length=1\/2<=m.length)->G5 (J6 nl l)<=G5 (J6 nl' m)
 |[],_,h,_,_=>absurd rfl h
 |[x],m,_,h,_=>by
  have hx:=h x (by simp)
  show G5 x<=_
  match m,hx with
  |[y],hx=>rw[M7] at hx;subst hx;exact D3 _
  |y::z::m,hx=>
   rw[A2H (by simp),U4]
   have:=A2R.1 (D3 (mx ((y::z::m).map G5))) _ (D7.2 ⟨x,hx,rfl⟩)
   omega
 |x::y::l,m,_,h,h2=>by
  have h2:2<=m.length:=by simp at h2;omega
  rw[A2H (by simp),A2H h2,U4,U4]
  have:mx ((x::y::l).map G5)<=mx (m.map G5):=A2R.2 λd hd=>by
   obtain⟨c,hc,rfl⟩:=D7.1 hd
   exact A2R.1 (D3 _) _ (D7.2 ⟨c,h c hc,rfl⟩)
  omega
theorem A3r(o:Po)(ni:Bool)(x:Pl):F5 (.mk o ni [x])=F5 x+1:=by simp[F5,P6]
theorem A5a(o:Po)(ni:Bool)(a b:Pl):F5 (.mk o ni [a,b])=max (F5 a) (F5 b)+1:=by simp[F5,P6]
theorem A4i{p:Pl}{l:List Ex}(h:∀c∈l,M6 c)(hn:l≠[]):N3 p l=Q7 3 0 (J6 false l) [p]:=by
 unfold N3
 rw[if_neg (by rw[A0J];exact hn),A3F h]
theorem A6R{K:List Kw}{o:Po}{ni:Bool}{y:Pl}(h:o.op=3)(ha:(C4 K (.mk o ni [y])).2=0):(C4 K y).2=0/\O4 (C2 K y).1.ks o.pred=0/\(C2 K (.mk o ni [y])).1.ks=(C2 K y).1.ks/\F5 y+1<=24:=by
 obtain⟨a1,a2,_⟩:=S2 ha
 obtain⟨k1,k2,k3,k4,k5,k6⟩:=Z9 a2
 rw[A3r] at a1
 have hr:J4 K o [(C2 K y).1]=((C2 K y).1,O4 (C2 K y).1.ks o.pred):=by
  unfold J4
  rw[if_neg (by omega),if_neg (by omega),if_neg (by omega),if_neg (by omega),if_neg (by omega),if_pos h];rfl
 rw[show[y].map (λp=>(C2 K p).1)=[(C2 K y).1] from rfl,hr] at k4 k5
 refine⟨?_,k4,by rw[k5],a1⟩
 rw[A1y (by omega)];exact k3 y (by simp)
theorem D7l{K:List Kw}{y:Pl}(h:(C2 K y).2=0):0<(C2 K y).1.ks.length:=by
 obtain⟨o,ni,ins⟩:=y
 exact(Z9 h).2.2.2.2.2
theorem C1B{K:List Kw}{o:Po}{ni:Bool}{y:Pl}(h:o.op=3)(hy:(C4 K y).2=0)(hp:O4 (C2 K y).1.ks o.pred=0)(hd:F5 y+1<=24):(C4 K (.mk o ni [y])).2=0/\(C2 K (.mk o ni [y])).1.ks=(C2 K y).1.ks:=by
 have h1:=(S2 hy).2.1
 have hr:J4 K o [(C2 K y).1]=((C2 K y).1,O4 (C2 K y).1.ks o.pred):=by
  unfold J4
  rw[if_neg (by omega),if_neg (by omega),if_neg (by omega),if_neg (by omega),if_neg (by omega),if_pos h];rfl
 have e:[y].map (λp=>(C2 K p).1)=[(C2 K y).1]:=rfl
 have hi:J9 o.op=1:=by rw[h];rfl
 have:=B2w (K:=K) (o:=o) (ni:=ni) (ins:=[y]) (by omega) (by rw[hi];rfl) (λp hp=>by rw[M7.1 hp];exact h1) (by rw[e,hr];exact hp) (by rw[e,hr];exact D7l h1) (by rw[e,hr];exact Z8 K y)
 rw[e,hr] at this
 rw[A1y (by rw[A3r];exact hd),this]
 exact⟨rfl,rfl⟩
theorem A5n{K:List Kw}{p:Pl}{l:List Ex}(h:∀c∈l,M6 c)(ha:(C4 K (N3 p l)).2=0) :
  (C4 K p).2=0/\(C2 K (N3 p l)).1.ks=(C2 K p).1.ks/\F5 p<=F5 (N3 p l)/\(l≠[]->F5 (N3 p l)=F5 p+1/\(∀c∈l,R7 (C2 K p).1.ks c)/\G5 (J6 false l)<=24):=by
 by_cases hn:l=[]
 ·subst hn
  exact⟨ha,rfl,D3 _,λh=>absurd rfl h⟩
 ·rw[A4i h hn] at ha ⊢
  obtain⟨f1,f2,f3,_⟩:=A6R (o:=po0 3 0 (J6 false l)) (ni:=true) rfl ha
  have hd:=A3r (po0 3 0 (J6 false l)) true p
  have hd:F5 (Q7 3 0 (J6 false l) [p])=F5 p+1:=hd
  obtain⟨b1,b2⟩:=A4v.1 f2
  exact⟨f1,f3,by omega,λ_=>⟨hd,A5B.1 b1,b2⟩⟩
theorem B25{K:List Kw}{x:Pl}{r L:List Ex}(h:∀c∈r,M6 c)(ha:(C4 K (N3 x r)).2=0)(hL:L≠[])(hs:∀c∈L,c∈r)(hn:L.length<=r.length):F5 (N3 x r)=F5 x+1/\(∀c∈L,R7 (C2 K x).1.ks c)/\G5 (J6 false L)<=24:=by
 have hp:=List.length_pos_iff.2 hL
 obtain⟨_,_,_,b⟩:=A5n h ha
 obtain⟨e1,e2,e3⟩:=b (List.length_pos_iff.1 (by omega))
 refine⟨e1,λc hc=>e2 c (hs c hc),K4 (D5B hL hs ?_) e3⟩
 omega
theorem N9{n:Int}{k:Nat}{l:List Ex}(h:∀c∈l,M6 c):∀c∈C6 n k (C8 l),M6 c:=λc hc=>D5a h c (y9.1 hc).1
theorem A4w{k:Int}{l:List Ex}(h:∀c∈l,M6 c):∀c∈l.map (B0 k),M6 c:=λc hc=>by
 obtain⟨x,hx,rfl⟩:=D7.1 hc
 exact C0N k (h x hx).flat
theorem A8J(n:Int)(x:Ex):P9 n x=0\/P9 n x=1\/P9 n x=2:=by
 rcases A56 n x with ⟨h,_⟩|⟨_,_,_,_,⟨h,_⟩|⟨h,_⟩|⟨h,_⟩⟩<;>simp[h]
theorem B33(n:Int):∀l:List Ex,(l.filter λc=>decide (P9 n c≠0)).length=(C6 n 1 l++C6 n 2 l).length
 |[]=>rfl
 |x::l=>by
  have ih:=B33 n l
  rw[H8] at ih ⊢
  unfold C6 at ih ⊢
  rw[g9,g9,g9]
  rcases A8J n x with h|h|h<;>simp[h] at ih ⊢<;>omega
theorem A9b{K:List Kw}{o:Po}{ni ni':Bool}{a b a' b':Pl}(h:(C4 K (.mk o ni' [a',b'])).2=0)(ha:(C4 K a).2=0/\(C2 K a').1.ks=(C2 K a).1.ks)(hb:(C4 K b).2=0/\(C2 K b').1.ks=(C2 K b).1.ks)(hd:F5 (.mk o ni [a,b])<=24) :
  (C4 K (.mk o ni [a,b])).2=0/\(C2 K (.mk o ni' [a',b'])).1.ks=(C2 K (.mk o ni [a,b])).1.ks:=by
 obtain⟨d1,d2,_⟩:=S2 h
 obtain⟨k1,k2,k3,k4,k5,k6⟩:=Z9 d2
 have hl:=Z8 K (.mk o ni' [a',b'])
 rw[k5] at k6 hl ⊢
 have hr:=C3q (K:=K) (Z4.refl o) (k:=[(C2 K a').1,(C2 K b').1]) (k':=[(C2 K a).1,(C2 K b).1]) (λi=>by
  match i with
  |0=>exact ha.2.symm
  |1=>exact hb.2.symm
  |_+2=>rfl) (λi=>by
  match i with
  |0=>exact Z8 K a'
  |1=>exact Z8 K b'
  |_+2=>exact N1 _) k4
 have k6':0<(J4 K o [(C2 K a').1,(C2 K b').1]).1.ks.length:=k6
 have hl':(J4 K o [(C2 K a').1,(C2 K b').1]).1.ks.length<=48:=hl
 have hn:C2 K (.mk o ni [a,b])=((J4 K o [(C2 K a).1,(C2 K b).1]).1,0):=B2w (K:=K) k1 k2 (λp hp=>by
  simp only[H2,U2,or_false] at hp
  rcases hp with rfl|rfl
  ·exact(S2 ha.1).2.1
  ·exact(S2 hb.1).2.1) hr.1 (by
  show 0<(J4 K o [(C2 K a).1,(C2 K b).1]).1.ks.length
  rw[hr.2];exact k6') (by
  show(J4 K o [(C2 K a).1,(C2 K b).1]).1.ks.length<=48
  rw[hr.2];exact hl')
 rw[A1y hd,hn]
 exact⟨rfl,hr.2.symm⟩
theorem A2b{K:List Kw}{o:Po}{ni:Bool}{a b:Pl}(h:(C4 K (.mk o ni [a,b])).2=0):(C4 K a).2=0/\(C4 K b).2=0:=by
 obtain⟨d1,d2,_⟩:=S2 h
 obtain⟨k1,k2,k3,k4,k5,k6⟩:=Z9 d2
 rw[A5a] at d1
 exact⟨by rw[A1y (by omega)];exact k3 a (by simp),by rw[A1y (by omega)];exact k3 b (by simp)⟩
theorem C4h{K:List Kw}{a a':Pl}(h:(C4 K a).2=0)(h':(C4 K a').2=0)(hk:(C2 K a').1.ks=(C2 K a).1.ks):F8 K a'=F8 K a:=by
 unfold F8
 rw[(S2 h).2.2,(S2 h').2.2,hk]
theorem A7e{K:List Kw}:∀{x:Pl},NF K x->∀l:List Ex,(∀c∈l,M6 c)->(C4 K (J5 K x l)).2=0->
  ((C4 K x).2=0/\(C2 K (J5 K x l)).1.ks=(C2 K x).1.ks/\F5 x<=F5 (J5 K x l))/\(x.op≠3->∀L,L≠[]->L.Sublist l->(∀c∈L,B3b K x c)->F5 x+1<=F5 (J5 K x l)/\(∀c∈L,R7 (C2 K x).1.ks c)/\G5 (J6 false L)<=24):=by
 intro x hx
 induction hx with
 |leaf h hs ih=>
  intro l hl ha
  rw[A7f K l h] at ha ⊢
  obtain⟨b1,b2,b3,_⟩:=A5n hl ha
  refine⟨⟨b1,b2,b3⟩,λ_ L hL hs _=>?_⟩
  obtain⟨c1,c2,c3⟩:=B25 hl ha hL (λc hc=>hs.subset hc) hs.length_le
  exact⟨by omega,c2,c3⟩
 |@join o ni a b h ha hb iha ihb=>
  intro l hl hacc
  rcases h with h|h
  ·rw[A4t K l h] at hacc ⊢
   obtain⟨b1,b2,b3,_⟩:=A5n (N9 hl) hacc
   obtain⟨c1,c2⟩:=A2b b1
   obtain⟨p1,p2,p3⟩:=(iha _ (N9 hl) c1).1
   obtain⟨q1,q2,q3⟩:=(ihb _ (A4w (N9 hl)) c2).1
   have hd:=(S2 b1).1
   have hd0:F5 (.mk o ni [a,b])<=F5 (.mk o true [J5 K a (C6 (F8 K a) 0 (C8 l)),J5 K b ((C6 (F8 K a) 1 (C8 l)).map (B0 (-(F8 K a))))]):=by rw[A5a,A5a];omega
   have j:=A9b (ni:=ni) b1 ⟨p1,p2⟩ ⟨q1,q2⟩ (by omega)
   refine⟨⟨j.1,b2.trans j.2,K4 hd0 b3⟩,λ_ L hL hs hst=>?_⟩
   have hne:l≠[]:=λe=>by subst e;exact hL (List.sublist_nil.1 hs)
   have hcl:=A4d hl hne
   have hfl:L.filter (λc=>decide (P9 (F8 K a) c=2))=L:=A63.2 λc hc=>decide_eq_true ((hst c hc).1 h)
   have hsub:L.Sublist (C6 (F8 K a) 2 (C8 l)):=by
    rw[hcl,<- hfl];exact hs.filter _
   obtain⟨c1,c2,c3⟩:=B25 (N9 hl) hacc hL (λc hc=>hsub.subset hc) hsub.length_le
   rw[j.2] at c2
   exact⟨by omega,c2,c3⟩
  ·rw[A4u K l h] at hacc ⊢
   have hm:∀c∈C6 (F8 K a) 1 (C8 l)++C6 (F8 K a) 2 (C8 l),M6 c:=λc hc=>by
    rcases K8.1 hc with hc|hc
    ·exact N9 hl c hc
    ·exact N9 hl c hc
   obtain⟨b1,b2,b3,_⟩:=A5n hm hacc
   obtain⟨c1,c2⟩:=A2b b1
   obtain⟨p1,p2,p3⟩:=(iha _ (N9 hl) c1).1
   obtain⟨q1,q2,q3⟩:=(ihb _ (by simp) c2).1
   have hd:=(S2 b1).1
   have hd0:F5 (.mk o ni [a,b])<=F5 (.mk o true [J5 K a (C6 (F8 K a) 0 (C8 l)),J5 K b []]):=by rw[A5a,A5a];omega
   have j:=A9b (ni:=ni) b1 ⟨p1,p2⟩ ⟨q1,q2⟩ (by omega)
   refine⟨⟨j.1,b2.trans j.2,K4 hd0 b3⟩,λ_ L hL hs hst=>?_⟩
   have hne:l≠[]:=λe=>by subst e;exact hL (List.sublist_nil.1 hs)
   have hcl:=A4d hl hne
   have hfl:L.filter (λc=>decide (P9 (F8 K a) c≠0))=L:=A63.2 λc hc=>decide_eq_true ((hst c hc).2 h)
   have hsub:L.Sublist (l.filter λc=>decide (P9 (F8 K a) c≠0)):=by
    rw[<- hfl];exact hs.filter _
   have hlen:=hsub.length_le
   rw[B33,<- hcl] at hlen
   obtain⟨c1,c2,c3⟩:=B25 hm hacc hL (λc hc=>by
    have hcm:c∈C8 l:=by rw[hcl];exact hs.subset hc
    have:=(hst c hc).2 h
    rw[K8]
    rcases A8J (F8 K a) c with e|e|e
    ·exact absurd e this
    ·exact .inl (y9.2 ⟨hcm,e⟩)
    ·exact .inr (y9.2 ⟨hcm,e⟩)) hlen
   rw[j.2] at c2
   exact⟨by omega,c2,c3⟩
 |@filt o ni y lp h hy h3 hp hlp hc hr ih=>
  intro l hl hacc
  rw[A4s K l h] at hacc ⊢
  have hcj:(cj o.pred).map (B0 0)=lp:=by rw[hp,A2K (λc hm=>(hc c hm).flat) hlp,A3F hc]
  rw[hcj] at hacc ⊢
  have hL:∀c∈lp++l,M6 c:=λc hm=>by
   rcases K8.1 hm with hm|hm
   ·exact hc c hm
   ·exact hl c hm
  obtain⟨⟨i1,i2,i3⟩,i4⟩:=ih (lp++l) hL hacc
  obtain⟨j1,j2,j3⟩:=i4 h3 lp hlp (List.sublist_append_left ..) (hr i1)
  have hd:=(S2 hacc).1
  obtain⟨f1,f2⟩:=C1B (ni:=ni) h i1 (by rw[hp];exact A4v.2 ⟨A5B.2 j2,j3⟩) (by omega)
  exact⟨⟨f1,by rw[f2];exact i2,by rw[A3r];exact j1⟩,λe=>absurd h e⟩
theorem B22{K:List Kw}{x:Pl}{l:List Ex}(hx:NF K x)(h3:x.op≠3)(hl:∀c∈l,M6 c)(hr:(C4 K x).2=0->∀c∈l,B3b K x c):NF K (N3 x l):=by
 by_cases hn:l=[]
 ·subst hn;exact hx
 ·rw[A4i hl hn]
  exact NF.filt rfl hx h3 rfl hn hl hr
theorem B2J{K:List Kw}:∀{x:Pl},NF K x->∀l:List Ex,(∀c∈l,M6 c)->NF K (J5 K x l):=by
 intro x hx
 induction hx with
 |@leaf o ni ins h hs ih=>
  intro l hl
  rw[A7f K l h]
  refine B22 (.leaf h hs) h.1 hl λ_ c _=>?_
  match ins with
  |[]=>trivial
  |[_]=>trivial
  |[_,_]=>exact⟨λe=>absurd e h.2.1,λe=>absurd e h.2.2⟩
  |_::_::_::_=>trivial
 |@join o ni a b h ha hb iha ihb=>
  intro l hl
  rcases h with h|h
  ·rw[A4t K l h]
   refine B22 (.join (.inl h) (iha _ (N9 hl)) (ihb _ (A4w (N9 hl)))) (by show o.op≠3;omega) (N9 hl) λhj c hc=>?_
   obtain⟨c1,c2⟩:=A2b hj
   obtain⟨p1,p2,p3⟩:=(A7e ha _ (N9 hl) c1).1
   refine⟨λ_=>?_,λe=>by omega⟩
   rw[C4h p1 c1 p2]
   exact(y9.1 hc).2
  ·rw[A4u K l h]
   have hm:∀c∈C6 (F8 K a) 1 (C8 l)++C6 (F8 K a) 2 (C8 l),M6 c/\P9 (F8 K a) c≠0:=λc hc=>by
    rcases K8.1 hc with hc|hc
    ·exact⟨N9 hl c hc,by rw[(y9.1 hc).2];decide⟩
    ·exact⟨N9 hl c hc,by rw[(y9.1 hc).2];decide⟩
   refine B22 (.join (.inr h) (iha _ (N9 hl)) (ihb _ (by simp))) (by show o.op≠3;omega) (λc hc=>(hm c hc).1) λhj c hc=>?_
   obtain⟨c1,c2⟩:=A2b hj
   obtain⟨p1,p2,p3⟩:=(A7e ha _ (N9 hl) c1).1
   refine⟨λe=>by omega,λ_=>?_⟩
   rw[C4h p1 c1 p2]
   exact(hm c hc).2
 |@filt o ni y lp h hy h3 hp hlp hc hr ih=>
  intro l hl
  rw[A4s K l h]
  have hcj:(cj o.pred).map (B0 0)=lp:=by rw[hp,A2K (λc hm=>(hc c hm).flat) hlp,A3F hc]
  rw[hcj]
  exact ih (lp++l) λc hm=>by
   rcases K8.1 hm with hm|hm
   ·exact hc c hm
   ·exact hl c hm
theorem A3D{α:Type}{l:List α}(h:l.length=1):∃p,l=[p]:=by
 match l,h with
 |[p],_=>exact⟨p,rfl⟩
theorem A7j{K:List Kw}:∀p:Pl,(C2 K p).2=0->NF K (M9 K p):=by
 refine Pl.ind λo ni ins ih h0=>?_
 obtain⟨k1,k2,k3,k4,k5,k6⟩:=Z9 h0
 have ih':∀x∈ins,NF K (M9 K x):=λx hx=>ih x hx (k3 x hx)
 by_cases h3:o.op=3
 ·rw[h3] at k2
  obtain⟨x,rfl⟩:=A3D (show ins.length=1 by have:J9 3=1:=rfl;omega)
  rw[A5C K h3]
  exact B2J (ih' x (by simp)) _ (A25 _)
 ·rw[A5D K h3]
  by_cases h5:o.op=5\/o.op=6
  ·have hi:J9 o.op=2:=by rcases h5 with e|e<;>rw[e]<;>rfl
   obtain⟨a,b,rfl⟩:=n8 (show ins.length=2 by omega)
   exact .join h5 (ih' a (by simp)) (ih' b (by simp))
  ·refine .leaf ⟨h3,λe=>h5 (.inl e),λe=>h5 (.inr e)⟩ λy hy=>?_
   obtain⟨x,hx,rfl⟩:=D7.1 hy
   exact ih' x hx
theorem C1l(I:List Bg)(p:Pl):(H7 I p).rows=J0 (A8 (H7 I p).rows)/\Y8 (A8 (H7 I p).rows):=by
 obtain⟨L,h1,h2,_⟩:=D68 I p
 rw[h1,A33]
 exact⟨rfl,h2⟩
abbrev Y3(l:List Ex)(r:B5):Bool:=l.all λc=>L9 c r
theorem A8y{f g:Ex->Bool}:∀{l:List Ex},(∀c∈l,f c=g c)->l.all f=l.all g
 |[],_=>rfl
 |x::l,h=>by
  rw[A1l,A1l,h x (by simp),A8y λc hc=>h c (by simp[hc])]
theorem B1s(n:Int)(r:B5):∀l:List Ex,Y3 l r=(Y3 (C6 n 0 l) r&&(Y3 (C6 n 1 l) r&&Y3 (C6 n 2 l) r))
 |[]=>rfl
 |x::l=>by
  have ih:=B1s n r l
  unfold Y3 C6 at ih ⊢
  rw[A1l,ih,g9,g9,g9]
  rcases A8J n x with h|h|h
  ·simp[h,Bool.and_assoc]
  ·simp[h]
   cases L9 x r<;>simp
  ·simp[h]
   cases L9 x r<;>simp
structure i9(I:List Bg)(x y:Pl)(l:List Ex):Prop where
 ki:(H7 I y).ki=(H7 I x).ki
 rows:(H7 I y).rows=J0 ((A8 (H7 I x).rows).filter (Y3 l))
 sz:I3 (H3 I) y=I3 (H3 I) x
 lg:N7 (H3 I) y<=N7 (H3 I) x
 sc:D9 y=D9 x
theorem D7q(rs:List Int)(x:Pl):I3 rs x<=N7 rs x:=by
 obtain⟨o,ni,ins⟩:=x
 exact(y8 (A0q _)).1
theorem i9.f3{I:List Bg}{o:Po}{ni:Bool}{x:Pl}{l:List Ex}(h:o.op=3)(hp:L9 o.pred=Y3 l):i9 I x (.mk o ni [x]) l:=by
 have e:m9 I o [H7 I x]=⟨(H7 I x).nk,(H7 I x).ki,false,J0 (D1 ((A8 (H7 I x).rows).filter (L9 o.pred)))⟩:=by
  unfold m9
  rw[if_neg (by omega),if_neg (by omega),if_pos h];rfl
 have hs:I3 (H3 I) (.mk o ni [x])=I3 (H3 I) x:=by
  show W3 (H3 I) o (I3 (H3 I) x) 0=_
  unfold W3
  rw[if_neg (by omega),if_neg (by omega),if_pos (.inl h)]
 have e2:H7 I (.mk o ni [x])=m9 I o [H7 I x]:=A2N I o ni [x]
 refine⟨by rw[e2,e],?_,hs,?_,?_⟩
 ·rw[e2,e,hp,B2F _ _ (D3 _) (C3P _ (C1l I x).2)]
 ·refine B2l (by rw[hs];exact D7q _ x) λp hp=>?_
  rw[M7.1 hp];exact A0q _
 ·rw[A2j,if_neg (by omega)];simp
theorem i9.fl{I:List Bg}{x:Pl}{l:List Ex}(hl:∀c∈l,M6 c):i9 I x (N3 x l) l:=by
 by_cases hn:l=[]
 ·subst hn
  have e:N3 x []=x:=rfl
  rw[e]
  refine⟨rfl,?_,rfl,A0q _,rfl⟩
  rw[show(A8 (H7 I x).rows).filter (Y3 [])=A8 (H7 I x).rows from A63.2 λ_ _=>rfl]
  exact(C1l I x).1
 ·rw[A4i hl hn]
  exact i9.f3 rfl (funext λr=>C42 r false l)
theorem C1o(I:List Bg){o:Po}(ni:Bool)(a b:Pl)(lf:Bool)(h:o.op=if lf then 6 else 5):H7 I (.mk o ni [a,b])=⟨true,(H7 I a).ki++(H7 I b).ki,false,J0 (D1 (N5 o.pred lf (H7 I b).ki.length (A8 (H7 I b).rows) (A8 (H7 I a).rows)))⟩:=by
 rw[A2N]
 unfold m9
 cases lf with
 |false=>
  have h:o.op=5:=h
  rw[if_neg (by omega),if_neg (by omega),if_neg (by omega),if_neg (by omega),if_neg (by omega),if_neg (by omega),if_pos h];rfl
 |true=>
  have h:o.op=6:=h
  rw[if_neg (by omega),if_neg (by omega),if_neg (by omega),if_neg (by omega),if_neg (by omega),if_neg (by omega),if_neg (by omega),if_pos h];rfl
theorem i9.j{I:List Bg}{o:Po}{ni:Bool}{a b a' b':Pl}{l la lb lr:List Ex}(lf:Bool)(h:o.op=if lf then 6 else 5)(hr:∀c∈lr,M6 c)(A:i9 I a a' la)(B:i9 I b b' lb)
  (hJ:∀nb,nb=(H7 I b).ki.length->(N5 o.pred lf nb ((A8 (H7 I b).rows).filter (Y3 lb)) ((A8 (H7 I a).rows).filter (Y3 la))).filter (Y3 lr)=(N5 o.pred lf nb (A8 (H7 I b).rows) (A8 (H7 I a).rows)).filter (Y3 l)) :
  i9 I (.mk o ni [a,b]) (N3 (.mk o true [a',b']) lr) l:=by
 have F:=i9.fl (I:=I) (x:=.mk o true [a',b']) hr
 have e1:=C1o I ni a b lf h
 have e2:=C1o I true a' b' lf h
 have hsz:I3 (H3 I) (.mk o true [a',b'])=I3 (H3 I) (.mk o ni [a,b]):=by
  show W3 (H3 I) o (I3 (H3 I) a') (I3 (H3 I) b')=W3 (H3 I) o (I3 (H3 I) a) (I3 (H3 I) b)
  rw[A.sz,B.sz]
 refine⟨?_,?_,by rw[F.sz,hsz],?_,?_⟩
 ·rw[F.ki,e1,e2]
  show(H7 I a').ki++(H7 I b').ki=(H7 I a).ki++(H7 I b).ki
  rw[A.ki,B.ki]
 ·rw[F.rows,e1,e2]
  show J0 ((A8 (J0 (D1 _))).filter (Y3 lr))=J0 ((A8 (J0 (D1 _))).filter (Y3 l))
  rw[A33,A33,C34,C34,A.rows,B.rows,A33,A33,B.ki,hJ _ rfl]
 ·obtain⟨m1,m2⟩:=y8 (A0q (N7 (H3 I) (.mk o ni [a,b])))
  refine A0I F.lg (B2l (by rw[hsz];exact m1) λp hp=>?_)
  simp only[H2,U2,or_false] at hp
  rcases hp with rfl|rfl
  ·exact A0I A.lg (m2 a (by simp))
  ·exact A0I B.lg (m2 b (by simp))
 ·rw[F.sc,A2j,A2j]
  simp only[A41,List.flatMap_nil,A.sc,B.sc]
theorem C2f{K:List Kw}{o:Po}{ni:Bool}{a b:Pl}(h:o.op=5\/o.op=6)(ha:(C4 K (.mk o ni [a,b])).2=0):(C2 K (.mk o ni [a,b])).1.ks=(C2 K a).1.ks++(C2 K b).1.ks:=by
 obtain⟨k1,k2,k3,k4,k5,k6⟩:=Z9 (S2 ha).2.1
 rw[k5]
 unfold J4
 rw[if_neg (by omega),if_neg (by omega),if_neg (by omega),if_neg (by omega),if_neg (by omega),if_neg (by omega),if_pos h]
 rfl
theorem C0z{ks:List Int}{l:List Ex}(h:∀c∈l,M6 c)(ho:∀c∈l,R7 ks c):∀c∈C8 l,R7 ks c:=by
 by_cases hn:l=[]
 ·subst hn
  rw[A6y]
  intro c hc
  rw[M7.1 hc]
  exact A5B (nl:=true) (l:=[])|>.2 (by simp)
 ·rw[A4d h hn];exact ho
theorem C4i{K:List Kw}{a:Pl}(h:(C4 K a).2=0):F8 K a=((C2 K a).1.ks.length:Nat):=by
 unfold F8
 rw[(S2 h).2.2]
theorem D8G{I:List Bg}(hI:InG I):∀{x:Pl},NF (D2 I) x->∀l:List Ex,(∀c∈l,M6 c)->x.bk<=1073741824->N7 (H3 I) x<=2000->(C4 (D2 I) (J5 (D2 I) x l)).2=0->(∀c∈l,R7 (C2 (D2 I) x).1.ks c)->i9 I x (J5 (D2 I) x l) l:=by
 intro x hx
 induction hx with
 |leaf h hs ih=>
  intro l hl hb hg hacc hok
  rw[A7f _ l h]
  exact i9.fl hl
 |@join o ni a b h ha hb iha ihb=>
  intro l hl hbk hg hacc hok
  have hx0:=(A7e (.join (ni:=ni) h ha hb) l hl hacc).1.1
  obtain⟨a0,b0⟩:=A2b hx0
  have hks:=C2f h hx0
  rw[hks] at hok
  have hB:=Pl.bd hbk
  obtain⟨m1,m2⟩:=y8 hg
  have hok':=C0z hl hok
  have hwd:=C4i a0
  have ga:=A5g hI a (hB.sub a (by simp)) (S2 a0).2.1 (m2 a (by simp))
  have gb:=A5g hI b (hB.sub b (by simp)) (S2 b0).2.1 (m2 b (by simp))
  have hla:=Z8 (D2 I) a
  have hlb:=Z8 (D2 I) b
  have hwa:∀r∈A8 (H7 I a).rows,(r.length:Int)=F8 (D2 I) a:=λr hr=>by
   obtain⟨y,hy,rfl⟩:=C4f hr
   rw[hwd,(ga.row y hy).1]
  have hkl:((C2 (D2 I) a).1.ks++(C2 (D2 I) b).1.ks).length<=4294967296:=by rw[H8];omega
  have hleft:∀(r s:B5),(r.length:Int)=F8 (D2 I) a->Y3 (C6 (F8 (D2 I) a) 0 (C8 l)) (r++s)=Y3 (C6 (F8 (D2 I) a) 0 (C8 l)) r:=λr s hr=>
   A8y λc hc=>D9K hr (y9.1 hc).2
  have okl:∀c∈C6 (F8 (D2 I) a) 0 (C8 l),R7 (C2 (D2 I) a).1.ks c:=λc hc=>by
   obtain⟨c1,c2⟩:=y9.1 hc
   rw[hwd] at c2
   exact C2L (hok' c c1) c2
  rcases h with h|h
  ·rw[A4t _ l h] at hacc ⊢
   obtain⟨b1,b2,b3,_⟩:=A5n (N9 hl) hacc
   obtain⟨c1,c2⟩:=A2b b1
   have A:=iha _ (N9 hl) (hB.sub a (by simp)) (m2 a (by simp)) c1 okl
   have B:=ihb _ (A4w (N9 hl)) (hB.sub b (by simp)) (m2 b (by simp)) c2 λc hc=>by
    obtain⟨d,hd,rfl⟩:=D7.1 hc
    obtain⟨d1,d2⟩:=y9.1 hd
    rw[hwd] at d2 ⊢
    exact(C2M hkl (hok' d d1) d2).1
   refine i9.j false h (N9 hl) A B λnb _=>?_
   refine(C2b _ λr hr s hs=>?_).symm
   have hw:=hwa r hr
   rw[<- hleft r s hw,show Y3 l (r++s)=Y3 (C8 l) (r++s) from(C0A hl _).symm,B1s (F8 (D2 I) a)]
   congr 2
   show _=List.all (List.map _ _) _
   rw[List.all_map]
   refine A8y λc hc=>?_
   obtain⟨d1,d2⟩:=y9.1 hc
   exact(D9L hw hkl (hok' c d1).1 d2).symm
  ·rw[A4u _ l h] at hacc ⊢
   have hm:∀c∈C6 (F8 (D2 I) a) 1 (C8 l)++C6 (F8 (D2 I) a) 2 (C8 l),M6 c:=λc hc=>by
    rcases K8.1 hc with hc|hc
    ·exact N9 hl c hc
    ·exact N9 hl c hc
   obtain⟨b1,b2,b3,_⟩:=A5n hm hacc
   obtain⟨c1,c2⟩:=A2b b1
   have A:=iha _ (N9 hl) (hB.sub a (by simp)) (m2 a (by simp)) c1 okl
   have B:=ihb [] (by simp) (hB.sub b (by simp)) (m2 b (by simp)) c2 (by simp)
   refine i9.j true h hm A B λnb _=>?_
   rw[show(A8 (H7 I b).rows).filter (Y3 [])=A8 (H7 I b).rows from A63.2 λ_ _=>rfl]
   refine(C2c _ λr hr s _=>?_).symm
   have hw:=hwa r hr
   rw[<- hleft r s hw,show Y3 l (r++s)=Y3 (C8 l) (r++s) from(C0A hl _).symm,B1s (F8 (D2 I) a)]
   congr 1
   show _=List.all (_++_) _
   rw[List.all_append]
 |@filt o ni y lp h hy h3 hp hlp hc hr ih=>
  intro l hl hbk hg hacc hok
  have hx0:=(A7e (.filt (ni:=ni) h hy h3 hp hlp hc hr) l hl hacc).1.1
  obtain⟨y0,hpr,hks,_⟩:=A6R h hx0
  rw[hks] at hok
  rw[A4s _ l h] at hacc ⊢
  have hcj:(cj o.pred).map (B0 0)=lp:=by rw[hp,A2K (λc hm=>(hc c hm).flat) hlp,A3F hc]
  rw[hcj] at hacc ⊢
  have hB:=Pl.bd hbk
  obtain⟨m1,m2⟩:=y8 hg
  rw[hp] at hpr
  have hokp:=A5B.1 (A4v.1 hpr).1
  have Y:=ih (lp++l) (λc hm=>by
   rcases K8.1 hm with hm|hm
   ·exact hc c hm
   ·exact hl c hm) (hB.sub y (by simp)) (m2 y (by simp)) hacc (λc hm=>by
   rcases K8.1 hm with hm|hm
   ·exact hokp c hm
   ·exact hok c hm)
  have X:i9 I y (.mk o ni [y]) lp:=i9.f3 h (by rw[hp];exact funext λr=>C42 r false lp)
  refine⟨by rw[Y.ki,X.ki],?_,by rw[Y.sz,X.sz],A0I Y.lg ((y8 (A0q (N7 (H3 I) (.mk o ni [y])))).2 y (by simp)),by rw[Y.sc,X.sc]⟩
  rw[Y.rows,X.rows,A33,List.filter_filter]
  congr 1
  refine List.filter_congr λr _=>?_
  show List.all (_++_) _=_
  rw[List.all_append,Bool.and_comm]
end Go.Proofs
end
section
namespace Go.Proofs
open Go.Bi
def aL:List Ex->Nat
 |[]=>0
 |c::l=>c.bk+16+aL l
theorem A6g:∀(a b:List Ex),aL (a++b)=aL a+aL b
 |[],b=>by simp[aL]
 |x::a,b=>by
  have:=A6g a b
  rw[A4K,aL,aL];omega
theorem A2E{f:Ex->Ex}(h:∀e:Ex,(f e).bk<=e.bk):∀l:List Ex,aL (l.map f)<=aL l
 |[]=>D3 _
 |x::l=>by
  have:=A2E h l
  have:=h x
  rw[H5,aL,aL];omega
theorem A8w(n:Int):∀l:List Ex,aL (C6 n 0 l)+aL (C6 n 1 l)+aL (C6 n 2 l)=aL l
 |[]=>rfl
 |x::l=>by
  have ih:=A8w n l
  unfold C6 at ih ⊢
  rw[g9,g9,g9]
  rcases A8J n x with h|h|h<;>simp[h,aL]<;>omega
theorem A47:∀l:List Ex,aL l=D6 (xL l)+16*l.length
 |[]=>rfl
 |x::l=>by
  have h:=A47 l
  rw[aL,h,H9]
  simp only[xL,H5,D6]
  unfold Ex.bk;omega
theorem D4p:∀e:Ex,aL (cj e)<=4*e.bk:=by
 have key:∀e:Ex,D6 (xL (cj e))<=e.bk/\7*(cj e).length<=D6 (xL (cj e)):=by
  refine Ex.ind λop n v nm nl args ih=>?_
  have hb:=Ex.bk_eq op n v nm nl args
  rw[A0U]
  split
  ·have:∀l:List Ex,(∀a∈l,D6 (xL (cj a))<=a.bk/\7*(cj a).length<=D6 (xL (cj a)))->D6 (xL (l.flatMap cj))<=D6 (xL l)/\7*(l.flatMap cj).length<=D6 (xL (l.flatMap cj)):=by
    intro l
    induction l with
    |nil=>intro _;exact⟨D3 _,D3 _⟩
    |cons a l ihl=>
     intro h
     obtain⟨h1,h2⟩:=h a (by simp)
     obtain⟨h3,h4⟩:=ihl λb hb=>h b (by simp[hb])
     have e1:=A6g (cj a) (l.flatMap cj)
     rw[A47,A47,A47,H8] at e1
     rw[A41,H8]
     have e2:D6 (xL (a::l))=a.bk+D6 (xL l):=rfl
     constructor
     ·rw[e2];omega
     ·omega
   obtain⟨h1,h2⟩:=this args ih
   exact⟨by omega,h2⟩
  ·have e2:D6 (xL [Ex.mk op n v nm nl args])=(Ex.mk op n v nm nl args).bk+0:=rfl
   rw[e2,List.length_singleton]
   constructor<;>omega
 intro e
 obtain⟨h1,h2⟩:=key e
 rw[A47];omega
theorem B9X{l:List Ex}(h:∀c∈l,M6 c):aL (C8 l)<=aL l+23:=by
 by_cases hn:l=[]
 ·subst hn
  rw[A6y];exact D3 _
 ·rw[A4d h hn];omega
theorem A6h{l:List Ex}:∀c∈l,c.bk<=aL l:=by
 induction l with
 |nil=>intro c hc;cases hc
 |cons x l ih=>
  intro c hc
  rw[aL]
  rcases H2.1 hc with rfl|hc
  ·omega
  ·have:=ih c hc;omega
theorem B9W{nl:Bool}{l:List Ex}(hn:l≠[]):(J6 nl l).bk+8<=aL l:=by
 match l,hn with
 |[x],_=>
  show x.bk+8<=_
  rw[aL,aL];omega
 |x::y::l,_=>
  rw[A2H (by simp),Ex.bk_eq,A47,H9,H9]
  have e1:E6.s.length=0:=rfl
  have e2:([]:List UInt8).length=0:=rfl
  omega
def ow(o:Po):Nat:=D6 (A5 o.ki)+D6 (B7 o.rows)+D6 (xL o.xs)+D6 (A5 o.keys)+D6 (I0 o.aggs)
def wp1(o:Po):Nat:=if o.op=3 then max (o.pred.bk+8) (aL (cj o.pred)) else o.pred.bk+8
mutual
/-- A plan's weight: filters by their conjuncts. -/
def pw:Pl->Nat
 |.mk o _ ins=>ow o+wp1 o+j7 ins
def j7:List Pl->Nat
 |[]=>0
 |p::r=>pw p+j7 r
end
mutual
/-- How many joins. -/
def jn:Pl->Nat
 |.mk o _ ins=>(if o.op=5\/o.op=6 then 1 else 0)+W0 ins
def W0:List Pl->Nat
 |[]=>0
 |p::r=>jn p+W0 r
end
theorem B2S:∀{l:List Pl}{p:Pl},p∈l->pw p<=j7 l/\jn p<=W0 l
 |a::l,p,h=>by
  rw[j7,W0]
  rcases H2.1 h with rfl|h
  ·omega
  ·have:=B2S h;omega
theorem A07:∀p:Pl,p.bk<=pw p/\pw p<=4*p.bk/\8*jn p<=p.bk:=by
 refine Pl.ind λo ni ins ih=>?_
 have key:∀l:List Pl,(∀a∈l,a.bk<=pw a/\pw a<=4*a.bk/\8*jn a<=a.bk)->D6 (pL l)<=j7 l/\j7 l<=4*D6 (pL l)/\8*W0 l<=D6 (pL l):=by
  intro l
  induction l with
  |nil=>intro _;exact⟨D3 _,D3 _,D3 _⟩
  |cons a l ihl=>
   intro h
   have h1:=h a (by simp)
   have h2:=ihl λb hb=>h b (by simp[hb])
   have e:D6 (pL (a::l))=a.bk+D6 (pL l):=rfl
   rw[j7,W0,e];omega
 obtain⟨k1,k2,k3⟩:=key ins ih
 have h4:=D4p o.pred
 rw[Pl.bk_eq,pw,jn]
 unfold ow wp1
 refine⟨?_,?_,?_⟩
 ·split<;>omega
 ·split<;>omega
 ·split<;>omega
theorem B24{x:Pl}{l:List Ex}(h:∀c∈l,M6 c):pw (N3 x l)<=pw x+aL l/\jn (N3 x l)=jn x:=by
 by_cases hn:l=[]
 ·subst hn;exact⟨D3 _,rfl⟩
 ·rw[A4i h hn]
  have e1:pw (Q7 3 0 (J6 false l) [x])=ow (po0 3 0 (J6 false l))+wp1 (po0 3 0 (J6 false l))+(pw x+0):=by rw[pw,j7,j7]
  have e2:ow (po0 3 0 (J6 false l))=0:=rfl
  have e3:wp1 (po0 3 0 (J6 false l))=max ((J6 false l).bk+8) (aL (cj (J6 false l))):=rfl
  rw[A2K (λc hc=>(h c hc).flat) hn] at e3
  have:=B9W (nl:=false) hn
  refine⟨by omega,?_⟩
  have e4:jn (Q7 3 0 (J6 false l) [x])=0+(jn x+0):=by rw[jn,W0,W0];rfl
  omega
theorem A9s(o:Po)(ni:Bool)(a b:Pl):pw (.mk o ni [a,b])=ow o+wp1 o+(pw a+pw b)/\jn (.mk o ni [a,b])=(if o.op=5\/o.op=6 then 1 else 0)+(jn a+jn b):=by
 rw[pw,j7,j7,j7,jn,W0,W0,W0]
 omega
theorem A9r(o:Po)(ni:Bool)(a:Pl):pw (.mk o ni [a])=ow o+wp1 o+pw a/\jn (.mk o ni [a])=(if o.op=5\/o.op=6 then 1 else 0)+jn a:=by
 rw[pw,j7,j7,jn,W0,W0]
 omega
theorem C3a(K:List Kw){o:Po}{ni:Bool}{ins:List Pl}(l:List Ex)(h1:ins.length=1->o.op≠3)(h2:ins.length=2->o.op≠5/\o.op≠6):J5 K (.mk o ni ins) l=N3 (.mk o ni ins) l:=by
 match ins with
 |[]=>rw[J5]<;>simp
 |[x]=>rw[J5,if_neg (h1 rfl)]
 |[a,b]=>rw[J5,if_neg (h2 rfl).1,if_neg (h2 rfl).2]
 |_::_::_::_=>rw[J5]<;>simp
theorem D8H(K:List Kw):∀x:Pl,∀l:List Ex,(∀c∈l,M6 c)->pw (J5 K x l)<=pw x+aL l+23*jn x/\jn (J5 K x l)=jn x:=by
 refine Pl.ind λo ni ins ih l hl=>?_
 by_cases c1:ins.length=1/\o.op=3
 ·obtain⟨c1,c3⟩:=c1
  obtain⟨x,rfl⟩:=A3D c1
  rw[A4s K l c3]
  obtain⟨p1,p2⟩:=A9r o ni x
  have hL:∀c∈(cj o.pred).map (B0 0)++l,M6 c:=λc hm=>by
   rcases K8.1 hm with hm|hm
   ·exact A25 _ c hm
   ·exact hl c hm
  obtain⟨i1,i2⟩:=ih x (by simp) _ hL
  rw[A6g] at i1
  have:=A2E (A00 0) (cj o.pred)
  have e:wp1 o=max (o.pred.bk+8) (aL (cj o.pred)):=if_pos c3
  rw[if_neg (by omega)] at p2
  omega
 ·by_cases c2:ins.length=2/\(o.op=5\/o.op=6)
  ·obtain⟨c2,c5⟩:=c2
   obtain⟨a,b,rfl⟩:=n8 c2
   obtain⟨p1,p2⟩:=A9s o ni a b
   rw[if_pos c5] at p2
   have hcl:=B9X hl
   have hse:=A8w (F8 K a) (C8 l)
   obtain⟨a1,a2⟩:=ih a (by simp) (C6 (F8 K a) 0 (C8 l)) (N9 hl)
   rcases c5 with c5|c5
   ·rw[A4t K l c5]
    obtain⟨b1,b2⟩:=ih b (by simp) ((C6 (F8 K a) 1 (C8 l)).map (B0 (-(F8 K a)))) (A4w (N9 hl))
    have:=A2E (A00 (-(F8 K a))) (C6 (F8 K a) 1 (C8 l))
    obtain⟨f1,f2⟩:=B24 (x:=.mk o true [J5 K a (C6 (F8 K a) 0 (C8 l)),J5 K b ((C6 (F8 K a) 1 (C8 l)).map (B0 (-(F8 K a))))]) (N9 (n:=F8 K a) (k:=2) hl)
    obtain⟨q1,q2⟩:=A9s o true (J5 K a (C6 (F8 K a) 0 (C8 l))) (J5 K b ((C6 (F8 K a) 1 (C8 l)).map (B0 (-(F8 K a)))))
    rw[if_pos (.inl c5)] at q2
    omega
   ·rw[A4u K l c5]
    obtain⟨b1,b2⟩:=ih b (by simp) [] (by simp)
    have e0:aL []=0:=rfl
    have hm:∀c∈C6 (F8 K a) 1 (C8 l)++C6 (F8 K a) 2 (C8 l),M6 c:=λc hc=>by
     rcases K8.1 hc with hc|hc
     ·exact N9 hl c hc
     ·exact N9 hl c hc
    obtain⟨f1,f2⟩:=B24 (x:=.mk o true [J5 K a (C6 (F8 K a) 0 (C8 l)),J5 K b []]) hm
    rw[A6g] at f1
    obtain⟨q1,q2⟩:=A9s o true (J5 K a (C6 (F8 K a) 0 (C8 l))) (J5 K b [])
    rw[if_pos (.inr c5)] at q2
    omega
  ·rw[C3a K l (λe h=>c1 ⟨e,h⟩) (λe=>⟨λh=>c2 ⟨e,.inl h⟩,λh=>c2 ⟨e,.inr h⟩⟩)]
   obtain⟨f1,f2⟩:=B24 (x:=.mk o ni ins) hl
   omega
theorem A3s:∀{l:List Pl}{p:Pl},p∈l->F5 p<=P6 l
 |a::l,p,h=>by
  rw[P6]
  rcases H2.1 h with rfl|h
  ·omega
  ·have:=A3s h;omega
theorem D8v(o:Po):ow (m8 o)<=ow o:=by
 have h2:=C0l (l:=o.xs) λx _=>A00 0 x
 show D6 (A5 o.ki)+D6 (B7 o.rows)+D6 (xL (o.xs.map (B0 0)))+D6 (A5 o.keys)+D6 (I0 o.aggs)<=_
 unfold ow;omega
theorem B2P{K:List Kw}:∀p:Pl,∀d,F5 p<=d->(C2 K p).2=0->pw (M9 K p)<=pw p+23*(d*jn p)/\jn (M9 K p)=jn p:=by
 refine Pl.ind λo ni ins ih d hd h0=>?_
 obtain⟨k1,k2,k3,k4,k5,k6⟩:=Z9 h0
 rw[F5] at hd
 obtain⟨e,rfl⟩:∃e,d=e+1:=⟨d-1,by omega⟩
 have ih':∀x∈ins,pw (M9 K x)<=pw x+23*(e*jn x)/\jn (M9 K x)=jn x:=λx hx=>ih x hx e (by have:=A3s hx;omega) (k3 x hx)
 by_cases h3:o.op=3
 ·rw[h3] at k2
  obtain⟨x,rfl⟩:=A3D (show ins.length=1 by have:J9 3=1:=rfl;omega)
  obtain⟨i1,i2⟩:=ih' x (by simp)
  obtain⟨p1,p2⟩:=A9r o ni x
  rw[if_neg (by omega),A0Q] at p2
  have ew:wp1 o=max (o.pred.bk+8) (aL (cj o.pred)):=if_pos h3
  rw[A5C K h3,p1,p2]
  obtain⟨q1,q2⟩:=D8H K (M9 K x) ((cj (B0 0 o.pred)).map (B0 0)) (A25 _)
  have a1:=A2E (A00 0) (cj (B0 0 o.pred))
  rw[B1D] at a1 q1 q2 ⊢
  have a2:=A2E (A00 0) (cj o.pred)
  rw[i2] at q1 q2
  refine⟨?_,q2⟩
  rw[V8,Nat.one_mul]
  omega
 ·rw[A5D K h3,pw,pw,jn,jn]
  have hw:wp1 (m8 o)<=wp1 o:=by
   have:=A00 0 o.pred
   unfold wp1
   rw[if_neg h3,if_neg (show ¬(m8 o).op=3 from h3)]
   show(B0 0 o.pred).bk+8<=_
   omega
  have ho:=D8v o
  have key:∀l:List Pl,(∀x∈l,pw (M9 K x)<=pw x+23*(e*jn x)/\jn (M9 K x)=jn x)->j7 (l.map (M9 K))<=j7 l+23*(e*W0 l)/\W0 (l.map (M9 K))=W0 l:=by
   intro l
   induction l with
   |nil=>intro _;exact⟨N1 _,rfl⟩
   |cons a l ihl=>
    intro h
    obtain⟨h1,h2⟩:=h a (by simp)
    obtain⟨h4,h5⟩:=ihl λb hb=>h b (by simp[hb])
    rw[H5,j7,j7,W0,W0,Nat.mul_add]
    omega
  obtain⟨m1,m2⟩:=key ins ih'
  have hm:e*W0 ins<=(e+1)*((if o.op=5\/o.op=6 then 1 else 0)+W0 ins):=Nat.mul_le_mul (by omega) (by omega)
  refine⟨by omega,?_⟩
  rw[m2]
end Go.Proofs
end
section
namespace Go.Proofs
open Go.Bi
theorem A7b{ks:List Int}(hks:ks.length<=1073741824){e:Ex}(h:R7 ks e):R7 ks (B0 0 e)/\(∀r,L9 (B0 0 e) r=L9 e r)/\G5 (B0 0 e)=G5 e:=by
 obtain⟨a1,a2,a3⟩:=A9J ks hks e h.1
 refine⟨?_,λr=>?_,a3⟩
 ·unfold R7 at h ⊢
  rw[a1];exact h
 ·unfold L9
  rw[a2 r]
theorem C0Y{ks:List Int}(hks:ks.length<=1073741824){e:Ex}(h:R7 ks e):(∀c∈(cj (B0 0 e)).map (B0 0),R7 ks c)/\(L9 e=Y3 ((cj (B0 0 e)).map (B0 0))):=by
 obtain⟨h1,h2,_⟩:=A7b hks h
 have h3:=C2K (B0 0 e)|>.1 h1
 refine⟨λc hc=>?_,funext λr=>?_⟩
 ·obtain⟨x,hx,rfl⟩:=D7.1 hc
  exact(A7b hks (h3 x hx)).1
 ·rw[<- h2 r,D9J r (B0 0 e)]
  show _=List.all (List.map _ _) _
  rw[List.all_map]
  exact A8y λc hc=>((A7b hks (h3 c hc)).2.1 r).symm
theorem D8L{I:List Bg}(hI:InG I):∀p:Pl,F5 p<=24->pw p+552*jn p<=1073741824->(C2 (D2 I) p).2=0->N7 (H3 I) p<=2000->(C4 (D2 I) (M9 (D2 I) p)).2=0->PlE I p (M9 (D2 I) p):=by
 refine Pl.ind λo ni ins ih hd hb h0 hl hacc=>?_
 obtain⟨k1,k2,k3,k4,k5,k6⟩:=Z9 h0
 obtain⟨m1,m2⟩:=y8 hl
 have hpb:(Pl.mk o ni ins).bk<=1073741824:=by have:=(A07 (.mk o ni ins)).1;omega
 have hsd:∀x∈ins,F5 x<=24:=λx hx=>by have:=A3s hx;rw[F5] at hd;omega
 have hsb:∀x∈ins,pw x+552*jn x<=1073741824:=λx hx=>by have:=B2S hx;rw[pw,jn] at hb;omega
 have ih':=λx hx=>ih x hx (hsd x hx) (hsb x hx) (k3 x hx) (m2 x hx)
 by_cases h3:o.op=3
 ·rw[h3] at k2
  obtain⟨x,rfl⟩:=A3D (show ins.length=1 by have:J9 3=1:=rfl;omega)
  rw[A5C _ h3] at hacc ⊢
  have hnf:=A7j x (k3 x (by simp))
  obtain⟨⟨p1,p2,p3⟩,_⟩:=A7e hnf _ (A25 _) hacc
  have X:=ih' x (by simp) p1
  obtain⟨f1,f2,f3,_⟩:=A6R (K:=D2 I) h3 (show(C4 (D2 I) (.mk o ni [x])).2=0 by rw[A1y hd];exact h0)
  have hlen:=Z8 (D2 I) x
  obtain⟨c1,c2⟩:=C0Y (ks:=(C2 (D2 I) x).1.ks) (by omega) (A4v.1 f2).1
  have hpx:=(B2P x 24 (hsd x (by simp)) (k3 x (by simp))).1
  have hbx:=hsb x (by simp)
  have hbb:=(A07 (M9 (D2 I) x)).1
  have Y:=D8G hI hnf _ (A25 (B0 0 o.pred)) (by omega) (A0I X.lg (m2 x (by simp))) hacc (by rw[X.ks];exact c1)
  have Z:i9 I x (.mk o ni [x]) ((cj (B0 0 o.pred)).map (B0 0)):=i9.f3 h3 c2
  refine⟨(S2 hacc).2.1,by rw[p2,X.ks,f3],by rw[Y.ki,X.ki,Z.ki],?_,by rw[Y.sz,X.sz,Z.sz],A0I Y.lg (A0I X.lg ((y8 (A0q (N7 (H3 I) (.mk o ni [x])))).2 x (by simp))),by rw[Y.sc,X.sc,Z.sc]⟩
  rw[Y.rows,Z.rows,X.rows]
 ·rw[A5D _ h3] at hacc ⊢
  obtain⟨d1,d2,_⟩:=S2 hacc
  obtain⟨g1,g2,g3,_⟩:=Z9 d2
  rw[F5] at d1
  exact PlE.node hI (Z4.cp o) hpb h0 hl λx hx=>ih' x hx (by
   have hm:M9 (D2 I) x∈ins.map (M9 (D2 I)):=D7.2 ⟨x,hx,rfl⟩
   have:=A3s hm
   rw[A1y (by omega)]
   exact g3 _ hm)
inductive Sm:Pl->Prop
 |mk {o:Po} {ni:Bool} {ins:List Pl} (h:o.op=3->∀c∈cj o.pred,G5 c<=8) (hs:∀x∈ins,Sm x):Sm (.mk o ni ins)
theorem Sm.own{o:Po}{ni:Bool}{ins:List Pl}(h:Sm (.mk o ni ins)):(o.op=3->∀c∈cj o.pred,G5 c<=8)/\∀x∈ins,Sm x:=by
 cases h with
 |mk h hs=>exact⟨h,hs⟩
mutual
/-- The depth without filters. -/
def jd:Pl->Nat
 |.mk o _ ins=>(if o.op=3 then 0 else 1)+N4 ins
def N4:List Pl->Nat
 |[]=>0
 |p::r=>max (jd p) (N4 r)
end
theorem B2e:∀{l:List Pl}{p:Pl},p∈l->jd p<=N4 l
 |a::l,p,h=>by
  rw[N4]
  rcases H2.1 h with rfl|h
  ·omega
  ·have:=B2e h;omega
theorem D6O{l:List Pl}{B:Nat}(h:∀p∈l,jd p<=B):N4 l<=B:=by
 induction l with
 |nil=>exact N1 _
 |cons a l ih=>exact Nat.max_le.2 ⟨h a (by simp),ih λp hp=>h p (by simp[hp])⟩
theorem D6N:∀p:Pl,jd p<=F5 p:=by
 refine Pl.ind λo ni ins ih=>?_
 rw[jd,F5]
 have:N4 ins<=P6 ins:=D6O λx hx=>K4 (ih x hx) (A3s hx)
 split<;>omega
theorem B2x{K:List Kw}:∀{x:Pl},NF K x->F5 x<=2*jd x/\(x.op≠3->F5 x+1<=2*jd x):=by
 intro x hx
 induction hx with
 |@leaf o ni ins h hs ih=>
  have:P6 ins<=2*N4 ins:=C13 λx hx=>by
   have h1:=(ih x hx).1
   have h2:=B2e hx
   omega
  rw[F5,jd,if_neg h.1]
  omega
 |@join o ni a b h ha hb iha ihb=>
  have h1:=iha.1
  have h2:=ihb.1
  rw[A5a,jd,if_neg (by omega),N4,N4,N4]
  omega
 |@filt o ni y l h hy h3 hp hl hc hr ih=>
  have h1:=ih.2 h3
  rw[A3r,jd,if_pos h,N4,N4]
  exact⟨by omega,λe=>absurd h e⟩
theorem B21{x:Pl}{l:List Ex}(h:∀c∈l,M6 c):jd (N3 x l)=jd x:=by
 by_cases hn:l=[]
 ·subst hn;rfl
 ·rw[A4i h hn]
  have e4:jd (Q7 3 0 (J6 false l) [x])=0+max (jd x) 0:=by rw[jd,N4,N4];rfl
  omega
theorem B2I(K:List Kw):∀x:Pl,∀l:List Ex,(∀c∈l,M6 c)->jd (J5 K x l)=jd x:=by
 refine Pl.ind λo ni ins ih l hl=>?_
 by_cases c1:ins.length=1/\o.op=3
 ·obtain⟨c1,c3⟩:=c1
  obtain⟨x,rfl⟩:=A3D c1
  have hL:∀c∈(cj o.pred).map (B0 0)++l,M6 c:=λc hm=>by
   rcases K8.1 hm with hm|hm
   ·exact A25 _ c hm
   ·exact hl c hm
  rw[A4s K l c3,ih x (by simp) _ hL,jd,if_pos c3,N4,N4]
  omega
 ·by_cases c2:ins.length=2/\(o.op=5\/o.op=6)
  ·obtain⟨c2,c5⟩:=c2
   obtain⟨a,b,rfl⟩:=n8 c2
   have ha:=ih a (by simp) (C6 (F8 K a) 0 (C8 l)) (N9 hl)
   rcases c5 with c5|c5
   ·have hb:=ih b (by simp) ((C6 (F8 K a) 1 (C8 l)).map (B0 (-(F8 K a)))) (A4w (N9 hl))
    rw[A4t K l c5,B21 (N9 hl),jd,jd,N4,N4,N4,N4,N4,N4,ha,hb]
   ·have hb:=ih b (by simp) [] (by simp)
    rw[A4u K l c5,B21 (λc hc=>by
     rcases K8.1 hc with hc|hc
     ·exact N9 hl c hc
     ·exact N9 hl c hc),jd,jd,N4,N4,N4,N4,N4,N4,ha,hb]
  ·rw[C3a K l (λe h=>c1 ⟨e,h⟩) (λe=>⟨λh=>c2 ⟨e,.inl h⟩,λh=>c2 ⟨e,.inr h⟩⟩),B21 hl]
theorem C3e{K:List Kw}:∀p:Pl,(C2 K p).2=0->jd (M9 K p)=jd p:=by
 refine Pl.ind λo ni ins ih h0=>?_
 obtain⟨k1,k2,k3,k4,k5,k6⟩:=Z9 h0
 have ih':=λx hx=>ih x hx (k3 x hx)
 by_cases h3:o.op=3
 ·rw[h3] at k2
  obtain⟨x,rfl⟩:=A3D (show ins.length=1 by have:J9 3=1:=rfl;omega)
  rw[A5C K h3,B2I K _ _ (A25 _),ih' x (by simp),jd,if_pos h3,N4,N4]
  omega
 ·rw[A5D K h3,jd,jd]
  have:∀l:List Pl,(∀x∈l,jd (M9 K x)=jd x)->N4 (l.map (M9 K))=N4 l:=by
   intro l
   induction l with
   |nil=>intro _;rfl
   |cons a l ihl=>
    intro h
    rw[H5,N4,N4,h a (by simp),ihl λb hb=>h b (by simp[hb])]
  rw[this ins ih']
theorem C1D{p:Pl}{l:List Ex}(h:∀c∈l,M6 c):F5 p<=F5 (N3 p l):=by
 by_cases hn:l=[]
 ·subst hn
  exact D3 _
 ·rw[A4i h hn]
  have hd:F5 (Q7 3 0 (J6 false l) [p])=F5 p+1:=A3r (po0 3 0 (J6 false l)) true p
  omega
theorem D5A{nl:Bool}{l:List Ex}(h:∀c∈l,G5 c<=8):G5 (J6 nl l)<=9:=by
 match l,h with
 |[],_=>
  show G5 (.mk 1 0 (Y0 true) [] true [])<=9
  rw[U4];decide
 |[x],h=>have:=h x (by simp);show G5 x<=9;omega
 |x::y::l,h=>
  rw[A2H (by simp),U4]
  have:mx ((x::y::l).map G5)<=8:=A2R.2 λd hd=>by
   obtain⟨c,hc,rfl⟩:=D7.1 hd
   exact h c hc
  omega
theorem D5D:∀e:Ex,∀c∈cj e,G5 c<=G5 e:=by
 refine Ex.ind λop n v nm nl args ih c hc=>?_
 rw[A0U] at hc
 split at hc
 ·obtain⟨a,ha,hca⟩:=A03.1 hc
  have h1:=ih a ha c hca
  have h2:=A2R.1 (D3 (mx (args.map G5))) _ (D7.2 ⟨a,ha,rfl⟩)
  rw[U4];omega
 ·rw[M7] at hc
  subst hc;exact D3 _
theorem B23{K:List Kw}{x:Pl}{l:List Ex}(hl:∀c∈l,M6 c)(hx:(C4 K x).2=0)(hs:Sm x)(ho:∀c∈l,R7 (C2 K x).1.ks c/\G5 c<=8)(hd:F5 (N3 x l)<=24):(C4 K (N3 x l)).2=0/\(C2 K (N3 x l)).1.ks=(C2 K x).1.ks/\Sm (N3 x l):=by
 by_cases hn:l=[]
 ·subst hn;exact⟨hx,rfl,hs⟩
 ·rw[A4i hl hn] at hd ⊢
  have hd:F5 (.mk (po0 3 0 (J6 false l)) true [x])<=24:=hd
  rw[A3r] at hd
  obtain⟨f1,f2⟩:=C1B (K:=K) (o:=po0 3 0 (J6 false l)) (ni:=true) rfl hx (A4v.2 ⟨A5B.2 λc hc=>(ho c hc).1,K4 (D5A λc hc=>(ho c hc).2) (by decide)⟩) hd
  refine⟨f1,f2,.mk (λ_ c hc=>?_) λy hy=>by rw[M7.1 hy];exact hs⟩
  have hc:c∈cj (J6 false l):=hc
  rw[A2K (λc hc=>(hl c hc).flat) hn] at hc
  exact(ho c hc).2
theorem D5b{ks:List Int}{l:List Ex}(h:∀c∈l,M6 c)(ho:∀c∈l,R7 ks c/\G5 c<=8):∀c∈C8 l,R7 ks c/\G5 c<=8:=λc hc=>⟨C0z h (λc hc=>(ho c hc).1) c hc,by
 by_cases hn:l=[]
 ·subst hn
  rw[A6y] at hc
  rw[M7.1 hc]
  show G5 (.mk 1 0 (Y0 true) [] true [])<=8
  rw[U4];decide
 ·rw[A4d h hn] at hc;exact(ho c hc).2⟩
theorem D8F{K:List Kw}:∀{x:Pl},NF K x->∀l:List Ex,(∀c∈l,M6 c)->(C4 K x).2=0->Sm x->jd x<=12->(∀c∈l,R7 (C2 K x).1.ks c/\G5 c<=8)->(C4 K (J5 K x l)).2=0/\(C2 K (J5 K x l)).1.ks=(C2 K x).1.ks/\Sm (J5 K x l):=by
 intro x hx
 induction hx with
 |@leaf o ni ins h hs ih=>
  intro l hl h0 hsm hj ho
  have hd:=(B2x (B2J (.leaf (K:=K) (ni:=ni) h hs) l hl)).1
  rw[B2I K _ l hl] at hd
  rw[A7f K l h] at hd ⊢
  exact B23 hl h0 hsm ho (by omega)
 |@join o ni a b h ha hb iha ihb=>
  intro l hl h0 hsm hj ho
  have hd:=(B2x (B2J (.join (ni:=ni) h ha hb) l hl)).1
  rw[B2I K _ l hl] at hd
  obtain⟨a0,b0⟩:=A2b h0
  have hks:=C2f h h0
  rw[hks] at ho
  have ho':=D5b hl ho
  have hwd:=C4i a0
  have hla:=Z8 K a
  have hlb:=Z8 K b
  have hkl:((C2 K a).1.ks++(C2 K b).1.ks).length<=4294967296:=by rw[H8];omega
  obtain⟨hsw,hss⟩:=hsm.own
  rw[jd,if_neg (by omega),N4,N4,N4] at hj hd
  obtain⟨A1,A2,A3⟩:=iha (C6 (F8 K a) 0 (C8 l)) (N9 hl) a0 (hss a (by simp)) (by omega) λc hc=>by
   obtain⟨c1,c2⟩:=y9.1 hc
   rw[hwd] at c2
   exact⟨C2L (ho' c c1).1 c2,(ho' c c1).2⟩
  rcases h with h|h
  ·rw[A4t K l h] at hd ⊢
   obtain⟨B1,B2,B3⟩:=ihb ((C6 (F8 K a) 1 (C8 l)).map (B0 (-(F8 K a)))) (A4w (N9 hl)) b0 (hss b (by simp)) (by omega) λc hc=>by
    obtain⟨d,hd,rfl⟩:=D7.1 hc
    obtain⟨d1,d2⟩:=y9.1 hd
    rw[hwd] at d2 ⊢
    obtain⟨r1,r2⟩:=C2M hkl (ho' d d1).1 d2
    exact⟨r1,by rw[r2];exact(ho' d d1).2⟩
   have hdl:=(C1D (p:=.mk o true [J5 K a (C6 (F8 K a) 0 (C8 l)),J5 K b ((C6 (F8 K a) 1 (C8 l)).map (B0 (-(F8 K a))))]) (N9 (n:=F8 K a) (k:=2) hl))
   have j:=A9b (ni:=true) h0 ⟨A1,A2.symm⟩ ⟨B1,B2.symm⟩ (by omega)
   obtain⟨F1,F2,F3⟩:=B23 (N9 (n:=F8 K a) (k:=2) hl) j.1 (.mk (λe=>by omega) λy hy=>by
    simp only[H2,U2,or_false] at hy
    rcases hy with rfl|rfl
    ·exact A3
    ·exact B3) (λc hc=>by rw[<- j.2,hks];exact ho' c (y9.1 hc).1) (by omega)
   exact⟨F1,by rw[F2,<- j.2],F3⟩
  ·rw[A4u K l h] at hd ⊢
   obtain⟨B1,B2,B3⟩:=ihb [] (by simp) b0 (hss b (by simp)) (by omega) (by simp)
   have hm:∀c∈C6 (F8 K a) 1 (C8 l)++C6 (F8 K a) 2 (C8 l),M6 c/\c∈C8 l:=λc hc=>by
    rcases K8.1 hc with hc|hc
    ·exact⟨N9 hl c hc,(y9.1 hc).1⟩
    ·exact⟨N9 hl c hc,(y9.1 hc).1⟩
   have hdl:=(C1D (p:=.mk o true [J5 K a (C6 (F8 K a) 0 (C8 l)),J5 K b []]) λc hc=>(hm c hc).1)
   have j:=A9b (ni:=true) h0 ⟨A1,A2.symm⟩ ⟨B1,B2.symm⟩ (by omega)
   obtain⟨F1,F2,F3⟩:=B23 (λc hc=>(hm c hc).1) j.1 (.mk (λe=>by omega) λy hy=>by
    simp only[H2,U2,or_false] at hy
    rcases hy with rfl|rfl
    ·exact A3
    ·exact B3) (λc hc=>by rw[<- j.2,hks];exact ho' c (hm c hc).2) (by omega)
   exact⟨F1,by rw[F2,<- j.2],F3⟩
 |@filt o ni y lp h hy h3 hp hlp hc hr ih=>
  intro l hl h0 hsm hj ho
  rw[A4s K l h]
  have hcj:(cj o.pred).map (B0 0)=lp:=by rw[hp,A2K (λc hm=>(hc c hm).flat) hlp,A3F hc]
  have hcj2:cj o.pred=lp:=by rw[hp,A2K (λc hm=>(hc c hm).flat) hlp]
  rw[hcj]
  obtain⟨y0,hpr,hks,_⟩:=A6R h h0
  obtain⟨hsw,hss⟩:=hsm.own
  have hsw:=hsw h
  rw[hcj2] at hsw
  rw[hks] at ho ⊢
  rw[hp] at hpr
  have hokp:=A5B.1 (A4v.1 hpr).1
  rw[jd,if_pos h,N4,N4] at hj
  exact ih (lp++l) (λc hm=>by
   rcases K8.1 hm with hm|hm
   ·exact hc c hm
   ·exact hl c hm) y0 (hss y (by simp)) (by omega) (λc hm=>by
   rcases K8.1 hm with hm|hm
   ·exact⟨hokp c hm,hsw c hm⟩
   ·exact ho c hm)
inductive Sd:Pl->Prop
 |mk {o:Po} {ni:Bool} {ins:List Pl} (h:o.op=3->G5 o.pred<=8) (hs:∀x∈ins,Sd x):Sd (.mk o ni ins)
theorem D8K{K:List Kw}:∀p:Pl,(C2 K p).2=0->Sd p->jd p<=12->F5 p<=24->(C4 K (M9 K p)).2=0/\(C2 K (M9 K p)).1.ks=(C2 K p).1.ks/\Sm (M9 K p):=by
 refine Pl.ind λo ni ins ih h0 hs hj hd=>?_
 obtain⟨k1,k2,k3,k4,k5,k6⟩:=Z9 h0
 cases hs with
 |mk hp hs=>
 have ih':=λx hx=>ih x hx (k3 x hx) (hs x hx) (by have:=B2e hx;rw[jd] at hj;omega) (by have:=A3s hx;rw[F5] at hd;omega)
 by_cases h3:o.op=3
 ·rw[h3] at k2
  obtain⟨x,rfl⟩:=A3D (show ins.length=1 by have:J9 3=1:=rfl;omega)
  obtain⟨x1,x2,x3⟩:=ih' x (by simp)
  obtain⟨f1,f2,f3,_⟩:=A6R (K:=K) h3 (show(C4 K (.mk o ni [x])).2=0 by rw[A1y hd];exact h0)
  have hlen:=Z8 K x
  have hok:=(A4v.1 f2).1
  obtain⟨c1,c2⟩:=C0Y (ks:=(C2 K x).1.ks) (by omega) hok
  obtain⟨e1,_,e2⟩:=A7b (ks:=(C2 K x).1.ks) (by omega) hok
  have h5:=C2K (B0 0 o.pred)|>.1 e1
  rw[A5C _ h3]
  have hjx:=C3e x (k3 x (by simp))
  rw[jd,if_pos h3,N4,N4] at hj
  obtain⟨r1,r2,r3⟩:=D8F (A7j x (k3 x (by simp))) _ (A25 (B0 0 o.pred)) x1 x3 (by omega) λc hc=>by
   rw[x2]
   refine⟨c1 c hc,?_⟩
   obtain⟨z,hz,rfl⟩:=D7.1 hc
   have:=D5D (B0 0 o.pred) z hz
   rw[(A7b (ks:=(C2 K x).1.ks) (by omega) (h5 z hz)).2.2]
   have:=hp h3
   omega
  exact⟨r1,by rw[r2,x2,f3],r3⟩
 ·have hnf:=A7j (.mk o ni ins) h0
  have hjp:=C3e (.mk o ni ins) h0
  have hdp:=(B2x hnf).1
  rw[A5D _ h3] at hjp hdp ⊢
  obtain⟨n1,n2⟩:=B2v (Z4.cp o) (ni':=true) h0 λx hx=>⟨(S2 (ih' x hx).1).2.1,(ih' x hx).2.1⟩
  refine⟨by rw[A1y (by omega)];exact n1,n2,.mk (λe=>absurd e h3) λy hy=>?_⟩
  obtain⟨x,hx,rfl⟩:=D7.1 hy
  exact(ih' x hx).2.2
end Go.Proofs
end
section
namespace Go.Bi
open Go
section
variable {P:Program}{n nb:Nat}{M:D4}{G:Gh}{os:List AO}{w:World}{ρ:D5}{a:Act}
def A7q(Q:AV->List AO->Prop)(rs:List RV)(ρ:D5)(os:List AO):Prop:=r6 ρ os rs λl=>match l with
 |[x,y,z]=>x.one=true/\y.one=true/\z.one=true/\Q (.tup [x,y,z]) os
 |_=>False
def A7o(Q:AV->List AO->Prop)(rs:List RV)(L:Sl)(os:List AO):Prop:=A4F L os rs λl=>match l with
 |[x,y,z]=>G4 (x.one=true) (G4 (y.one=true) (G4 (z.one=true) (Q (.tup [x,y,z]) os)))
 |_=>False
theorem B2W{ρ:D5}{os:List AO}{K K':List AV->Prop}(hk:∀l,K l->K' l):∀{rs:List RV},r6 ρ os rs K->r6 ρ os rs K'
 |[],h=>hk _ h
 |.t s::rs,h=>B2W (rs:=rs) (λl hl=>hk _ hl) h
 |.cell s m g::rs,h=>by
  simp only[r6] at h ⊢
  obtain⟨r,h1,h2⟩:=A9g h
  exact h2 _ (B2W (rs:=rs) (λl hl=>hk _ hl) h1)
theorem C3r{Q:AV->List AO->Prop}{rs:List RV}{L:Sl}{os:List AO}(h:A7o Q rs L os):A7q Q rs (E8 L) os:=by
 have h1:=A5T h
 refine B2W (λl hl=>?_) h1
 match l,hl with
 |[x,y,z],hl=>exact⟨hl.1,hl.2.1,hl.2.2.1,hl.2.2.2⟩
theorem D8z{c:u9}(hR:Y7 n nb c M G os w ρ a){fn:Func}{rs:List RV}(hrs:fn.results.toList.mapM (cRV P)=some rs){Q:AV->List AO->Prop}(h:A7q Q rs ρ os) :
  ∃v,(results fn a.tmps).run P w=.ok v w/\∃M' G' r os',C9 M' G' os' w/\G7 c.M c.G c.os c.w M' G' os' w/\VA M' G' os' r v/\Q r os':=by
 obtain⟨l,vs,h1,h2,h3,h4⟩:=A9A hR.env hR.tmps _ rs hrs _ h
 match l,h1,h3,h4 with
 |[x,y,z],h1,h3,h4=>
  simp only[H9,l9] at h3
  refine⟨_,B31 h2,M,G,.tup [x,y,z],os,hR.env,hR.since,?_,h1.2.2.2⟩
  rw[dif_neg (by omega)]
  refine⟨vs.toArray,rfl,by simpa using h3,λj c u hc hu=>?_⟩
  have hu:vs[j]?=some u:=by simpa using hu
  match j,hc with
  |0,hc=>cases hc;exact A9n (h4 0 _ u rfl hu) h1.1
  |1,hc=>cases hc;exact A9n (h4 1 _ u rfl hu) h1.2.1
  |2,hc=>cases hc;exact A9n (h4 2 _ u rfl hu) h1.2.2.1
  |j+3,hc=>simp at hc
theorem D6r(hm:P.follows .mixedOrders=true){f:FuncId}{fn:Func}{code:Code}{ic:IC}{rs:List RV}(hf:P.funcs[f]?=some fn)(hname:fn.name≠ "runtime.NumGoroutine")(hb:fn.body=some code)(hc:cC P fn.ntmps code=some ic)
  (hrs:fn.results.toList.mapM (cRV P)=some rs) {args:List AV} {bs:List AO} (hargs:args.length<=fn.ntmps) {Q:AV->List AO->Prop}
  (h:Z3 P fn.ntmps bs.length ic {norm:=A7q Q rs,exit:=λ_ _ _=>False,ret:=A7q Q rs} (A1Z args) bs):B9 P f args bs Q:=by
 refine⟨⟨fn,hf,by rw[hb];rfl,hname⟩,λM G w vs he hl hv=>?_⟩
 refine calls_of_wp hf hb (wp_mono (A7N hm code ic hc _ _ _ h ⟨M,G,bs,w⟩ M G w {tmps:=vs++Array.replicate (fn.ntmps-vs.size) undef,defers:=[]} ?_) λe a' w' hp=>?_)
 ·exact {
   env:=he,since:=G7.refl ..,size:=by simp;omega,defers:=rfl,base:=rfl
   tmps:=λt=>by
    unfold A1Z
    by_cases ht:t<args.length
    ·have h1:(vs++Array.replicate (fn.ntmps-vs.size) undef).getD t undef=vs[t]:=by
      simp[A2t (show t<vs.size by omega),show t<vs.size by omega]
     have h2:args.getD t .junk=args[t]:=by simp[ht]
     show VA M G bs (args.getD t .junk) ((vs++Array.replicate (fn.ntmps-vs.size) undef).getD t undef)
     rw[h1,h2]
     have:=hv t args[t] vs[t] (F4 ht) (O0 (by omega))
     generalize args[t]=c at this
     cases c with
     |tup cs=>exact this.elim
     |junk=>trivial
     |_=>exact this
    ·have:args.getD t .junk=.junk:=by simp[I4,A1m (Nat.le_of_not_lt ht)]
     rw[this]
     trivial}
 ·have fin:A0H fn.ntmps bs.length ⟨M,G,bs,w⟩ (A7q Q rs) a' w'->a'.defers=[]/\∃v,(results fn a'.tmps).run P w'=.ok v w'/\∃v',Ending.returned v=.returned v'/\∃M' G' r os',C9 M' G' os' w'/\G7 M G bs w M' G' os' w'/\VA M' G' os' r v'/\Q r os':=by
   rintro⟨M',G',os',ρ',hR,hk⟩
   obtain⟨v,h1,h2⟩:=D8z hR hrs hk
   exact⟨hR.defers,v,h1,v,rfl,h2⟩
  cases e with
  |normal=>exact fin hp
  |ret=>exact fin hp
  |exit id=>obtain⟨_,_,_,_,_,hk⟩:=hp;exact hk.elim
  |_=>exact hp.elim
end
theorem B8.goO3{P:Program}(hm:P.follows .mixedOrders=true){f n:Nat}{ic:IC}{rs:List RV}(h:B8 P f n ic rs){args:List AV}{bs:List AO}(hargs:Nat.ble args.length n=true){Q:AV->List AO->Prop}
  (hw:Go (xI P n bs.length ic (A7o Q rs) (λ_ _ _=>False) (A7o Q rs) (A1r 0 args) bs)):B9 P f args bs Q:=by
 obtain⟨fn,h1,h2,h3,h4,h5⟩:=h
 obtain⟨code,hb,hc⟩:=i7.1 h4
 subst h2
 refine D6r hm h1 (by simpa using h3) hb hc h5 (R3 hargs) ?_
 rw[B2z]
 exact A36 (K:=⟨A7o Q rs,λ_ _ _=>False,A7o Q rs⟩) ⟨λL os h=>C3r h,λ_ _ _ h=>h,λL os h=>C3r h⟩ hw
end Go.Bi
end
section
namespace Go.Proofs
open Go.Bi
theorem C4N(e:Ex)(he:e.bk<=1073741824):B9 Tryz.prog B1c [e.av] [] (λr os=>r=.arr 2 (xL ((cj e).map (B0 0))).length/\os=[.cells (e.ds.map .d),.cells [.arr 2 (xL ((cj e).map (B0 0))).length],.arr (xL ((cj e).map (B0 0))) 7 0 (xL ((cj e).map (B0 0))).isEmpty]):=by
 have hl:=A3n e
 have hE:=(B3F A8r 7 A2F (okA 7) B3z e he 0 [] ⟨by simp;omega,by simp⟩).2
 rw[B9Z,A0M] at hE
 obtain⟨R,hR⟩:∃R,R=xL ((cj e).map (B0 0)):=⟨_,rfl⟩
 rw[<- hR] at hE ⊢
 obtain⟨op,n,v,nm,nl,args⟩:=e
 have hB:=C1e rfl hE ((T5 op n v nm (ng nl (xL args))).map .d) (C02 _)
 rw[Ex.ds_mk] at hB ⊢
 rw[Ex.av_mk]
 refine B4D.goO A6 rfl ?_
 obtain⟨b,hb⟩:∃b,b=R.isEmpty:=⟨_,rfl⟩
 rw[<- hb] at hB ⊢
 repeat' first|refine st ?_|((with_reducible apply A4);conv=>whnf)|((with_reducible first|apply O8|apply O7);(·exact hB);(try rintro _ _ ⟨rfl,rfl⟩))|((with_reducible apply O9);(·exact hB))|refine⟨λ_=>?_,λ_=>?_⟩|fail
 all_goals exact⟨rfl,rfl⟩
theorem C4T(n:Int)(e:Ex)(he:e.bk<=1073741824):B9 Tryz.prog A4R [e.av,.d (eI n)] [] (λr os=>r=.tup [.arr 1 (xL (C6 n 0 ((cj e).map (B0 0)))).length,.arr 2 (xL (C6 n 1 ((cj e).map (B0 0)))).length,.arr 3 (xL (C6 n 2 ((cj e).map (B0 0)))).length]/\
  os=[.cells (e.ds.map .d),.arr (xL (C6 n 0 ((cj e).map (B0 0)))) 7 0 (xL (C6 n 0 ((cj e).map (B0 0)))).isEmpty,.arr (xL (C6 n 1 ((cj e).map (B0 0)))) 7 0 (xL (C6 n 1 ((cj e).map (B0 0)))).isEmpty,.arr (xL (C6 n 2 ((cj e).map (B0 0)))) 7 0 (xL (C6 n 2 ((cj e).map (B0 0)))).isEmpty]):=by
 have hj:=A7V e he
 have hLb:∀x∈(cj e).map (B0 0),x.bk<=1073741824:=λx hx=>by
  obtain⟨y,hy,rfl⟩:=D7.1 hx
  have h1:=B1C e y hy
  have h2:=A00 0 y
  omega
 have hLl:((cj e).map (B0 0)).length<=1073741824:=by rw[D8];have:=A3n e;omega
 obtain⟨L,hL⟩:∃L,L=(cj e).map (B0 0):=⟨_,rfl⟩
 rw[<- hL] at hj hLb hLl ⊢
 have hxl:=P0 L
 have hxm:=P2 L
 have hsL:A9 (M8 (xL L)) (xL L):=B38
 obtain⟨dL,hdL⟩:∃d,d=M8 (xL L):=⟨_,rfl⟩
 rw[<- hdL] at hj hsL
 obtain⟨op,k,v,nm,nl,args⟩:=e
 rw[Ex.av_mk] at hj ⊢
 rw[Ex.ds_mk]
 obtain⟨da,hda⟩:∃d,d=ng nl (xL args):=⟨_,rfl⟩
 rw[<- hda] at hj ⊢
 clear hda hdL hL he
 have r0:v.k=v.k:=rfl
 have r1:v.s=v.s:=rfl
 have r2:nm=nm:=rfl
 refine B4E.goO3 A6 rfl ?_
 repeat' first|refine st ?_|((with_reducible apply A4);conv=>whnf)|refine⟨λ_=>?_,λ_=>?_⟩|fail
 refine U7 7 7 rfl rfl ?_
 repeat' first|refine st ?_|((with_reducible apply A4);conv=>whnf)|refine⟨λ_=>?_,λ_=>?_⟩|fail
 refine U7 8 7 rfl rfl ?_
 repeat' first|refine st ?_|((with_reducible apply A4);conv=>whnf)|refine⟨λ_=>?_,λ_=>?_⟩|fail
 refine U7 9 7 rfl rfl ?_
 repeat' first|refine st ?_|((with_reducible apply A4);conv=>whnf)|refine⟨λ_=>?_,λ_=>?_⟩|fail
 refine C4G A6 B7N B7E (λ(i:Nat) (w1 w2 w3:List (List D)×Bool)=>[.arr 1 w1.1.length,.arr 2 w2.1.length,.arr 3 w3.1.length,.d (eI i)]) (λi w1 w2 w3=>[.cells [.d (eI op),.d (eI k),.d (eI v.k),.d (eI v.n),.d (.str v.s),.d (.str nm),.d da],.arr w1.1 7 0 w1.2,.arr w2.1 7 0 w2.2,.arr w3.1 7 0 w3.2]) (λi w1 w2 w3=>i<=L.length/\St7 true w1 (C6 n 0 (L.take i)) i/\St7 true w2 (C6 n 1 (L.take i)) i/\St7 true w3 (C6 n 2 (L.take i)) i) (λi _ _ _=>L.length-i) 0 ([],true) ([],true) ([],true) rfl rfl rfl rfl (λ_ _ _ _ _=>⟨rfl,rfl⟩) rfl ⟨N1 _,A5G,A5G,A5G⟩ ?_
 repeat' first|refine st ?_|((with_reducible apply A4);conv=>whnf)|refine⟨λ_=>?_,λ_=>?_⟩|fail
 intro i w1 w2 w3 ⟨h1,h2,h3,h4⟩
 obtain⟨A1,c1⟩:=w1
 obtain⟨A2,c2⟩:=w2
 obtain⟨A3,c3⟩:=w3
 obtain⟨m1,l1,e1,f1⟩:=h2
 obtain⟨m2,l2,e2,f2⟩:=h3
 obtain⟨m3,l3,e3,f3⟩:=h4
 dsimp only at m1 l1 e1 f1 m2 l2 e2 f2 m3 l3 e3 f3 ⊢
 cases hx:L[i]? with
 |none=>
  have hge:=E9.1 hx
  rw[H4 hge] at e1 e2 e3
  rw[<- e1,<- e2,<- e3]
  repeat' first|refine st ?_|((with_reducible apply A4);conv=>whnf)|refine⟨λ_=>?_,λ_=>?_⟩|fail
  all_goals
   rw[Q4] at f1 f2 f3
   subst f1
   subst f2
   subst f3
   exact⟨rfl,rfl⟩
 |some x=>
  have hlt:=(B4.1 hx).1
  have hgx:=Y1 hx
  have hxin:=C3 hx
  have hC:=B3H x (hLb x hxin)
  have hks:A9 (A3p x) (A5 (T2 x)):=C0U x
  have hcl:=A58 x
  have hxb:=hLb x hxin
  have s0:=A5H true (n:=n) (A:=A1) (c:=c1) hx 0
  have s1:=A5H true (n:=n) (A:=A2) (c:=c2) hx 1
  have s2:=A5H true (n:=n) (A:=A3) (c:=c3) hx 2
  have hcs:=A56 n x
  obtain⟨ks,hk⟩:∃y,y=T2 x:=⟨_,rfl⟩
  obtain⟨dk,hdk⟩:∃y,y=A3p x:=⟨_,rfl⟩
  rw[<- hk] at hks hcl hcs
  rw[<- hdk] at hC hks
  have hkl:=F9 ks
  obtain⟨o1,n1,v1,u1,b1,a1⟩:=x
  rw[Ex.ds_mk] at hgx
  rw[Ex.av_mk] at hC
  simp only[Ex.ds_mk] at s0 s1 s2
  rcases hcs with ⟨hc,hks0⟩|⟨y,z,hy,hz,hcc⟩
  ·have hks0':ks.length=0:=by rw[hks0];rfl
   rw[hc] at s0 s1 s2
   repeat' first|refine st ?_|((with_reducible apply A4);conv=>whnf)|refine⟨λ_=>?_,λ_=>?_⟩|fail
   all_goals exact⟨i+1,(A1++[_],_),(A2,c2),(A3,c3),rfl,rfl,rfl,by omega,by omega,s0.1 rfl m1 l1 e1 f1,s1.2 (by decide) m2 l2 e2 f2,s2.2 (by decide) m3 l3 e3 f3⟩
  ·have hpos:=(B4.1 hz).1
   have hg1:(A5 ks)[((ks.length:Int)-1).toNat]?=some [eI y]:=by
    rw[show((ks.length:Int)-1).toNat=ks.length-1 by omega];exact N2 hy
   have hg1':(A5 ks)[(((A5 ks).length:Int)-1).toNat]?=some [eI y]:=by rw[hkl];exact hg1
   have hg2:(A5 ks)[0]?=some [eI z]:=N2 hz
   have hg3:(A5 ks)[(0:Int).toNat]?=some [eI z]:=hg2
   have hk0:ks.length≠0:=by omega
   rcases hcc with ⟨hc,q1⟩|⟨hc,q1,q2⟩|⟨hc,q1,q2⟩
   ·rw[hc] at s0 s1 s2
    repeat' first|refine st ?_|((with_reducible apply A4);conv=>whnf)|refine⟨λ_=>?_,λ_=>?_⟩|fail
    all_goals exact⟨i+1,(A1++[_],_),(A2,c2),(A3,c3),rfl,rfl,rfl,by omega,by omega,s0.1 rfl m1 l1 e1 f1,s1.2 (by decide) m2 l2 e2 f2,s2.2 (by decide) m3 l3 e3 f3⟩
   ·rw[hc] at s0 s1 s2
    repeat' first|refine st ?_|((with_reducible apply A4);conv=>whnf)|refine⟨λ_=>?_,λ_=>?_⟩|fail
    all_goals exact⟨i+1,(A1,c1),(A2++[_],_),(A3,c3),rfl,rfl,rfl,by omega,by omega,s0.2 (by decide) m1 l1 e1 f1,s1.1 rfl m2 l2 e2 f2,s2.2 (by decide) m3 l3 e3 f3⟩
   ·rw[hc] at s0 s1 s2
    repeat' first|refine st ?_|((with_reducible apply A4);conv=>whnf)|refine⟨λ_=>?_,λ_=>?_⟩|fail
    all_goals exact⟨i+1,(A1,c1),(A2,c2),(A3++[_],_),rfl,rfl,rfl,by omega,by omega,s0.2 (by decide) m1 l1 e1 f1,s1.2 (by decide) m2 l2 e2 f2,s2.1 rfl m3 l3 e3 f3⟩
end Go.Proofs
end
section
namespace Go.Proofs
open Go.Bi
theorem C5g(K:List Kw)(hK:K.length<=4294967296)(hKb:∀k∈K,k.ks.length<=4294967296)(din:D)(hin:A9 din (E7 K))(o:Po)(ni:Bool)(y q:Pl)(ho:o.op=3)(hpb:o.pred.bk<=1073741824)(hyb:y.bk<=1073741824)(kd:D)(l:List Ex)(hl:l.length<=1073741824)(d:D)(hd:A9 d (xL l))
  (hP:∀d',A9 d' (xL ((cj o.pred).map (B0 0)++l))->B9 Tryz.prog m6 [.ptr 0 0,U6 y (C4 K y).1.d,.d d'] (F7 din) (λr os=>r=q.av/\os=F7 din)) :
  B9 Tryz.prog m6 [.ptr 0 0,U6 (.mk o ni [y]) kd,.d d] (F7 din) (λr os=>r=q.av/\os=F7 din):=by
 have hT:=A2w K hK hKb din hin y hyb
 have hCj:=C4N o.pred hpb
 have hTL:=λrest=>j8 hT (A1J _) (λf=>by rw[l8];exact R6 f _) rest
 have hPL:=λd' hd' rest=>j8 (hP d' hd') (by rw[l8];exact A2W _ _) (λf=>R6 f _) rest
 have hcl:=A3n o.pred
 have l1:=P0 l
 have m1:=P2 l
 have hR:=P0 ((cj o.pred).map (B0 0))
 have hRm:=P2 ((cj o.pred).map (B0 0))
 have happ:xL ((cj o.pred).map (B0 0)++l)=xL ((cj o.pred).map (B0 0))++xL l:=by simp[xL]
 rw[happ] at hPL
 rw[D8] at hR
 obtain⟨R,hRe⟩:∃z,z=xL ((cj o.pred).map (B0 0)):=⟨_,rfl⟩
 rw[<- hRe] at hCj hPL hR hRm
 obtain⟨es,hes⟩:∃z,z=xL l:=⟨_,rfl⟩
 rw[<- hes] at hd hPL l1 m1
 have hPL:=hPL (u7 (bif es.isEmpty then R.isEmpty else false) .nil (.sl (R++es))) (by cases R<;>cases es<;>first|exact .inl ⟨rfl,rfl⟩|exact .inr rfl)
 obtain⟨kd',hkd⟩:∃d,d=(C4 K y).1.d:=⟨_,rfl⟩
 rw[<- hkd] at hTL hPL
 clear hT hP hRe hes happ hkd
 obtain⟨op,n,nk,ki,nr,rows,⟨xo,xn,xv,xm,xl,xa⟩,nx,xs,ny,keys,na,aggs⟩:=o
 dsimp only at ho hpb hCj hcl hR
 subst ho
 have hds:(Pl.mk (⟨3,n,nk,ki,nr,rows,.mk xo xn xv xm xl xa,nx,xs,ny,keys,na,aggs⟩:Po) ni [y]).ds=K1 3 n (ng nk (A5 ki)) (ng nr (B7 rows)) xo xn xv xm (ng xl (xL xa)) (ng nx (xL xs)) (ng ny (A5 keys)) (ng na (I0 aggs)) (ng ni (pL [y])):=Pl.ds_eq _ _ _ _ _ _ _ _ _ rfl
 have hins:ng ni (pL [y])=.sl [y.ds]:=by cases ni<;>rfl
 unfold U6 at hTL hPL ⊢
 rw[hds,hins]
 rw[Ex.av_mk,Ex.ds_mk] at hCj
 obtain⟨dk,e1⟩:∃d,d=ng nk (A5 ki):=⟨_,rfl⟩
 obtain⟨dr,e2⟩:∃d,d=ng nr (B7 rows):=⟨_,rfl⟩
 obtain⟨dx,e3⟩:∃d,d=ng nx (xL xs):=⟨_,rfl⟩
 obtain⟨dy,e4⟩:∃d,d=ng ny (A5 keys):=⟨_,rfl⟩
 obtain⟨da,e5⟩:∃d,d=ng na (I0 aggs):=⟨_,rfl⟩
 obtain⟨xd,e7⟩:∃d,d=ng xl (xL xa):=⟨_,rfl⟩
 rw[<- e7] at hCj
 rw[<- e1,<- e2,<- e3,<- e4,<- e5,<- e7]
 clear e1 e2 e3 e4 e5 e7 hds hins
 obtain⟨ao,an,ak,ar,axo,axn,axv,axm,axd,adx,ady,ada,adi,a1,a2⟩:=Pl.cut y
 obtain⟨fo,fn,fk,fr,fxo,fxn,fxv,fxm,fxd,fdx,fdy,fda,fdi,f1,f2⟩:=Pl.cut q
 rw[a2] at hTL
 rw[a1] at hTL hPL ⊢
 rw[f2] at hPL ⊢
 clear a1 a2 f1 f2
 have hbd:(R.length+es.length)*88<=140737488355328:=by omega
 have hbd2:R.length+es.length<=9223372036854775807:=by omega
 obtain⟨rn,hrn⟩:∃b,b=R.isEmpty:=⟨_,rfl⟩
 rw[<- hrn] at hCj hPL
 have r0:xv.k=xv.k:=rfl
 have r1:xv.s=xv.s:=rfl
 have r2:xm=xm:=rfl
 refine A61.goX A6 rfl ?_
 rcases hd with ⟨rfl,rfl⟩|rfl
 ·repeat' first|refine st ?_|((with_reducible apply A4);conv=>whnf)|((with_reducible first|apply O8|apply O7);(·first|exact hTL _|exact hCj|exact hPL _);(try rintro _ _ ⟨rfl,rfl⟩))|((with_reducible apply O9);(·first|exact hTL _|exact hCj|exact hPL _))|refine⟨λ_=>?_,λ_=>?_⟩|fail
  all_goals exact⟨rfl,rfl⟩
 ·repeat' first|refine st ?_|((with_reducible apply A4);conv=>whnf)|((with_reducible first|apply O8|apply O7);(·first|exact hTL _|exact hCj|exact hPL _);(try rintro _ _ ⟨rfl,rfl⟩))|((with_reducible apply O9);(·first|exact hTL _|exact hCj|exact hPL _))|refine⟨λ_=>?_,λ_=>?_⟩|fail
  all_goals exact⟨rfl,rfl⟩
end Go.Proofs
end
