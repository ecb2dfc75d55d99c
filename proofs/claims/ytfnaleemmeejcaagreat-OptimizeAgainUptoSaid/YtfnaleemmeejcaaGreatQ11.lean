/- Texts of this claim, joined. No condition. -/
import Derived.Test.YtfnaleemmeejcaaGreatQ10
set_option linter.unusedSimpArgs false
set_option linter.unusedVariables false
set_option maxRecDepth 10000
set_option maxHeartbeats 4000000
section
namespace Go.Proofs
open Go.Bi
theorem B41(q:Pl)(hq:q.bk<=1073741824)(input s0 s1:Int)(hs:D8 q=[s0,s1])(hc:(s0=input/\s1≠input)\/(s0≠input/\s1=input))(x:Ex)(hxb:x.bk<=1073741824)(b1 b2:Bool)(hf:Pure Tryz.prog A3D [q.av,.d (eI input)] (.tup [.d (.sl [x.ds]),.d (.bool b1),.d (.bool b2)])) :
  Pure Tryz.prog A8O [q.av,.d (eI input)] (.d (.sl [(A9 0 x).ds])):=by
 have hS:=B4m q hq
 rw[hs,show ng true (A5 [s0,s1])=.sl [[eI s0],[eI s1]] from rfl] at hS
 have hC:=B0I [x] (by simp) (λy hy=>by rw[O4.1 hy];exact hxb) (.sl [x.ds]) (.inr rfl)
 rw[show ng true (xL ([x].map (A9 0)))=.sl [(A9 0 x).ds] from rfl] at hC
 clear hs hxb
 obtain⟨d1,hd1⟩:∃d,d=D.sl [x.ds]:=⟨_,rfl⟩
 obtain⟨d2,hd2⟩:∃d,d=D.sl [(A9 0 x).ds]:=⟨_,rfl⟩
 rw[<- hd1] at hf hC
 rw[<- hd2] at hC ⊢
 clear hd1 hd2
 obtain⟨ao,an,ak,ar,axo,axn,axv,axm,axd,adx,ady,ada,adi,a1,a2⟩:=Pl.cut q
 rw[a2] at hS hf ⊢
 clear a1 a2
 rcases hc with ⟨rfl,h⟩|⟨h,rfl⟩
 ·refine B5c.go A6 rfl ?_
  repeat' first|refine st ?_|((with_reducible apply A4);conv=>whnf)|refine⟨λ_=>?_,λ_=>?_⟩|fail
  refine A0X 3 (j8 A6 ?_)
  repeat' first|refine st ?_|((with_reducible apply A4);conv=>whnf)|refine⟨λ_=>?_,λ_=>?_⟩|fail
  refine j8 A6 ?_
  repeat' first|refine st ?_|((with_reducible apply A4);conv=>whnf)|refine⟨λ_=>?_,λ_=>?_⟩|fail
  refine j8 A6 ?_
  repeat' first|refine st ?_|((with_reducible apply A4);conv=>whnf)|refine⟨λ_=>?_,λ_=>?_⟩|fail
  all_goals rfl
 ·refine B5c.go A6 rfl ?_
  repeat' first|refine st ?_|((with_reducible apply A4);conv=>whnf)|refine⟨λ_=>?_,λ_=>?_⟩|fail
  refine A0X 3 (j8 A6 ?_)
  repeat' first|refine st ?_|((with_reducible apply A4);conv=>whnf)|refine⟨λ_=>?_,λ_=>?_⟩|fail
  refine j8 A6 ?_
  repeat' first|refine st ?_|((with_reducible apply A4);conv=>whnf)|refine⟨λ_=>?_,λ_=>?_⟩|fail
  refine j8 A6 ?_
  repeat' first|refine st ?_|((with_reducible apply A4);conv=>whnf)|refine⟨λ_=>?_,λ_=>?_⟩|fail
  all_goals rfl
abbrev A4m:Ex:=A2q ⟨3,1,[]⟩
abbrev zX:Ex:=.mk 0 0 C5 [] true []
abbrev W7(i:Int):Pl:=R9 1 i zX []
abbrev A1X:Pl:=R9 5 0 A4m [W7 0,W7 1]
abbrev A4x:Ex:=.mk 5 0 C5 [] true [G8 0 1,G8 2 2]
abbrev pA:Pl:=R9 3 0 A4x [A1X]
abbrev fl0:Pl:=R9 3 0 (G8 0 1) [W7 0]
abbrev fl1:Pl:=R9 3 0 (G8 0 2) [W7 1]
abbrev qA:Pl:=R9 5 0 A4m [fl0,fl1]
abbrev A9B:Pl:=R9 6 0 A4m [W7 0,W7 1]
abbrev K2:List Kw:=[⟨false,[1,1]⟩,⟨false,[1,1]⟩]
theorem B2k(i n:Int):(G8 i n).ds=[eI 7,eI 0,eI 0,eI 0,.str [],.str [],.sl [[eI 2,eI i,eI 0,eI 0,.str [],.str [],.nil],[eI 1,eI 0,eI 1,eI n,.str [],.str [],.nil]]]:=by
 rw[Ex.ds_mk];rfl
theorem D8C(i n:Int):(G8 i n).av=eX 7 0 C5 [] (.sl [[eI 2,eI i,eI 0,eI 0,.str [],.str [],.nil],[eI 1,eI 0,eI 1,eI n,.str [],.str [],.nil]]):=by
 rw[Ex.av_mk];rfl
theorem C4P(i:Int):(W7 i).ds=N9 1 i .nil .nil 0 0 C5 [] .nil .nil .nil .nil .nil:=by
 rw[B36];rfl
theorem D9n:A1X.ds=N9 5 0 .nil .nil 1 0 ⟨3,1,[]⟩ [] .nil .nil .nil .nil (.sl [(W7 0).ds,(W7 1).ds]):=by
 rw[B36];rfl
theorem E16:pA.av=F3 3 0 .nil .nil 5 0 C5 [] (.sl [(G8 0 1).ds,(G8 2 2).ds]) .nil .nil .nil (.sl [A1X.ds]):=by
 rw[A0w];rfl
theorem D9R:A9B.av=F3 6 0 .nil .nil 1 0 ⟨3,1,[]⟩ [] .nil .nil .nil .nil (.sl [(W7 0).ds,(W7 1).ds]):=by
 rw[A0w];rfl
theorem E1q:qA.av=F3 5 0 .nil .nil 1 0 ⟨3,1,[]⟩ [] .nil .nil .nil .nil (.sl [fl0.ds,fl1.ds]):=by
 rw[A0w];rfl
theorem A1q(k i n:Int):A9 k (G8 i n)=G8 (M3 (i+k)) n:=rfl
theorem A4G(i n:Int):(G8 i n).bk<=100:=by
 rw[Ex.bk,B2k];simp[J6,T6,D5]
theorem D7X(i n:Int):U8 (G8 i n)=[i]:=by
 have:K5 (G8 i n)=[i]:=rfl
 unfold U8
 rw[this]
 simp[srt,Lib.compact]
 rfl
theorem B27(m i n:Int):T7 m (G8 i n)=if i<m then 0 else 1:=by
 unfold T7
 rw[D7X]
 show(if i<m then 0 else if m<=i then 1 else 2)=_
 by_cases h:i<m
 ·rw[if_pos h,if_pos h]
 ·rw[if_neg h,if_neg h,if_pos (by omega)]
theorem w0:M3 (0+0)=0:=by decide
theorem w2:M3 (2+0)=2:=by decide
theorem wm:M3 (2+(0-((2:Nat):Int)))=0:=by decide
theorem E1l:(cj (A9 0 A4x)).map (A9 0)=[G8 0 1,G8 2 2]:=by
 have h1:A9 0 A4x=.mk 5 0 C5 [] true [G8 0 1,G8 2 2]:=by
  show Ex.mk 5 0 C5 [] true [A9 0 (G8 0 1),A9 0 (G8 2 2)]=_
  rw[A1q,A1q,w0,w2]
 have h2:cj (.mk 5 0 C5 [] true [G8 0 1,G8 2 2])=[G8 0 1,G8 2 2]:=rfl
 rw[h1,h2,G5,G5,V5,A1q,A1q,w0,w2]
theorem A6Q:C9 [G8 0 1,G8 2 2]=[G8 0 1,G8 2 2]:=by
 unfold C9
 rw[G5,G5,V5,A1q,A1q,w0,w2]
 have h2:cj (K3 false [G8 0 1,G8 2 2])=[G8 0 1,G8 2 2]:=rfl
 rw[h2,G5,G5,V5,A1q,A1q,w0,w2]
theorem E1M:C6 ((2:Nat):Int) 0 [G8 0 1,G8 2 2]=[G8 0 1]:=by
 unfold C6
 simp[B27]
theorem E1N:C6 ((2:Nat):Int) 1 [G8 0 1,G8 2 2]=[G8 2 2]:=by
 unfold C6
 simp[B27]
theorem E1O:C6 ((2:Nat):Int) 2 [G8 0 1,G8 2 2]=[]:=by
 unfold C6
 simp[B27]
theorem D8R(p:Pl)(n:Int):P5 p [G8 0 n]=R9 3 0 (G8 0 n) [p]:=by
 show R9 3 0 (K3 false [A9 0 (G8 0 n)]) [p]=_
 rw[A1q,w0];rfl
theorem C4m:pA.bk<=1000:=by decide
theorem B3i:qA.bk<=1000:=by decide
theorem D9m:A1X.bk<=1000:=by decide
theorem E1K:(W7 0).bk<=1000:=by decide
theorem E1L:(W7 1).bk<=1000:=by decide
theorem D9S:A9B.bk<=1000:=by decide
theorem E2Z:A4m.bk<=1000:=by decide
theorem E30:zX.bk<=1000:=by decide
theorem D71:A4x.bk<=1000:=by decide
theorem D72:(A9 0 A4x).bk<=1000:=by decide
theorem D6Y:(K3 false ([G8 0 1,G8 2 2].map (A9 0))).bk<=1000:=by decide
theorem kA:(B9 K2 pA).2=0/\(B9 K2 pA).1.ks=[1,1,1,1]:=by decide
theorem kQ:(B9 K2 qA).2=0/\(B9 K2 qA).1.ks=[1,1,1,1]:=by decide
theorem kS:(B9 K2 (W7 0)).1.ks=[1,1]:=by decide
theorem scA:D8 pA=[0,1]:=by decide
theorem scQ:D8 qA=[0,1]:=by decide
theorem szL:H8 [3,0] A9B=3:=by decide
theorem B2m(l:List Ex)(h:∀x∈l,∃i n,x=G8 i n):∀x∈l,x.bk<=1073741824:=λx hx=>by
 obtain⟨i,n,rfl⟩:=h x hx
 have:=A4G i n
 omega
theorem K2b:∀k∈K2,k.ks.length<=4294967296:=by
 intro k hk
 simp only[I2,V6,or_false] at hk
 rcases hk with rfl|rfl<;>decide
theorem E18(din:D)(hin:B0 din (E6 K2)):C0 Tryz.prog s8 [.ptr 0 0,V4 A1X (B9 K2 A1X).1.d,.d (M4 (xL ((cj (A9 0 A4x)).map (A9 0))))] (F4 din) (λr os=>r=qA.av/\os=F4 din):=by
 rw[E1l]
 have hb1:∀x∈[G8 0 1],x.bk<=1073741824:=B2m _ λx hx=>⟨0,1,O4.1 hx⟩
 have hb2:∀x∈[G8 0 2],x.bk<=1073741824:=B2m _ λx hx=>⟨0,2,O4.1 hx⟩
 have hb3:∀x∈[G8 0 1,G8 2 2],x.bk<=1073741824:=B2m _ λx hx=>by
  simp only[I2,V6,or_false] at hx
  rcases hx with rfl|rfl
  ·exact⟨0,1,rfl⟩
  ·exact⟨2,2,rfl⟩
 have hA:=B0J din (po0 1 0 zX) true [] ⟨by decide,by decide,by decide⟩ (B9 K2 (W7 0)).1.d [G8 0 1] hb1 (by decide) (M4 (xL [G8 0 1])) (by rw[A48];exact C7)
 have hB:=B0J din (po0 1 1 zX) true [] ⟨by decide,by decide,by decide⟩ (B9 K2 (W7 1)).1.d [G8 0 2] hb2 (by decide) (ng true (xL [G8 0 2])) C7
 rw[D8R] at hA hB
 have hsh:[G8 2 2].map (A9 (0-((2:Nat):Int)))=[G8 0 2]:=by
  rw[G5,V5,A1q,wm]
 have h:=C6G K2 (by decide) K2b din hin 0 A4m (W7 0) (W7 1) (J2 E1K (by decide)) (J2 E1L (by decide)) (B9 K2 A1X).1.d [G8 0 1,G8 2 2] hb3 (by decide) (M4 (xL [G8 0 1,G8 2 2])) (by rw[A48];exact C7)
  (J2 D6Y (by decide)) 2 (by rw[kS];rfl) (by decide) (by rw[A6Q];exact hb3) (by rw[A6Q];decide) fl0 fl1 (by rw[A6Q,E1M];exact hA) (by rw[A6Q,E1N,hsh];exact hB)
 rw[A6Q,E1O] at h
 exact h
theorem E1m(din:D)(i:Int):C0 Tryz.prog P9 [.ptr 0 0,(W7 i).av] (F4 din) (λr os=>r=(W7 i).av/\os=F4 din):=
 B4r din (λx=>x) 1 i zX [] (by decide) (J2 E30 (by decide)) (by decide) λx hx=>by cases hx
theorem E1k(din:D):C0 Tryz.prog P9 [.ptr 0 0,A1X.av] (F4 din) (λr os=>r=A1X.av/\os=F4 din):=
 B4r din (λx=>x) 5 0 A4m [W7 0,W7 1] (by decide) (J2 E2Z (by decide)) (by decide) λx hx=>by
  simp only[I2,V6,or_false] at hx
  rcases hx with rfl|rfl<;>exact E1m din _
theorem E1j(din:D)(hin:B0 din (E6 K2)):C0 Tryz.prog P9 [.ptr 0 0,pA.av] (F4 din) (λr os=>r=qA.av/\os=F4 din):=
 C6M K2 (by decide) K2b din hin 0 A4x A1X A1X qA (J2 D71 (by decide)) (J2 D72 (by decide)) (J2 D9m (by decide)) (E1k din) (E18 din hin)
theorem C69:Pure Tryz.prog A6t [pA.av,.d (.sl (E6 K2))] qA.av:=
 C6A K2 (by decide) K2b (.sl (E6 K2)) (.inr rfl) pA qA (J2 C4m (by decide)) (J2 B3i (by decide)) (E1j _ (.inr rfl)) kA.1 kQ.1 (kA.2.trans kQ.2.symm) (by rw[kA.2];decide)
theorem C66:Pure Tryz.prog A8O [qA.av,.d (eI 0)] (.d (.sl [(G8 0 1).ds])):=by
 have h0:=B0E 0 0 (G8 0 1) (W7 0) true (B0F 0 0 zX)
 have h1:=B4e 0 0 A4m fl0 fl1 true (.sl [(G8 0 1).ds]) .nil h0 (by intro h;cases h)
 have h2:=B41 qA (J2 B3i (by decide)) 0 0 1 scQ (.inl ⟨rfl,by decide⟩) (G8 0 1) (J2 (A4G 0 1) (by decide)) true false h1
 rw[A1q,w0] at h2
 exact h2
theorem C67:Pure Tryz.prog A8O [qA.av,.d (eI 1)] (.d (.sl [(G8 0 2).ds])):=by
 have h0:=B0E 0 1 (G8 0 1) (W7 0) false (B0F 0 1 zX)
 have h0':=B0E 0 1 (G8 0 2) (W7 1) true (B0F 1 1 zX)
 have h1:=B4e 0 1 A4m fl0 fl1 false .nil (.sl [(G8 0 2).ds]) h0 (λ_=>h0')
 have h2:=B41 qA (J2 B3i (by decide)) 1 0 1 scQ (.inr ⟨by decide,rfl⟩) (G8 0 2) (J2 (A4G 0 2) (by decide)) true false h1
 rw[A1q,w0] at h2
 exact h2
theorem B4f:Pure Tryz.prog B8U [] (.d (.bool true)):=by
 have hE1:=B0G 0 1
 have hE2:=B0G 2 2
 have hE3:=B0G 0 2
 have hP:=C69
 have hF0:=C66
 have hF1:=C67
 have hC0:=B4g (G8 0 1) (G8 0 1) (J2 (A4G 0 1) (by decide)) (J2 (A4G 0 1) (by decide)) (by decide)
 have hC1:=B4g (G8 0 2) (G8 0 2) (J2 (A4G 0 2) (by decide)) (J2 (A4G 0 2) (by decide)) (by decide)
 have hZ:=C6B [3,0] (by decide) (.sl (A5 [3,0])) (.inr rfl) A9B (J2 D9S (by decide))
 have hS:=B4m pA (J2 C4m (by decide))
 rw[szL] at hZ
 rw[scA,show ng true (A5 [0,1])=.sl [[eI 0],[eI 1]] from rfl] at hS
 rw[E1q] at hP hF0 hF1
 obtain⟨dq,hdq⟩:∃d,d=D.sl [fl0.ds,fl1.ds]:=⟨_,rfl⟩
 rw[<- hdq] at hP hF0 hF1
 rw[E16] at hP hS
 rw[D9R] at hZ
 rw[D9n] at hP hS
 rw[C4P,C4P] at hP hS hZ
 rw[D8C] at hE1 hE2 hE3 hC0 hC1
 rw[B2k,B2k] at hP hS
 obtain⟨d0,hd0⟩:∃d,d=D.sl [(G8 0 1).ds]:=⟨_,rfl⟩
 obtain⟨d1,hd1⟩:∃d,d=D.sl [(G8 0 2).ds]:=⟨_,rfl⟩
 rw[<- hd0] at hF0 hC0
 rw[<- hd1] at hF1 hC1
 have hP:Bi.Pure Tryz.prog A6t [_,.d (.sl [[.sl [[eI 1],[eI 1]]],[.sl [[eI 1],[eI 1]]]])] _:=hP
 have hZ:Bi.Pure Tryz.prog A6v [_,.d (.sl [[eI 3],[eI 0]])] _:=hZ
 clear hdq hd0 hd1
 refine C88.go A6 rfl ?_
 repeat' first|(with_reducible apply D9D)|refine st ?_|((with_reducible apply A4);conv=>whnf)|refine⟨λ_=>?_,λ_=>?_⟩|fail
 all_goals rfl
theorem S9{K:List Kw}{p:Pl}(h:(B9 K p).2=0):H2 p<=24/\(C4 K p).2=0/\B9 K p=C4 K p:=by
 unfold B9 at h ⊢
 by_cases hd:24<H2 p
 ·rw[if_pos hd] at h;cases h
 ·rw[if_neg hd] at h ⊢;exact⟨by omega,h,rfl⟩
theorem A3a{K:List Kw}{p:Pl}(hd:H2 p<=24):B9 K p=C4 K p:=if_neg (by omega)
theorem B0H{I:List Bg}(hI:I.length<=1073741824)(hb:∀b∈I,b.ki.length<=1073741824/\b.rows.length<=1073741824/\∀r∈b.rows,r.vs.length<=1073741824/\∀v∈r.vs,v.s.length<=1073741824)(hG:InG I)(din:D)(hin:B0 din (V9 I))(p q:Pl)(hp:p.bk<=1073741824)(h0:(B9 (B7 I) p).2=0)(hl:K7 (F6 I) p<=2000)(hqb:q.bk<=1073741824)(hq0:(B9 (B7 I) q).2=0)(h:PlE I p q) :
  Pure Tryz.prog B1f [p.av,q.av,.d din] (.d (.bool true)):=by
 obtain⟨p1,p2,p3⟩:=S9 h0
 have q3:B9 (B7 I) q=C4 (B7 I) q:=(S9 hq0).2.2
 have hlq:K7 (F6 I) q<=2000:=s7 h.lg hl
 have hg:=A5y hG p hp p2 hl
 have hsz:H8 (F6 I) p<=2000:=by
  obtain⟨o,ni,ins⟩:=p
  exact(u4 hl).1
 have hKb:∀k∈B7 I,k.ks.length<=4294967296:=λk hk=>by
  obtain⟨b,hb1,rfl⟩:=D9.1 hk
  have:=(hb b hb1).1
  show b.ki.length<=4294967296
  omega
 have hKl:(B7 I).length<=4294967296:=by rw[D3];omega
 have hKs:=A8d I (by omega) din hin
 have hC1:=A6e (B7 I) hKl hKb (.sl (E6 (B7 I))) (.inr rfl) p hp
 have hC2:=A6e (B7 I) hKl hKb (.sl (E6 (B7 I))) (.inr rfl) q hqb
 have hks:(B9 (B7 I) q).1.ks=(B9 (B7 I) p).1.ks:=by rw[q3,p3];exact h.ks
 have hn1:=m9 (B7 I) p
 have hIn:=B0L (B9 (B7 I) p).1.ks (by rw[p3];omega) (B9 (B7 I) p).1.d (B9 (B7 I) q).1.d C7 (by rw[<- hks];exact C7)
 have hS1:=B4J p hp
 have hS2:=B4J q hqb
 rw[h.sc] at hS2
 have hSc:=B0L (D8 p) (J2 (B3s p) hp) (.sl (A5 (D8 p))) (.sl (A5 (D8 p))) (.inr rfl) (.inr rfl)
 have hR1:=B4E (by omega) (λb h=>by have:=(hb b h).1;omega) hG din hin p hp h0 hl
 have hR2:=B4E (by omega) (λb h=>by have:=(hb b h).1;omega) hG din hin q hqb hq0 hlq
 have hSa:=C6Q (F7 I p).rows (by have:=hg.len;omega) (λr hr=>by have:=(hg.row r hr).1;have:=m9 (B7 I) p;omega) (F7 I p).rd (F7 I q).rd C7 (by rw[<- h.rows];exact C7)
 rw[h0] at hC1
 rw[hq0] at hC2
 have hR1:Bi.Pure Tryz.prog A6s [p.av,.d din] (.tup [.agg [.d (F7 I p).kd,.d (F7 I p).rd],.d (eI 0)]):=hR1
 have hR2:Bi.Pure Tryz.prog A6s [q.av,.d din] (.tup [.agg [.d (F7 I q).kd,.d (F7 I q).rd],.d (eI 0)]):=hR2
 obtain⟨z1,e⟩:∃d,d=(B9 (B7 I) p).1.d:=⟨_,rfl⟩
 rw[<- e] at hC1 hIn;clear e
 obtain⟨z2,e⟩:∃d,d=(B9 (B7 I) q).1.d:=⟨_,rfl⟩
 rw[<- e] at hC2 hIn;clear e
 obtain⟨z3,e⟩:∃d,d=(F7 I p).kd:=⟨_,rfl⟩
 rw[<- e] at hR1;clear e
 obtain⟨z4,e⟩:∃d,d=(F7 I p).rd:=⟨_,rfl⟩
 rw[<- e] at hR1 hSa;clear e
 obtain⟨z5,e⟩:∃d,d=(F7 I q).kd:=⟨_,rfl⟩
 rw[<- e] at hR2;clear e
 obtain⟨z6,e⟩:∃d,d=(F7 I q).rd:=⟨_,rfl⟩
 rw[<- e] at hR2 hSa;clear e
 obtain⟨z7,e⟩:∃d,d=A5 (D8 p):=⟨_,rfl⟩
 rw[<- e] at hS1 hS2 hSc;clear e
 obtain⟨z8,e⟩:∃d,d=E6 (B7 I):=⟨_,rfl⟩
 rw[<- e] at hKs hC1 hC2;clear e
 clear hks hn1 hKb hKl hsz hg hlq hq0 q3 hqb p1 p2 p3 h hl h0 hG hb
 obtain⟨op,n,dk,dr,xo,xn,xv,xm,xd,dx,dy,da,di,c1,c2⟩:=Pl.cut p
 obtain⟨op',n',dk',dr',xo',xn',xv',xm',xd',dx',dy',da',di',c3,c4⟩:=Pl.cut q
 rw[c2] at hC1 hS1 hR1 ⊢
 rw[c4] at hC2 hS2 hR2 ⊢
 clear c1 c2 c3 c4
 have r1:xv.s=xv.s:=rfl
 have r2:xm=xm:=rfl
 have r3:xv'.s=xv'.s:=rfl
 have r4:xm'=xm':=rfl
 refine C8b.go A6 rfl ?_
 repeat' first|refine st ?_|((with_reducible apply A4);conv=>whnf)|refine⟨λ_=>?_,λ_=>?_⟩|fail
 all_goals rfl
theorem e8.refl(o:Po):e8 o o:=⟨rfl,rfl,rfl,rfl,rfl,rfl,rfl,λ_ _ _ h=>⟨h,λ_=>rfl⟩,λ_ _ _=>⟨rfl,λ_=>rfl⟩⟩
def B3C(K:List Kw):Pl->Ex->Prop
 |.mk o _ [a,_],c=>(o.op=5->T7 (H5 K a) c=2)/\(o.op=6->T7 (H5 K a) c≠0)
 |_,_=>True
inductive NF(K:List Kw):Pl->Prop
 |leaf {o:Po} {ni:Bool} {ins:List Pl} (h:o.op≠3/\o.op≠5/\o.op≠6) (hs:∀a∈ins,NF K a):NF K (.mk o ni ins)
 |join {o:Po} {ni:Bool} {a b:Pl} (h:o.op=5\/o.op=6) (ha:NF K a) (hb:NF K b):NF K (.mk o ni [a,b])
 |filt {o:Po} {ni:Bool} {y:Pl} {l:List Ex} (h:o.op=3) (hy:NF K y) (h3:y.op≠3) (hp:o.pred=K3 false l) (hl:l≠[]) (hc:∀c∈l,P7 c) (hr:(B9 K y).2=0->∀c∈l,B3C K y c):NF K (.mk o ni [y])
theorem D85{nl nl':Bool}:∀{l m:List Ex},l≠[]->(∀c∈l,c∈m)->(l.length=1\/2<=m.length)->I6 (K3 nl l)<=I6 (K3 nl' m)
 |[],_,h,_,_=>absurd rfl h
 |[x],m,_,h,_=>by
  have hx:=h x (by simp)
  show I6 x<=_
  match m,hx with
  |[y],hx=>rw[O4] at hx;subst hx;exact D4 _
  |y::z::m,hx=>
   rw[A3K (by simp),X6]
   have:=A4O.1 (D4 (mx ((y::z::m).map I6))) _ (D9.2 ⟨x,hx,rfl⟩)
   omega
 |x::y::l,m,_,h,h2=>by
  have h2:2<=m.length:=by simp at h2;omega
  rw[A3K (by simp),A3K h2,X6,X6]
  have:mx ((x::y::l).map I6)<=mx (m.map I6):=A4O.2 λd hd=>by
   obtain⟨c,hc,rfl⟩:=D9.1 hd
   exact A4O.1 (D4 _) _ (D9.2 ⟨c,h c hc,rfl⟩)
  omega
theorem A6X(o:Po)(ni:Bool)(x:Pl):H2 (.mk o ni [x])=H2 x+1:=by simp[H2,S3]
theorem A6Y(o:Po)(ni:Bool)(a b:Pl):H2 (.mk o ni [a,b])=max (H2 a) (H2 b)+1:=by simp[H2,S3]
theorem A9r{p:Pl}{l:List Ex}(h:∀c∈l,P7 c)(hn:l≠[]):P5 p l=R9 3 0 (K3 false l) [p]:=by
 unfold P5
 rw[if_neg (by rw[A0H];exact hn),A4N h]
theorem B2s{K:List Kw}{o:Po}{ni:Bool}{y:Pl}(h:o.op=3)(ha:(B9 K (.mk o ni [y])).2=0):(B9 K y).2=0/\N4 (C4 K y).1.ks o.pred=0/\(C4 K (.mk o ni [y])).1.ks=(C4 K y).1.ks/\H2 y+1<=24:=by
 obtain⟨a1,a2,_⟩:=S9 ha
 obtain⟨k1,k2,k3,k4,k5,k6⟩:=n5 a2
 rw[A6X] at a1
 have hr:I1 K o [(C4 K y).1]=((C4 K y).1,N4 (C4 K y).1.ks o.pred):=by
  unfold I1
  rw[if_neg (by omega),if_neg (by omega),if_neg (by omega),if_neg (by omega),if_neg (by omega),if_pos h];rfl
 rw[show[y].map (λp=>(C4 K p).1)=[(C4 K y).1] from rfl,hr] at k4 k5
 refine⟨?_,k4,by rw[k5],a1⟩
 rw[A3a (by omega)];exact k3 y (by simp)
theorem D9Q{K:List Kw}{y:Pl}(h:(C4 K y).2=0):0<(C4 K y).1.ks.length:=by
 obtain⟨o,ni,ins⟩:=y
 exact(n5 h).2.2.2.2.2
theorem D8Q{K:List Kw}{o:Po}{ni:Bool}{y:Pl}(h:o.op=3)(hy:(B9 K y).2=0)(hp:N4 (C4 K y).1.ks o.pred=0)(hd:H2 y+1<=24):(B9 K (.mk o ni [y])).2=0/\(C4 K (.mk o ni [y])).1.ks=(C4 K y).1.ks:=by
 have h1:=(S9 hy).2.1
 have hr:I1 K o [(C4 K y).1]=((C4 K y).1,N4 (C4 K y).1.ks o.pred):=by
  unfold I1
  rw[if_neg (by omega),if_neg (by omega),if_neg (by omega),if_neg (by omega),if_neg (by omega),if_pos h];rfl
 have e:[y].map (λp=>(C4 K p).1)=[(C4 K y).1]:=rfl
 have hi:J8 o.op=1:=by rw[h];rfl
 have:=B2V (K:=K) (o:=o) (ni:=ni) (ins:=[y]) (by omega) (by rw[hi];rfl) (λp hp=>by rw[O4.1 hp];exact h1) (by rw[e,hr];exact hp) (by rw[e,hr];exact D9Q h1) (by rw[e,hr];exact m9 K y)
 rw[e,hr] at this
 rw[A3a (by rw[A6X];exact hd),this]
 exact⟨rfl,rfl⟩
theorem A5F{K:List Kw}{p:Pl}{l:List Ex}(h:∀c∈l,P7 c)(ha:(B9 K (P5 p l)).2=0) :
  (B9 K p).2=0/\(C4 K (P5 p l)).1.ks=(C4 K p).1.ks/\H2 p<=H2 (P5 p l)/\(l≠[]->H2 (P5 p l)=H2 p+1/\(∀c∈l,V0 (C4 K p).1.ks c)/\I6 (K3 false l)<=24):=by
 by_cases hn:l=[]
 ·subst hn
  exact⟨ha,rfl,D4 _,λh=>absurd rfl h⟩
 ·rw[A9r h hn] at ha ⊢
  obtain⟨f1,f2,f3,_⟩:=B2s (o:=po0 3 0 (K3 false l)) (ni:=true) rfl ha
  have hd:=A6X (po0 3 0 (K3 false l)) true p
  have hd:H2 (R9 3 0 (K3 false l) [p])=H2 p+1:=hd
  obtain⟨b1,b2⟩:=A9P.1 f2
  exact⟨f1,f3,by omega,λ_=>⟨hd,A9L.1 b1,b2⟩⟩
theorem B2x{K:List Kw}{x:Pl}{r L:List Ex}(h:∀c∈r,P7 c)(ha:(B9 K (P5 x r)).2=0)(hL:L≠[])(hs:∀c∈L,c∈r)(hn:L.length<=r.length):H2 (P5 x r)=H2 x+1/\(∀c∈L,V0 (C4 K x).1.ks c)/\I6 (K3 false L)<=24:=by
 have hp:=List.length_pos_iff.2 hL
 obtain⟨_,_,_,b⟩:=A5F h ha
 obtain⟨e1,e2,e3⟩:=b (List.length_pos_iff.1 (by omega))
 refine⟨e1,λc hc=>e2 c (hs c hc),J2 (D85 hL hs ?_) e3⟩
 omega
theorem T2{n:Int}{k:Nat}{l:List Ex}(h:∀c∈l,P7 c):∀c∈C6 n k (C9 l),P7 c:=λc hc=>D7C h c (A2G.1 hc).1
theorem A7T{k:Int}{l:List Ex}(h:∀c∈l,P7 c):∀c∈l.map (A9 k),P7 c:=λc hc=>by
 obtain⟨x,hx,rfl⟩:=D9.1 hc
 exact C26 k (h x hx).flat
theorem A99(n:Int)(x:Ex):T7 n x=0\/T7 n x=1\/T7 n x=2:=by
 rcases A6U n x with ⟨h,_⟩|⟨_,_,_,_,⟨h,_⟩|⟨h,_⟩|⟨h,_⟩⟩<;>simp[h]
theorem B3t(n:Int):∀l:List Ex,(l.filter λc=>decide (T7 n c≠0)).length=(C6 n 1 l++C6 n 2 l).length
 |[]=>rfl
 |x::l=>by
  have ih:=B3t n l
  rw[H3] at ih ⊢
  unfold C6 at ih ⊢
  rw[j9,j9,j9]
  rcases A99 n x with h|h|h<;>simp[h] at ih ⊢<;>omega
theorem C3w{K:List Kw}{o:Po}{ni ni':Bool}{a b a' b':Pl}(h:(B9 K (.mk o ni' [a',b'])).2=0)(ha:(B9 K a).2=0/\(C4 K a').1.ks=(C4 K a).1.ks)(hb:(B9 K b).2=0/\(C4 K b').1.ks=(C4 K b).1.ks)(hd:H2 (.mk o ni [a,b])<=24) :
  (B9 K (.mk o ni [a,b])).2=0/\(C4 K (.mk o ni' [a',b'])).1.ks=(C4 K (.mk o ni [a,b])).1.ks:=by
 obtain⟨d1,d2,_⟩:=S9 h
 obtain⟨k1,k2,k3,k4,k5,k6⟩:=n5 d2
 have hl:=m9 K (.mk o ni' [a',b'])
 rw[k5] at k6 hl ⊢
 have hr:=C4C (K:=K) (e8.refl o) (k:=[(C4 K a').1,(C4 K b').1]) (k':=[(C4 K a).1,(C4 K b).1]) (λi=>by
  match i with
  |0=>exact ha.2.symm
  |1=>exact hb.2.symm
  |_+2=>rfl) (λi=>by
  match i with
  |0=>exact m9 K a'
  |1=>exact m9 K b'
  |_+2=>exact K1 _) k4
 have k6':0<(I1 K o [(C4 K a').1,(C4 K b').1]).1.ks.length:=k6
 have hl':(I1 K o [(C4 K a').1,(C4 K b').1]).1.ks.length<=48:=hl
 have hn:C4 K (.mk o ni [a,b])=((I1 K o [(C4 K a).1,(C4 K b).1]).1,0):=B2V (K:=K) k1 k2 (λp hp=>by
  simp only[I2,V6,or_false] at hp
  rcases hp with rfl|rfl
  ·exact(S9 ha.1).2.1
  ·exact(S9 hb.1).2.1) hr.1 (by
  show 0<(I1 K o [(C4 K a).1,(C4 K b).1]).1.ks.length
  rw[hr.2];exact k6') (by
  show(I1 K o [(C4 K a).1,(C4 K b).1]).1.ks.length<=48
  rw[hr.2];exact hl')
 rw[A3a hd,hn]
 exact⟨rfl,hr.2.symm⟩
theorem A4K{K:List Kw}{o:Po}{ni:Bool}{a b:Pl}(h:(B9 K (.mk o ni [a,b])).2=0):(B9 K a).2=0/\(B9 K b).2=0:=by
 obtain⟨d1,d2,_⟩:=S9 h
 obtain⟨k1,k2,k3,k4,k5,k6⟩:=n5 d2
 rw[A6Y] at d1
 exact⟨by rw[A3a (by omega)];exact k3 a (by simp),by rw[A3a (by omega)];exact k3 b (by simp)⟩
theorem C5z{K:List Kw}{a a':Pl}(h:(B9 K a).2=0)(h':(B9 K a').2=0)(hk:(C4 K a').1.ks=(C4 K a).1.ks):H5 K a'=H5 K a:=by
 unfold H5
 rw[(S9 h).2.2,(S9 h').2.2,hk]
theorem A7A{K:List Kw}:∀{x:Pl},NF K x->∀l:List Ex,(∀c∈l,P7 c)->(B9 K (K4 K x l)).2=0->
  ((B9 K x).2=0/\(C4 K (K4 K x l)).1.ks=(C4 K x).1.ks/\H2 x<=H2 (K4 K x l))/\(x.op≠3->∀L,L≠[]->L.Sublist l->(∀c∈L,B3C K x c)->H2 x+1<=H2 (K4 K x l)/\(∀c∈L,V0 (C4 K x).1.ks c)/\I6 (K3 false L)<=24):=by
 intro x hx
 induction hx with
 |leaf h hs ih=>
  intro l hl ha
  rw[A9O K l h] at ha ⊢
  obtain⟨b1,b2,b3,_⟩:=A5F hl ha
  refine⟨⟨b1,b2,b3⟩,λ_ L hL hs _=>?_⟩
  obtain⟨c1,c2,c3⟩:=B2x hl ha hL (λc hc=>hs.subset hc) hs.length_le
  exact⟨by omega,c2,c3⟩
 |@join o ni a b h ha hb iha ihb=>
  intro l hl hacc
  rcases h with h|h
  ·rw[A7C K l h] at hacc ⊢
   obtain⟨b1,b2,b3,_⟩:=A5F (T2 hl) hacc
   obtain⟨c1,c2⟩:=A4K b1
   obtain⟨p1,p2,p3⟩:=(iha _ (T2 hl) c1).1
   obtain⟨q1,q2,q3⟩:=(ihb _ (A7T (T2 hl)) c2).1
   have hd:=(S9 b1).1
   have hd0:H2 (.mk o ni [a,b])<=H2 (.mk o true [K4 K a (C6 (H5 K a) 0 (C9 l)),K4 K b ((C6 (H5 K a) 1 (C9 l)).map (A9 (-(H5 K a))))]):=by rw[A6Y,A6Y];omega
   have j:=C3w (ni:=ni) b1 ⟨p1,p2⟩ ⟨q1,q2⟩ (by omega)
   refine⟨⟨j.1,b2.trans j.2,J2 hd0 b3⟩,λ_ L hL hs hst=>?_⟩
   have hne:l≠[]:=λe=>by subst e;exact hL (List.sublist_nil.1 hs)
   have hcl:=A5o hl hne
   have hfl:L.filter (λc=>decide (T7 (H5 K a) c=2))=L:=A54.2 λc hc=>decide_eq_true ((hst c hc).1 h)
   have hsub:L.Sublist (C6 (H5 K a) 2 (C9 l)):=by
    rw[hcl,<- hfl];exact hs.filter _
   obtain⟨c1,c2,c3⟩:=B2x (T2 hl) hacc hL (λc hc=>hsub.subset hc) hsub.length_le
   rw[j.2] at c2
   exact⟨by omega,c2,c3⟩
  ·rw[A7D K l h] at hacc ⊢
   have hm:∀c∈C6 (H5 K a) 1 (C9 l)++C6 (H5 K a) 2 (C9 l),P7 c:=λc hc=>by
    rcases L9.1 hc with hc|hc
    ·exact T2 hl c hc
    ·exact T2 hl c hc
   obtain⟨b1,b2,b3,_⟩:=A5F hm hacc
   obtain⟨c1,c2⟩:=A4K b1
   obtain⟨p1,p2,p3⟩:=(iha _ (T2 hl) c1).1
   obtain⟨q1,q2,q3⟩:=(ihb _ (by simp) c2).1
   have hd:=(S9 b1).1
   have hd0:H2 (.mk o ni [a,b])<=H2 (.mk o true [K4 K a (C6 (H5 K a) 0 (C9 l)),K4 K b []]):=by rw[A6Y,A6Y];omega
   have j:=C3w (ni:=ni) b1 ⟨p1,p2⟩ ⟨q1,q2⟩ (by omega)
   refine⟨⟨j.1,b2.trans j.2,J2 hd0 b3⟩,λ_ L hL hs hst=>?_⟩
   have hne:l≠[]:=λe=>by subst e;exact hL (List.sublist_nil.1 hs)
   have hcl:=A5o hl hne
   have hfl:L.filter (λc=>decide (T7 (H5 K a) c≠0))=L:=A54.2 λc hc=>decide_eq_true ((hst c hc).2 h)
   have hsub:L.Sublist (l.filter λc=>decide (T7 (H5 K a) c≠0)):=by
    rw[<- hfl];exact hs.filter _
   have hlen:=hsub.length_le
   rw[B3t,<- hcl] at hlen
   obtain⟨c1,c2,c3⟩:=B2x hm hacc hL (λc hc=>by
    have hcm:c∈C9 l:=by rw[hcl];exact hs.subset hc
    have:=(hst c hc).2 h
    rw[L9]
    rcases A99 (H5 K a) c with e|e|e
    ·exact absurd e this
    ·exact .inl (A2G.2 ⟨hcm,e⟩)
    ·exact .inr (A2G.2 ⟨hcm,e⟩)) hlen
   rw[j.2] at c2
   exact⟨by omega,c2,c3⟩
 |@filt o ni y lp h hy h3 hp hlp hc hr ih=>
  intro l hl hacc
  rw[A7B K l h] at hacc ⊢
  have hcj:(cj o.pred).map (A9 0)=lp:=by rw[hp,A6O (λc hm=>(hc c hm).flat) hlp,A4N hc]
  rw[hcj] at hacc ⊢
  have hL:∀c∈lp++l,P7 c:=λc hm=>by
   rcases L9.1 hm with hm|hm
   ·exact hc c hm
   ·exact hl c hm
  obtain⟨⟨i1,i2,i3⟩,i4⟩:=ih (lp++l) hL hacc
  obtain⟨j1,j2,j3⟩:=i4 h3 lp hlp (List.sublist_append_left ..) (hr i1)
  have hd:=(S9 hacc).1
  obtain⟨f1,f2⟩:=D8Q (ni:=ni) h i1 (by rw[hp];exact A9P.2 ⟨A9L.2 j2,j3⟩) (by omega)
  exact⟨⟨f1,by rw[f2];exact i2,by rw[A6X];exact j1⟩,λe=>absurd h e⟩
theorem B2v{K:List Kw}{x:Pl}{l:List Ex}(hx:NF K x)(h3:x.op≠3)(hl:∀c∈l,P7 c)(hr:(B9 K x).2=0->∀c∈l,B3C K x c):NF K (P5 x l):=by
 by_cases hn:l=[]
 ·subst hn;exact hx
 ·rw[A9r hl hn]
  exact NF.filt rfl hx h3 rfl hn hl hr
theorem E1c{K:List Kw}:∀{x:Pl},NF K x->∀l:List Ex,(∀c∈l,P7 c)->NF K (K4 K x l):=by
 intro x hx
 induction hx with
 |@leaf o ni ins h hs ih=>
  intro l hl
  rw[A9O K l h]
  refine B2v (.leaf h hs) h.1 hl λ_ c _=>?_
  match ins with
  |[]=>trivial
  |[_]=>trivial
  |[_,_]=>exact⟨λe=>absurd e h.2.1,λe=>absurd e h.2.2⟩
  |_::_::_::_=>trivial
 |@join o ni a b h ha hb iha ihb=>
  intro l hl
  rcases h with h|h
  ·rw[A7C K l h]
   refine B2v (.join (.inl h) (iha _ (T2 hl)) (ihb _ (A7T (T2 hl)))) (by show o.op≠3;omega) (T2 hl) λhj c hc=>?_
   obtain⟨c1,c2⟩:=A4K hj
   obtain⟨p1,p2,p3⟩:=(A7A ha _ (T2 hl) c1).1
   refine⟨λ_=>?_,λe=>by omega⟩
   rw[C5z p1 c1 p2]
   exact(A2G.1 hc).2
  ·rw[A7D K l h]
   have hm:∀c∈C6 (H5 K a) 1 (C9 l)++C6 (H5 K a) 2 (C9 l),P7 c/\T7 (H5 K a) c≠0:=λc hc=>by
    rcases L9.1 hc with hc|hc
    ·exact⟨T2 hl c hc,by rw[(A2G.1 hc).2];decide⟩
    ·exact⟨T2 hl c hc,by rw[(A2G.1 hc).2];decide⟩
   refine B2v (.join (.inr h) (iha _ (T2 hl)) (ihb _ (by simp))) (by show o.op≠3;omega) (λc hc=>(hm c hc).1) λhj c hc=>?_
   obtain⟨c1,c2⟩:=A4K hj
   obtain⟨p1,p2,p3⟩:=(A7A ha _ (T2 hl) c1).1
   refine⟨λe=>by omega,λ_=>?_⟩
   rw[C5z p1 c1 p2]
   exact(hm c hc).2
 |@filt o ni y lp h hy h3 hp hlp hc hr ih=>
  intro l hl
  rw[A7B K l h]
  have hcj:(cj o.pred).map (A9 0)=lp:=by rw[hp,A6O (λc hm=>(hc c hm).flat) hlp,A4N hc]
  rw[hcj]
  exact ih (lp++l) λc hm=>by
   rcases L9.1 hm with hm|hm
   ·exact hc c hm
   ·exact hl c hm
theorem A5L{α:Type}{l:List α}(h:l.length=1):∃p,l=[p]:=by
 match l,h with
 |[p],_=>exact⟨p,rfl⟩
theorem C4s{K:List Kw}:∀p:Pl,(C4 K p).2=0->NF K (O7 K p):=by
 refine Pl.ind λo ni ins ih h0=>?_
 obtain⟨k1,k2,k3,k4,k5,k6⟩:=n5 h0
 have ih':∀x∈ins,NF K (O7 K x):=λx hx=>ih x hx (k3 x hx)
 by_cases h3:o.op=3
 ·rw[h3] at k2
  obtain⟨x,rfl⟩:=A5L (show ins.length=1 by have:J8 3=1:=rfl;omega)
  rw[A9S K h3]
  exact E1c (ih' x (by simp)) _ (A4C _)
 ·rw[A9T K h3]
  by_cases h5:o.op=5\/o.op=6
  ·have hi:J8 o.op=2:=by rcases h5 with e|e<;>rw[e]<;>rfl
   obtain⟨a,b,rfl⟩:=x9 (show ins.length=2 by omega)
   exact .join h5 (ih' a (by simp)) (ih' b (by simp))
  ·refine .leaf ⟨h3,λe=>h5 (.inl e),λe=>h5 (.inr e)⟩ λy hy=>?_
   obtain⟨x,hx,rfl⟩:=D9.1 hy
   exact ih' x hx
theorem C2E(I:List Bg)(p:Pl):(F7 I p).rows=H9 (A8 (F7 I p).rows)/\Y8 (A8 (F7 I p).rows):=by
 obtain⟨L,h1,h2,_⟩:=C2F I p
 rw[h1,A2M]
 exact⟨rfl,h2⟩
abbrev Y9(l:List Ex)(r:B4):Bool:=l.all λc=>K6 c r
theorem A8W{f g:Ex->Bool}:∀{l:List Ex},(∀c∈l,f c=g c)->l.all f=l.all g
 |[],_=>rfl
 |x::l,h=>by
  rw[A1B,A1B,h x (by simp),A8W λc hc=>h c (by simp[hc])]
theorem B1X(n:Int)(r:B4):∀l:List Ex,Y9 l r=(Y9 (C6 n 0 l) r&&(Y9 (C6 n 1 l) r&&Y9 (C6 n 2 l) r))
 |[]=>rfl
 |x::l=>by
  have ih:=B1X n r l
  unfold Y9 C6 at ih ⊢
  rw[A1B,ih,j9,j9,j9]
  rcases A99 n x with h|h|h
  ·simp[h,Bool.and_assoc]
  ·simp[h]
   cases K6 x r<;>simp
  ·simp[h]
   cases K6 x r<;>simp
structure l7(I:List Bg)(x y:Pl)(l:List Ex):Prop where
 ki:(F7 I y).ki=(F7 I x).ki
 rows:(F7 I y).rows=H9 ((A8 (F7 I x).rows).filter (Y9 l))
 sz:H8 (F6 I) y=H8 (F6 I) x
 lg:K7 (F6 I) y<=K7 (F6 I) x
 sc:D8 y=D8 x
theorem D9U(rs:List Int)(x:Pl):H8 rs x<=K7 rs x:=by
 obtain⟨o,ni,ins⟩:=x
 exact(u4 (A0i _)).1
theorem l7.f3{I:List Bg}{o:Po}{ni:Bool}{x:Pl}{l:List Ex}(h:o.op=3)(hp:K6 o.pred=Y9 l):l7 I x (.mk o ni [x]) l:=by
 have e:Z1 I o [F7 I x]=⟨(F7 I x).nk,(F7 I x).ki,false,H9 (D2 ((A8 (F7 I x).rows).filter (K6 o.pred)))⟩:=by
  unfold Z1
  rw[if_neg (by omega),if_neg (by omega),if_pos h];rfl
 have hs:H8 (F6 I) (.mk o ni [x])=H8 (F6 I) x:=by
  show V2 (F6 I) o (H8 (F6 I) x) 0=_
  unfold V2
  rw[if_neg (by omega),if_neg (by omega),if_pos (.inl h)]
 have e2:F7 I (.mk o ni [x])=Z1 I o [F7 I x]:=A2t I o ni [x]
 refine⟨by rw[e2,e],?_,hs,?_,?_⟩
 ·rw[e2,e,hp,A7z _ _ (D4 _) (C51 _ (C2E I x).2)]
 ·refine B2L (by rw[hs];exact D9U _ x) λp hp=>?_
  rw[O4.1 hp];exact A0i _
 ·rw[A23,if_neg (by omega)];simp
theorem l7.fl{I:List Bg}{x:Pl}{l:List Ex}(hl:∀c∈l,P7 c):l7 I x (P5 x l) l:=by
 by_cases hn:l=[]
 ·subst hn
  have e:P5 x []=x:=rfl
  rw[e]
  refine⟨rfl,?_,rfl,A0i _,rfl⟩
  rw[show(A8 (F7 I x).rows).filter (Y9 [])=A8 (F7 I x).rows from A54.2 λ_ _=>rfl]
  exact(C2E I x).1
 ·rw[A9r hl hn]
  exact l7.f3 rfl (funext λr=>C5i r false l)
theorem C2I(I:List Bg){o:Po}(ni:Bool)(a b:Pl)(lf:Bool)(h:o.op=if lf then 6 else 5):F7 I (.mk o ni [a,b])=⟨true,(F7 I a).ki++(F7 I b).ki,false,H9 (D2 (M8 o.pred lf (F7 I b).ki.length (A8 (F7 I b).rows) (A8 (F7 I a).rows)))⟩:=by
 rw[A2t]
 unfold Z1
 cases lf with
 |false=>
  have h:o.op=5:=h
  rw[if_neg (by omega),if_neg (by omega),if_neg (by omega),if_neg (by omega),if_neg (by omega),if_neg (by omega),if_pos h];rfl
 |true=>
  have h:o.op=6:=h
  rw[if_neg (by omega),if_neg (by omega),if_neg (by omega),if_neg (by omega),if_neg (by omega),if_neg (by omega),if_neg (by omega),if_pos h];rfl
theorem l7.j{I:List Bg}{o:Po}{ni:Bool}{a b a' b':Pl}{l la lb lr:List Ex}(lf:Bool)(h:o.op=if lf then 6 else 5)(hr:∀c∈lr,P7 c)(A:l7 I a a' la)(B:l7 I b b' lb)
  (hJ:∀nb,nb=(F7 I b).ki.length->(M8 o.pred lf nb ((A8 (F7 I b).rows).filter (Y9 lb)) ((A8 (F7 I a).rows).filter (Y9 la))).filter (Y9 lr)=(M8 o.pred lf nb (A8 (F7 I b).rows) (A8 (F7 I a).rows)).filter (Y9 l)) :
  l7 I (.mk o ni [a,b]) (P5 (.mk o true [a',b']) lr) l:=by
 have F:=l7.fl (I:=I) (x:=.mk o true [a',b']) hr
 have e1:=C2I I ni a b lf h
 have e2:=C2I I true a' b' lf h
 have hsz:H8 (F6 I) (.mk o true [a',b'])=H8 (F6 I) (.mk o ni [a,b]):=by
  show V2 (F6 I) o (H8 (F6 I) a') (H8 (F6 I) b')=V2 (F6 I) o (H8 (F6 I) a) (H8 (F6 I) b)
  rw[A.sz,B.sz]
 refine⟨?_,?_,by rw[F.sz,hsz],?_,?_⟩
 ·rw[F.ki,e1,e2]
  show(F7 I a').ki++(F7 I b').ki=(F7 I a).ki++(F7 I b).ki
  rw[A.ki,B.ki]
 ·rw[F.rows,e1,e2]
  show H9 ((A8 (H9 (D2 _))).filter (Y9 lr))=H9 ((A8 (H9 (D2 _))).filter (Y9 l))
  rw[A2M,A2M,C4l,C4l,A.rows,B.rows,A2M,A2M,B.ki,hJ _ rfl]
 ·obtain⟨m1,m2⟩:=u4 (A0i (K7 (F6 I) (.mk o ni [a,b])))
  refine s7 F.lg (B2L (by rw[hsz];exact m1) λp hp=>?_)
  simp only[I2,V6,or_false] at hp
  rcases hp with rfl|rfl
  ·exact s7 A.lg (m2 a (by simp))
  ·exact s7 B.lg (m2 b (by simp))
 ·rw[F.sc,A23,A23]
  simp only[A55,List.flatMap_nil,A.sc,B.sc]
theorem D9o{K:List Kw}{o:Po}{ni:Bool}{a b:Pl}(h:o.op=5\/o.op=6)(ha:(B9 K (.mk o ni [a,b])).2=0):(C4 K (.mk o ni [a,b])).1.ks=(C4 K a).1.ks++(C4 K b).1.ks:=by
 obtain⟨k1,k2,k3,k4,k5,k6⟩:=n5 (S9 ha).2.1
 rw[k5]
 unfold I1
 rw[if_neg (by omega),if_neg (by omega),if_neg (by omega),if_neg (by omega),if_neg (by omega),if_neg (by omega),if_pos h]
 rfl
theorem D7D{ks:List Int}{l:List Ex}(h:∀c∈l,P7 c)(ho:∀c∈l,V0 ks c):∀c∈C9 l,V0 ks c:=by
 by_cases hn:l=[]
 ·subst hn
  rw[A97]
  intro c hc
  rw[O4.1 hc]
  exact A9L (nl:=true) (l:=[])|>.2 (by simp)
 ·rw[A5o h hn];exact ho
theorem E2B{K:List Kw}{a:Pl}(h:(B9 K a).2=0):H5 K a=((C4 K a).1.ks.length:Nat):=by
 unfold H5
 rw[(S9 h).2.2]
theorem E1b{I:List Bg}(hI:InG I):∀{x:Pl},NF (B7 I) x->∀l:List Ex,(∀c∈l,P7 c)->x.bk<=1073741824->K7 (F6 I) x<=2000->(B9 (B7 I) (K4 (B7 I) x l)).2=0->(∀c∈l,V0 (C4 (B7 I) x).1.ks c)->l7 I x (K4 (B7 I) x l) l:=by
 intro x hx
 induction hx with
 |leaf h hs ih=>
  intro l hl hb hg hacc hok
  rw[A9O _ l h]
  exact l7.fl hl
 |@join o ni a b h ha hb iha ihb=>
  intro l hl hbk hg hacc hok
  have hx0:=(A7A (.join (ni:=ni) h ha hb) l hl hacc).1.1
  obtain⟨a0,b0⟩:=A4K hx0
  have hks:=D9o h hx0
  rw[hks] at hok
  have hB:=Pl.bd hbk
  obtain⟨m1,m2⟩:=u4 hg
  have hok':=D7D hl hok
  have hwd:=E2B a0
  have ga:=A5y hI a (hB.sub a (by simp)) (S9 a0).2.1 (m2 a (by simp))
  have gb:=A5y hI b (hB.sub b (by simp)) (S9 b0).2.1 (m2 b (by simp))
  have hla:=m9 (B7 I) a
  have hlb:=m9 (B7 I) b
  have hwa:∀r∈A8 (F7 I a).rows,(r.length:Int)=H5 (B7 I) a:=λr hr=>by
   obtain⟨y,hy,rfl⟩:=C5x hr
   rw[hwd,(ga.row y hy).1]
  have hkl:((C4 (B7 I) a).1.ks++(C4 (B7 I) b).1.ks).length<=4294967296:=by rw[H3];omega
  have hleft:∀(r s:B4),(r.length:Int)=H5 (B7 I) a->Y9 (C6 (H5 (B7 I) a) 0 (C9 l)) (r++s)=Y9 (C6 (H5 (B7 I) a) 0 (C9 l)) r:=λr s hr=>
   A8W λc hc=>E2f hr (A2G.1 hc).2
  have okl:∀c∈C6 (H5 (B7 I) a) 0 (C9 l),V0 (C4 (B7 I) a).1.ks c:=λc hc=>by
   obtain⟨c1,c2⟩:=A2G.1 hc
   rw[hwd] at c2
   exact E0e (hok' c c1) c2
  rcases h with h|h
  ·rw[A7C _ l h] at hacc ⊢
   obtain⟨b1,b2,b3,_⟩:=A5F (T2 hl) hacc
   obtain⟨c1,c2⟩:=A4K b1
   have A:=iha _ (T2 hl) (hB.sub a (by simp)) (m2 a (by simp)) c1 okl
   have B:=ihb _ (A7T (T2 hl)) (hB.sub b (by simp)) (m2 b (by simp)) c2 λc hc=>by
    obtain⟨d,hd,rfl⟩:=D9.1 hc
    obtain⟨d1,d2⟩:=A2G.1 hd
    rw[hwd] at d2 ⊢
    exact(E0f hkl (hok' d d1) d2).1
   refine l7.j false h (T2 hl) A B λnb _=>?_
   refine(C3u _ λr hr s hs=>?_).symm
   have hw:=hwa r hr
   rw[<- hleft r s hw,show Y9 l (r++s)=Y9 (C9 l) (r++s) from(C1P hl _).symm,B1X (H5 (B7 I) a)]
   congr 2
   show _=List.all (List.map _ _) _
   rw[List.all_map]
   refine A8W λc hc=>?_
   obtain⟨d1,d2⟩:=A2G.1 hc
   exact(E2g hw hkl (hok' c d1).1 d2).symm
  ·rw[A7D _ l h] at hacc ⊢
   have hm:∀c∈C6 (H5 (B7 I) a) 1 (C9 l)++C6 (H5 (B7 I) a) 2 (C9 l),P7 c:=λc hc=>by
    rcases L9.1 hc with hc|hc
    ·exact T2 hl c hc
    ·exact T2 hl c hc
   obtain⟨b1,b2,b3,_⟩:=A5F hm hacc
   obtain⟨c1,c2⟩:=A4K b1
   have A:=iha _ (T2 hl) (hB.sub a (by simp)) (m2 a (by simp)) c1 okl
   have B:=ihb [] (by simp) (hB.sub b (by simp)) (m2 b (by simp)) c2 (by simp)
   refine l7.j true h hm A B λnb _=>?_
   rw[show(A8 (F7 I b).rows).filter (Y9 [])=A8 (F7 I b).rows from A54.2 λ_ _=>rfl]
   refine(C3v _ λr hr s _=>?_).symm
   have hw:=hwa r hr
   rw[<- hleft r s hw,show Y9 l (r++s)=Y9 (C9 l) (r++s) from(C1P hl _).symm,B1X (H5 (B7 I) a)]
   congr 1
   show _=List.all (_++_) _
   rw[List.all_append]
 |@filt o ni y lp h hy h3 hp hlp hc hr ih=>
  intro l hl hbk hg hacc hok
  have hx0:=(A7A (.filt (ni:=ni) h hy h3 hp hlp hc hr) l hl hacc).1.1
  obtain⟨y0,hpr,hks,_⟩:=B2s h hx0
  rw[hks] at hok
  rw[A7B _ l h] at hacc ⊢
  have hcj:(cj o.pred).map (A9 0)=lp:=by rw[hp,A6O (λc hm=>(hc c hm).flat) hlp,A4N hc]
  rw[hcj] at hacc ⊢
  have hB:=Pl.bd hbk
  obtain⟨m1,m2⟩:=u4 hg
  rw[hp] at hpr
  have hokp:=A9L.1 (A9P.1 hpr).1
  have Y:=ih (lp++l) (λc hm=>by
   rcases L9.1 hm with hm|hm
   ·exact hc c hm
   ·exact hl c hm) (hB.sub y (by simp)) (m2 y (by simp)) hacc (λc hm=>by
   rcases L9.1 hm with hm|hm
   ·exact hokp c hm
   ·exact hok c hm)
  have X:l7 I y (.mk o ni [y]) lp:=l7.f3 h (by rw[hp];exact funext λr=>C5i r false lp)
  refine⟨by rw[Y.ki,X.ki],?_,by rw[Y.sz,X.sz],s7 Y.lg ((u4 (A0i (K7 (F6 I) (.mk o ni [y])))).2 y (by simp)),by rw[Y.sc,X.sc]⟩
  rw[Y.rows,X.rows,A2M,List.filter_filter]
  congr 1
  refine List.filter_congr λr _=>?_
  show List.all (_++_) _=_
  rw[List.all_append,Bool.and_comm]
end Go.Proofs
end
section
namespace Go.Proofs
open Go.Bi
def aL:List Ex->Nat
 |[]=>0
 |c::l=>c.bk+16+aL l
theorem A6y:∀(a b:List Ex),aL (a++b)=aL a+aL b
 |[],b=>by simp[aL]
 |x::a,b=>by
  have:=A6y a b
  rw[A4r,aL,aL];omega
theorem A34{f:Ex->Ex}(h:∀e:Ex,(f e).bk<=e.bk):∀l:List Ex,aL (l.map f)<=aL l
 |[]=>D4 _
 |x::l=>by
  have:=A34 h l
  have:=h x
  rw[G5,aL,aL];omega
theorem A8U(n:Int):∀l:List Ex,aL (C6 n 0 l)+aL (C6 n 1 l)+aL (C6 n 2 l)=aL l
 |[]=>rfl
 |x::l=>by
  have ih:=A8U n l
  unfold C6 at ih ⊢
  rw[j9,j9,j9]
  rcases A99 n x with h|h|h<;>simp[h,aL]<;>omega
theorem A4v:∀l:List Ex,aL l=D5 (xL l)+16*l.length
 |[]=>rfl
 |x::l=>by
  have h:=A4v l
  rw[aL,h,H7]
  simp only[xL,G5,D5]
  unfold Ex.bk;omega
theorem D6U:∀e:Ex,aL (cj e)<=4*e.bk:=by
 have key:∀e:Ex,D5 (xL (cj e))<=e.bk/\7*(cj e).length<=D5 (xL (cj e)):=by
  refine Ex.ind λop n v nm nl args ih=>?_
  have hb:=Ex.bk_eq op n v nm nl args
  rw[A2o]
  split
  ·have:∀l:List Ex,(∀a∈l,D5 (xL (cj a))<=a.bk/\7*(cj a).length<=D5 (xL (cj a)))->D5 (xL (l.flatMap cj))<=D5 (xL l)/\7*(l.flatMap cj).length<=D5 (xL (l.flatMap cj)):=by
    intro l
    induction l with
    |nil=>intro _;exact⟨D4 _,D4 _⟩
    |cons a l ihl=>
     intro h
     obtain⟨h1,h2⟩:=h a (by simp)
     obtain⟨h3,h4⟩:=ihl λb hb=>h b (by simp[hb])
     have e1:=A6y (cj a) (l.flatMap cj)
     rw[A4v,A4v,A4v,H3] at e1
     rw[A55,H3]
     have e2:D5 (xL (a::l))=a.bk+D5 (xL l):=rfl
     constructor
     ·rw[e2];omega
     ·omega
   obtain⟨h1,h2⟩:=this args ih
   exact⟨by omega,h2⟩
  ·have e2:D5 (xL [Ex.mk op n v nm nl args])=(Ex.mk op n v nm nl args).bk+0:=rfl
   rw[e2,List.length_singleton]
   constructor<;>omega
 intro e
 obtain⟨h1,h2⟩:=key e
 rw[A4v];omega
theorem C19{l:List Ex}(h:∀c∈l,P7 c):aL (C9 l)<=aL l+23:=by
 by_cases hn:l=[]
 ·subst hn
  rw[A97];exact D4 _
 ·rw[A5o h hn];omega
theorem A6z{l:List Ex}:∀c∈l,c.bk<=aL l:=by
 induction l with
 |nil=>intro c hc;cases hc
 |cons x l ih=>
  intro c hc
  rw[aL]
  rcases I2.1 hc with rfl|hc
  ·omega
  ·have:=ih c hc;omega
theorem C18{nl:Bool}{l:List Ex}(hn:l≠[]):(K3 nl l).bk+8<=aL l:=by
 match l,hn with
 |[x],_=>
  show x.bk+8<=_
  rw[aL,aL];omega
 |x::y::l,_=>
  rw[A3K (by simp),Ex.bk_eq,A4v,H7,H7]
  have e1:C5.s.length=0:=rfl
  have e2:([]:List UInt8).length=0:=rfl
  omega
def ow(o:Po):Nat:=D5 (A5 o.ki)+D5 (B6 o.rows)+D5 (xL o.xs)+D5 (A5 o.keys)+D5 (H4 o.aggs)
def wp1(o:Po):Nat:=if o.op=3 then max (o.pred.bk+8) (aL (cj o.pred)) else o.pred.bk+8
mutual
/-- A plan's weight: filters by their conjuncts. -/
def pw:Pl->Nat
 |.mk o _ ins=>ow o+wp1 o+n8 ins
def n8:List Pl->Nat
 |[]=>0
 |p::r=>pw p+n8 r
end
mutual
/-- How many joins. -/
def jn:Pl->Nat
 |.mk o _ ins=>(if o.op=5\/o.op=6 then 1 else 0)+U0 ins
def U0:List Pl->Nat
 |[]=>0
 |p::r=>jn p+U0 r
end
theorem B3h:∀{l:List Pl}{p:Pl},p∈l->pw p<=n8 l/\jn p<=U0 l
 |a::l,p,h=>by
  rw[n8,U0]
  rcases I2.1 h with rfl|h
  ·omega
  ·have:=B3h h;omega
theorem Z6:∀p:Pl,p.bk<=pw p/\pw p<=4*p.bk/\8*jn p<=p.bk:=by
 refine Pl.ind λo ni ins ih=>?_
 have key:∀l:List Pl,(∀a∈l,a.bk<=pw a/\pw a<=4*a.bk/\8*jn a<=a.bk)->D5 (pL l)<=n8 l/\n8 l<=4*D5 (pL l)/\8*U0 l<=D5 (pL l):=by
  intro l
  induction l with
  |nil=>intro _;exact⟨D4 _,D4 _,D4 _⟩
  |cons a l ihl=>
   intro h
   have h1:=h a (by simp)
   have h2:=ihl λb hb=>h b (by simp[hb])
   have e:D5 (pL (a::l))=a.bk+D5 (pL l):=rfl
   rw[n8,U0,e];omega
 obtain⟨k1,k2,k3⟩:=key ins ih
 have h4:=D6U o.pred
 rw[Pl.bk_eq,pw,jn]
 unfold ow wp1
 refine⟨?_,?_,?_⟩
 ·split<;>omega
 ·split<;>omega
 ·split<;>omega
theorem B2w{x:Pl}{l:List Ex}(h:∀c∈l,P7 c):pw (P5 x l)<=pw x+aL l/\jn (P5 x l)=jn x:=by
 by_cases hn:l=[]
 ·subst hn;exact⟨D4 _,rfl⟩
 ·rw[A9r h hn]
  have e1:pw (R9 3 0 (K3 false l) [x])=ow (po0 3 0 (K3 false l))+wp1 (po0 3 0 (K3 false l))+(pw x+0):=by rw[pw,n8,n8]
  have e2:ow (po0 3 0 (K3 false l))=0:=rfl
  have e3:wp1 (po0 3 0 (K3 false l))=max ((K3 false l).bk+8) (aL (cj (K3 false l))):=rfl
  rw[A6O (λc hc=>(h c hc).flat) hn] at e3
  have:=C18 (nl:=false) hn
  refine⟨by omega,?_⟩
  have e4:jn (R9 3 0 (K3 false l) [x])=0+(jn x+0):=by rw[jn,U0,U0];rfl
  omega
theorem A9V(o:Po)(ni:Bool)(a b:Pl):pw (.mk o ni [a,b])=ow o+wp1 o+(pw a+pw b)/\jn (.mk o ni [a,b])=(if o.op=5\/o.op=6 then 1 else 0)+(jn a+jn b):=by
 rw[pw,n8,n8,n8,jn,U0,U0,U0]
 omega
theorem A7H(o:Po)(ni:Bool)(a:Pl):pw (.mk o ni [a])=ow o+wp1 o+pw a/\jn (.mk o ni [a])=(if o.op=5\/o.op=6 then 1 else 0)+jn a:=by
 rw[pw,n8,n8,jn,U0,U0]
 omega
theorem E1e(K:List Kw){o:Po}{ni:Bool}{ins:List Pl}(l:List Ex)(h1:ins.length=1->o.op≠3)(h2:ins.length=2->o.op≠5/\o.op≠6):K4 K (.mk o ni ins) l=P5 (.mk o ni ins) l:=by
 match ins with
 |[]=>rw[K4]<;>simp
 |[x]=>rw[K4,if_neg (h1 rfl)]
 |[a,b]=>rw[K4,if_neg (h2 rfl).1,if_neg (h2 rfl).2]
 |_::_::_::_=>rw[K4]<;>simp
theorem E1d(K:List Kw):∀x:Pl,∀l:List Ex,(∀c∈l,P7 c)->pw (K4 K x l)<=pw x+aL l+23*jn x/\jn (K4 K x l)=jn x:=by
 refine Pl.ind λo ni ins ih l hl=>?_
 by_cases c1:ins.length=1/\o.op=3
 ·obtain⟨c1,c3⟩:=c1
  obtain⟨x,rfl⟩:=A5L c1
  rw[A7B K l c3]
  obtain⟨p1,p2⟩:=A7H o ni x
  have hL:∀c∈(cj o.pred).map (A9 0)++l,P7 c:=λc hm=>by
   rcases L9.1 hm with hm|hm
   ·exact A4C _ c hm
   ·exact hl c hm
  obtain⟨i1,i2⟩:=ih x (by simp) _ hL
  rw[A6y] at i1
  have:=A34 (j6 0) (cj o.pred)
  have e:wp1 o=max (o.pred.bk+8) (aL (cj o.pred)):=if_pos c3
  rw[if_neg (by omega)] at p2
  omega
 ·by_cases c2:ins.length=2/\(o.op=5\/o.op=6)
  ·obtain⟨c2,c5⟩:=c2
   obtain⟨a,b,rfl⟩:=x9 c2
   obtain⟨p1,p2⟩:=A9V o ni a b
   rw[if_pos c5] at p2
   have hcl:=C19 hl
   have hse:=A8U (H5 K a) (C9 l)
   obtain⟨a1,a2⟩:=ih a (by simp) (C6 (H5 K a) 0 (C9 l)) (T2 hl)
   rcases c5 with c5|c5
   ·rw[A7C K l c5]
    obtain⟨b1,b2⟩:=ih b (by simp) ((C6 (H5 K a) 1 (C9 l)).map (A9 (-(H5 K a)))) (A7T (T2 hl))
    have:=A34 (j6 (-(H5 K a))) (C6 (H5 K a) 1 (C9 l))
    obtain⟨f1,f2⟩:=B2w (x:=.mk o true [K4 K a (C6 (H5 K a) 0 (C9 l)),K4 K b ((C6 (H5 K a) 1 (C9 l)).map (A9 (-(H5 K a))))]) (T2 (n:=H5 K a) (k:=2) hl)
    obtain⟨q1,q2⟩:=A9V o true (K4 K a (C6 (H5 K a) 0 (C9 l))) (K4 K b ((C6 (H5 K a) 1 (C9 l)).map (A9 (-(H5 K a)))))
    rw[if_pos (.inl c5)] at q2
    omega
   ·rw[A7D K l c5]
    obtain⟨b1,b2⟩:=ih b (by simp) [] (by simp)
    have e0:aL []=0:=rfl
    have hm:∀c∈C6 (H5 K a) 1 (C9 l)++C6 (H5 K a) 2 (C9 l),P7 c:=λc hc=>by
     rcases L9.1 hc with hc|hc
     ·exact T2 hl c hc
     ·exact T2 hl c hc
    obtain⟨f1,f2⟩:=B2w (x:=.mk o true [K4 K a (C6 (H5 K a) 0 (C9 l)),K4 K b []]) hm
    rw[A6y] at f1
    obtain⟨q1,q2⟩:=A9V o true (K4 K a (C6 (H5 K a) 0 (C9 l))) (K4 K b [])
    rw[if_pos (.inr c5)] at q2
    omega
  ·rw[E1e K l (λe h=>c1 ⟨e,h⟩) (λe=>⟨λh=>c2 ⟨e,.inl h⟩,λh=>c2 ⟨e,.inr h⟩⟩)]
   obtain⟨f1,f2⟩:=B2w (x:=.mk o ni ins) hl
   omega
theorem A6Z:∀{l:List Pl}{p:Pl},p∈l->H2 p<=S3 l
 |a::l,p,h=>by
  rw[S3]
  rcases I2.1 h with rfl|h
  ·omega
  ·have:=A6Z h;omega
theorem E12(o:Po):ow (l9 o)<=ow o:=by
 have h2:=A8Z (l:=o.xs) λx _=>j6 0 x
 show D5 (A5 o.ki)+D5 (B6 o.rows)+D5 (xL (o.xs.map (A9 0)))+D5 (A5 o.keys)+D5 (H4 o.aggs)<=_
 unfold ow;omega
theorem B3e{K:List Kw}:∀p:Pl,∀d,H2 p<=d->(C4 K p).2=0->pw (O7 K p)<=pw p+23*(d*jn p)/\jn (O7 K p)=jn p:=by
 refine Pl.ind λo ni ins ih d hd h0=>?_
 obtain⟨k1,k2,k3,k4,k5,k6⟩:=n5 h0
 rw[H2] at hd
 obtain⟨e,rfl⟩:∃e,d=e+1:=⟨d-1,by omega⟩
 have ih':∀x∈ins,pw (O7 K x)<=pw x+23*(e*jn x)/\jn (O7 K x)=jn x:=λx hx=>ih x hx e (by have:=A6Z hx;omega) (k3 x hx)
 by_cases h3:o.op=3
 ·rw[h3] at k2
  obtain⟨x,rfl⟩:=A5L (show ins.length=1 by have:J8 3=1:=rfl;omega)
  obtain⟨i1,i2⟩:=ih' x (by simp)
  obtain⟨p1,p2⟩:=A7H o ni x
  rw[if_neg (by omega),A17] at p2
  have ew:wp1 o=max (o.pred.bk+8) (aL (cj o.pred)):=if_pos h3
  rw[A9S K h3,p1,p2]
  obtain⟨q1,q2⟩:=E1d K (O7 K x) ((cj (A9 0 o.pred)).map (A9 0)) (A4C _)
  have a1:=A34 (j6 0) (cj (A9 0 o.pred))
  rw[B26] at a1 q1 q2 ⊢
  have a2:=A34 (j6 0) (cj o.pred)
  rw[i2] at q1 q2
  refine⟨?_,q2⟩
  rw[W9,Nat.one_mul]
  omega
 ·rw[A9T K h3,pw,pw,jn,jn]
  have hw:wp1 (l9 o)<=wp1 o:=by
   have:=j6 0 o.pred
   unfold wp1
   rw[if_neg h3,if_neg (show ¬(l9 o).op=3 from h3)]
   show(A9 0 o.pred).bk+8<=_
   omega
  have ho:=E12 o
  have key:∀l:List Pl,(∀x∈l,pw (O7 K x)<=pw x+23*(e*jn x)/\jn (O7 K x)=jn x)->n8 (l.map (O7 K))<=n8 l+23*(e*U0 l)/\U0 (l.map (O7 K))=U0 l:=by
   intro l
   induction l with
   |nil=>intro _;exact⟨K1 _,rfl⟩
   |cons a l ihl=>
    intro h
    obtain⟨h1,h2⟩:=h a (by simp)
    obtain⟨h4,h5⟩:=ihl λb hb=>h b (by simp[hb])
    rw[G5,n8,n8,U0,U0,Nat.mul_add]
    omega
  obtain⟨m1,m2⟩:=key ins ih'
  have hm:e*U0 ins<=(e+1)*((if o.op=5\/o.op=6 then 1 else 0)+U0 ins):=Nat.mul_le_mul (by omega) (by omega)
  refine⟨by omega,?_⟩
  rw[m2]
end Go.Proofs
end
section
namespace Go.Proofs
open Go.Bi
theorem B2Z{ks:List Int}(hks:ks.length<=1073741824){e:Ex}(h:V0 ks e):V0 ks (A9 0 e)/\(∀r,K6 (A9 0 e) r=K6 e r)/\I6 (A9 0 e)=I6 e:=by
 obtain⟨a1,a2,a3⟩:=B0b ks hks e h.1
 refine⟨?_,λr=>?_,a3⟩
 ·unfold V0 at h ⊢
  rw[a1];exact h
 ·unfold K6
  rw[a2 r]
theorem D82{ks:List Int}(hks:ks.length<=1073741824){e:Ex}(h:V0 ks e):(∀c∈(cj (A9 0 e)).map (A9 0),V0 ks c)/\(K6 e=Y9 ((cj (A9 0 e)).map (A9 0))):=by
 obtain⟨h1,h2,_⟩:=B2Z hks h
 have h3:=E0d (A9 0 e)|>.1 h1
 refine⟨λc hc=>?_,funext λr=>?_⟩
 ·obtain⟨x,hx,rfl⟩:=D9.1 hc
  exact(B2Z hks (h3 x hx)).1
 ·rw[<- h2 r,E2e r (A9 0 e)]
  show _=List.all (List.map _ _) _
  rw[List.all_map]
  exact A8W λc hc=>((B2Z hks (h3 c hc)).2.1 r).symm
theorem E1g{I:List Bg}(hI:InG I):∀p:Pl,H2 p<=24->pw p+552*jn p<=1073741824->(C4 (B7 I) p).2=0->K7 (F6 I) p<=2000->(B9 (B7 I) (O7 (B7 I) p)).2=0->PlE I p (O7 (B7 I) p):=by
 refine Pl.ind λo ni ins ih hd hb h0 hl hacc=>?_
 obtain⟨k1,k2,k3,k4,k5,k6⟩:=n5 h0
 obtain⟨m1,m2⟩:=u4 hl
 have hpb:(Pl.mk o ni ins).bk<=1073741824:=by have:=(Z6 (.mk o ni ins)).1;omega
 have hsd:∀x∈ins,H2 x<=24:=λx hx=>by have:=A6Z hx;rw[H2] at hd;omega
 have hsb:∀x∈ins,pw x+552*jn x<=1073741824:=λx hx=>by have:=B3h hx;rw[pw,jn] at hb;omega
 have ih':=λx hx=>ih x hx (hsd x hx) (hsb x hx) (k3 x hx) (m2 x hx)
 by_cases h3:o.op=3
 ·rw[h3] at k2
  obtain⟨x,rfl⟩:=A5L (show ins.length=1 by have:J8 3=1:=rfl;omega)
  rw[A9S _ h3] at hacc ⊢
  have hnf:=C4s x (k3 x (by simp))
  obtain⟨⟨p1,p2,p3⟩,_⟩:=A7A hnf _ (A4C _) hacc
  have X:=ih' x (by simp) p1
  obtain⟨f1,f2,f3,_⟩:=B2s (K:=B7 I) h3 (show(B9 (B7 I) (.mk o ni [x])).2=0 by rw[A3a hd];exact h0)
  have hlen:=m9 (B7 I) x
  obtain⟨c1,c2⟩:=D82 (ks:=(C4 (B7 I) x).1.ks) (by omega) (A9P.1 f2).1
  have hpx:=(B3e x 24 (hsd x (by simp)) (k3 x (by simp))).1
  have hbx:=hsb x (by simp)
  have hbb:=(Z6 (O7 (B7 I) x)).1
  have Y:=E1b hI hnf _ (A4C (A9 0 o.pred)) (by omega) (s7 X.lg (m2 x (by simp))) hacc (by rw[X.ks];exact c1)
  have Z:l7 I x (.mk o ni [x]) ((cj (A9 0 o.pred)).map (A9 0)):=l7.f3 h3 c2
  refine⟨(S9 hacc).2.1,by rw[p2,X.ks,f3],by rw[Y.ki,X.ki,Z.ki],?_,by rw[Y.sz,X.sz,Z.sz],s7 Y.lg (s7 X.lg ((u4 (A0i (K7 (F6 I) (.mk o ni [x])))).2 x (by simp))),by rw[Y.sc,X.sc,Z.sc]⟩
  rw[Y.rows,Z.rows,X.rows]
 ·rw[A9T _ h3] at hacc ⊢
  obtain⟨d1,d2,_⟩:=S9 hacc
  obtain⟨g1,g2,g3,_⟩:=n5 d2
  rw[H2] at d1
  exact PlE.node hI (e8.cp o) hpb h0 hl λx hx=>ih' x hx (by
   have hm:O7 (B7 I) x∈ins.map (O7 (B7 I)):=D9.2 ⟨x,hx,rfl⟩
   have:=A6Z hm
   rw[A3a (by omega)]
   exact g3 _ hm)
inductive Sm:Pl->Prop
 |mk {o:Po} {ni:Bool} {ins:List Pl} (h:o.op=3->∀c∈cj o.pred,I6 c<=8) (hs:∀x∈ins,Sm x):Sm (.mk o ni ins)
theorem Sm.own{o:Po}{ni:Bool}{ins:List Pl}(h:Sm (.mk o ni ins)):(o.op=3->∀c∈cj o.pred,I6 c<=8)/\∀x∈ins,Sm x:=by
 cases h with
 |mk h hs=>exact⟨h,hs⟩
end Go.Proofs
end
section
namespace Go.Bi
open Go
section
variable {P:Program}{n nb:Nat}{M:D6}{G:Gh}{os:List AO}{w:World}{ρ:D7}{a:Act}
def A7N(Q:AV->List AO->Prop)(rs:List RV)(ρ:D7)(os:List AO):Prop:=v8 ρ os rs λl=>match l with
 |[x,y,z]=>x.one=true/\y.one=true/\z.one=true/\Q (.tup [x,y,z]) os
 |_=>False
def A7L(Q:AV->List AO->Prop)(rs:List RV)(L:Sl)(os:List AO):Prop:=A4Z L os rs λl=>match l with
 |[x,y,z]=>F8 (x.one=true) (F8 (y.one=true) (F8 (z.one=true) (Q (.tup [x,y,z]) os)))
 |_=>False
theorem B3l{ρ:D7}{os:List AO}{K K':List AV->Prop}(hk:∀l,K l->K' l):∀{rs:List RV},v8 ρ os rs K->v8 ρ os rs K'
 |[],h=>hk _ h
 |.t s::rs,h=>B3l (rs:=rs) (λl hl=>hk _ hl) h
 |.cell s m g::rs,h=>by
  simp only[v8] at h ⊢
  obtain⟨r,h1,h2⟩:=A9F h
  exact h2 _ (B3l (rs:=rs) (λl hl=>hk _ hl) h1)
theorem C4D{Q:AV->List AO->Prop}{rs:List RV}{L:Sl}{os:List AO}(h:A7L Q rs L os):A7N Q rs (E7 L) os:=by
 have h1:=A6a h
 refine B3l (λl hl=>?_) h1
 match l,hl with
 |[x,y,z],hl=>exact⟨hl.1,hl.2.1,hl.2.2.1,hl.2.2.2⟩
theorem E15{c:Ctx}(hR:Z5 n nb c M G os w ρ a){fn:Func}{rs:List RV}(hrs:fn.results.toList.mapM (cRV P)=some rs){Q:AV->List AO->Prop}(h:A7N Q rs ρ os) :
  ∃v,(results fn a.tmps).run P w=.ok v w/\∃M' G' r os',C8 M' G' os' w/\F9 c.M c.G c.os c.w M' G' os' w/\VA M' G' os' r v/\Q r os':=by
 obtain⟨l,vs,h1,h2,h3,h4⟩:=B02 hR.env hR.tmps _ rs hrs _ h
 match l,h1,h3,h4 with
 |[x,y,z],h1,h3,h4=>
  simp only[H7,k9] at h3
  refine⟨_,B3r h2,M,G,.tup [x,y,z],os,hR.env,hR.since,?_,h1.2.2.2⟩
  rw[dif_neg (by omega)]
  refine⟨vs.toArray,rfl,by simpa using h3,λj c u hc hu=>?_⟩
  have hu:vs[j]?=some u:=by simpa using hu
  match j,hc with
  |0,hc=>cases hc;exact A9M (h4 0 _ u rfl hu) h1.1
  |1,hc=>cases hc;exact A9M (h4 1 _ u rfl hu) h1.2.1
  |2,hc=>cases hc;exact A9M (h4 2 _ u rfl hu) h1.2.2.1
  |j+3,hc=>simp at hc
theorem D8X(hm:P.follows .mixedOrders=true){f:FuncId}{fn:Func}{code:Code}{ic:IC}{rs:List RV}(hf:P.funcs[f]?=some fn)(hname:fn.name≠ "runtime.NumGoroutine")(hb:fn.body=some code)(hc:cC P fn.ntmps code=some ic)
  (hrs:fn.results.toList.mapM (cRV P)=some rs) {args:List AV} {bs:List AO} (hargs:args.length<=fn.ntmps) {Q:AV->List AO->Prop}
  (h:b8 P fn.ntmps bs.length ic {norm:=A7N Q rs,exit:=λ_ _ _=>False,ret:=A7N Q rs} (A2k args) bs):C0 P f args bs Q:=by
 refine⟨⟨fn,hf,by rw[hb];rfl,hname⟩,λM G w vs he hl hv=>?_⟩
 refine calls_of_wp hf hb (wp_mono (A87 hm code ic hc _ _ _ h ⟨M,G,bs,w⟩ M G w {tmps:=vs++Array.replicate (fn.ntmps-vs.size) undef,defers:=[]} ?_) λe a' w' hp=>?_)
 ·exact {
   env:=he,since:=F9.refl ..,size:=by simp;omega,defers:=rfl,base:=rfl
   tmps:=λt=>by
    unfold A2k
    by_cases ht:t<args.length
    ·have h1:(vs++Array.replicate (fn.ntmps-vs.size) undef).getD t undef=vs[t]:=by
      simp[A2Q (show t<vs.size by omega),show t<vs.size by omega]
     have h2:args.getD t .junk=args[t]:=by simp[ht]
     show VA M G bs (args.getD t .junk) ((vs++Array.replicate (fn.ntmps-vs.size) undef).getD t undef)
     rw[h1,h2]
     have:=hv t args[t] vs[t] (F1 ht) (N2 (by omega))
     generalize args[t]=c at this
     cases c with
     |tup cs=>exact this.elim
     |junk=>trivial
     |_=>exact this
    ·have:args.getD t .junk=.junk:=by simp[H6,A1C (Nat.le_of_not_lt ht)]
     rw[this]
     trivial}
 ·have fin:A10 fn.ntmps bs.length ⟨M,G,bs,w⟩ (A7N Q rs) a' w'->a'.defers=[]/\∃v,(results fn a'.tmps).run P w'=.ok v w'/\∃v',Ending.returned v=.returned v'/\∃M' G' r os',C8 M' G' os' w'/\F9 M G bs w M' G' os' w'/\VA M' G' os' r v'/\Q r os':=by
   rintro⟨M',G',os',ρ',hR,hk⟩
   obtain⟨v,h1,h2⟩:=E15 hR hrs hk
   exact⟨hR.defers,v,h1,v,rfl,h2⟩
  cases e with
  |normal=>exact fin hp
  |ret=>exact fin hp
  |exit id=>obtain⟨_,_,_,_,_,hk⟩:=hp;exact hk.elim
  |_=>exact hp.elim
end
theorem B5.goO3{P:Program}(hm:P.follows .mixedOrders=true){f n:Nat}{ic:IC}{rs:List RV}(h:B5 P f n ic rs){args:List AV}{bs:List AO}(hargs:Nat.ble args.length n=true){Q:AV->List AO->Prop}
  (hw:Go (xI P n bs.length ic (A7L Q rs) (λ_ _ _=>False) (A7L Q rs) (A1K 0 args) bs)):C0 P f args bs Q:=by
 obtain⟨fn,h1,h2,h3,h4,h5⟩:=h
 obtain⟨code,hb,hc⟩:=i6.1 h4
 subst h2
 refine D8X hm h1 (by simpa using h3) hb hc h5 (R6 hargs) ?_
 rw[B2X]
 exact A3w (K:=⟨A7L Q rs,λ_ _ _=>False,A7L Q rs⟩) ⟨λL os h=>C4D h,λ_ _ _ h=>h,λL os h=>C4D h⟩ hw
end Go.Bi
end
section
namespace Go.Proofs
open Go.Bi
theorem C65(e:Ex)(he:e.bk<=1073741824):C0 Tryz.prog B1F [e.av] [] (λr os=>r=.arr 2 (xL ((cj e).map (A9 0))).length/\os=[.cells (e.ds.map .d),.cells [.arr 2 (xL ((cj e).map (A9 0))).length],.arr (xL ((cj e).map (A9 0))) 7 0 (xL ((cj e).map (A9 0))).isEmpty]):=by
 have hl:=A6P e
 have hE:=(B46 A8Q 7 A35 (okA 7) B40 e he 0 [] ⟨by simp;omega,by simp⟩).2
 rw[C1b,A0J] at hE
 obtain⟨R,hR⟩:∃R,R=xL ((cj e).map (A9 0)):=⟨_,rfl⟩
 rw[<- hR] at hE ⊢
 obtain⟨op,n,v,nm,nl,args⟩:=e
 have hB:=C2x rfl hE ((U3 op n v nm (ng nl (xL args))).map .d) (C1e _)
 rw[Ex.ds_mk] at hB ⊢
 rw[Ex.av_mk]
 refine B5j.goO A6 rfl ?_
 obtain⟨b,hb⟩:∃b,b=R.isEmpty:=⟨_,rfl⟩
 rw[<- hb] at hB ⊢
 repeat' first|refine st ?_|((with_reducible apply A4);conv=>whnf)|((with_reducible first|apply O1|apply O0);(·exact hB);(try rintro _ _ ⟨rfl,rfl⟩))|((with_reducible apply O2);(·exact hB))|refine⟨λ_=>?_,λ_=>?_⟩|fail
 all_goals exact⟨rfl,rfl⟩
theorem C6b(n:Int)(e:Ex)(he:e.bk<=1073741824):C0 Tryz.prog A5c [e.av,.d (eI n)] [] (λr os=>r=.tup [.arr 1 (xL (C6 n 0 ((cj e).map (A9 0)))).length,.arr 2 (xL (C6 n 1 ((cj e).map (A9 0)))).length,.arr 3 (xL (C6 n 2 ((cj e).map (A9 0)))).length]/\
  os=[.cells (e.ds.map .d),.arr (xL (C6 n 0 ((cj e).map (A9 0)))) 7 0 (xL (C6 n 0 ((cj e).map (A9 0)))).isEmpty,.arr (xL (C6 n 1 ((cj e).map (A9 0)))) 7 0 (xL (C6 n 1 ((cj e).map (A9 0)))).isEmpty,.arr (xL (C6 n 2 ((cj e).map (A9 0)))) 7 0 (xL (C6 n 2 ((cj e).map (A9 0)))).isEmpty]):=by
 have hj:=A8f e he
 have hLb:∀x∈(cj e).map (A9 0),x.bk<=1073741824:=λx hx=>by
  obtain⟨y,hy,rfl⟩:=D9.1 hx
  have h1:=C1N e y hy
  have h2:=j6 0 y
  omega
 have hLl:((cj e).map (A9 0)).length<=1073741824:=by rw[D3];have:=A6P e;omega
 obtain⟨L,hL⟩:∃L,L=(cj e).map (A9 0):=⟨_,rfl⟩
 rw[<- hL] at hj hLb hLl ⊢
 have hxl:=N1 L
 have hxm:=O6 L
 have hsL:B0 (M4 (xL L)) (xL L):=B3y
 obtain⟨dL,hdL⟩:∃d,d=M4 (xL L):=⟨_,rfl⟩
 rw[<- hdL] at hj hsL
 obtain⟨op,k,v,nm,nl,args⟩:=e
 rw[Ex.av_mk] at hj ⊢
 rw[Ex.ds_mk]
 obtain⟨da,hda⟩:∃d,d=ng nl (xL args):=⟨_,rfl⟩
 rw[<- hda] at hj ⊢
 clear hda hdL hL he
 have r0:v.k=v.k:=rfl
 have r1:v.s=v.s:=rfl
 have r2:nm=nm:=rfl
 refine B5l.goO3 A6 rfl ?_
 repeat' first|refine st ?_|((with_reducible apply A4);conv=>whnf)|refine⟨λ_=>?_,λ_=>?_⟩|fail
 refine T5 7 7 rfl rfl ?_
 repeat' first|refine st ?_|((with_reducible apply A4);conv=>whnf)|refine⟨λ_=>?_,λ_=>?_⟩|fail
 refine T5 8 7 rfl rfl ?_
 repeat' first|refine st ?_|((with_reducible apply A4);conv=>whnf)|refine⟨λ_=>?_,λ_=>?_⟩|fail
 refine T5 9 7 rfl rfl ?_
 repeat' first|refine st ?_|((with_reducible apply A4);conv=>whnf)|refine⟨λ_=>?_,λ_=>?_⟩|fail
 refine C5X A6 B8K B8E (λ(i:Nat) (w1 w2 w3:List (List D)×Bool)=>[.arr 1 w1.1.length,.arr 2 w2.1.length,.arr 3 w3.1.length,.d (eI i)]) (λi w1 w2 w3=>[.cells [.d (eI op),.d (eI k),.d (eI v.k),.d (eI v.n),.d (.str v.s),.d (.str nm),.d da],.arr w1.1 7 0 w1.2,.arr w2.1 7 0 w2.2,.arr w3.1 7 0 w3.2]) (λi w1 w2 w3=>i<=L.length/\St7 true w1 (C6 n 0 (L.take i)) i/\St7 true w2 (C6 n 1 (L.take i)) i/\St7 true w3 (C6 n 2 (L.take i)) i) (λi _ _ _=>L.length-i) 0 ([],true) ([],true) ([],true) rfl rfl rfl rfl (λ_ _ _ _ _=>⟨rfl,rfl⟩) rfl ⟨K1 _,A5W,A5W,A5W⟩ ?_
 repeat' first|refine st ?_|((with_reducible apply A4);conv=>whnf)|refine⟨λ_=>?_,λ_=>?_⟩|fail
 intro i w1 w2 w3 ⟨h1,h2,h3,h4⟩
 obtain⟨A1,c1⟩:=w1
 obtain⟨A2,c2⟩:=w2
 obtain⟨A3,c3⟩:=w3
 obtain⟨m1,l1,e1,f1⟩:=h2
 obtain⟨m2,l2,e2,f2⟩:=h3
 obtain⟨m3,l3,e3,f3⟩:=h4
 dsimp only at m1 l1 e1 f1 m2 l2 e2 f2 m3 l3 e3 f3 ⊢
 cases hx:L[i]? with
 |none=>
  have hge:=F2.1 hx
  rw[H0 hge] at e1 e2 e3
  rw[<- e1,<- e2,<- e3]
  repeat' first|refine st ?_|((with_reducible apply A4);conv=>whnf)|refine⟨λ_=>?_,λ_=>?_⟩|fail
  all_goals
   rw[R2] at f1 f2 f3
   subst f1
   subst f2
   subst f3
   exact⟨rfl,rfl⟩
 |some x=>
  have hlt:=(B3.1 hx).1
  have hgx:=b9 hx
  have hxin:=C3 hx
  have hC:=B0C x (hLb x hxin)
  have hks:B0 (A1c x) (A5 (U8 x)):=C2d x
  have hcl:=B2b x
  have hxb:=hLb x hxin
  have s0:=A5X true (n:=n) (A:=A1) (c:=c1) hx 0
  have s1:=A5X true (n:=n) (A:=A2) (c:=c2) hx 1
  have s2:=A5X true (n:=n) (A:=A3) (c:=c3) hx 2
  have hcs:=A6U n x
  obtain⟨ks,hk⟩:∃y,y=U8 x:=⟨_,rfl⟩
  obtain⟨dk,hdk⟩:∃y,y=A1c x:=⟨_,rfl⟩
  rw[<- hk] at hks hcl hcs
  rw[<- hdk] at hC hks
  have hkl:=G4 ks
  obtain⟨o1,n1,v1,u1,b1,a1⟩:=x
  rw[Ex.ds_mk] at hgx
  rw[Ex.av_mk] at hC
  simp only[Ex.ds_mk] at s0 s1 s2
  rcases hcs with ⟨hc,hks0⟩|⟨y,z,hy,hz,hcc⟩
  ·have hks0':ks.length=0:=by rw[hks0];rfl
   rw[hc] at s0 s1 s2
   repeat' first|refine st ?_|((with_reducible apply A4);conv=>whnf)|refine⟨λ_=>?_,λ_=>?_⟩|fail
   all_goals exact⟨i+1,(A1++[_],_),(A2,c2),(A3,c3),rfl,rfl,rfl,by omega,by omega,s0.1 rfl m1 l1 e1 f1,s1.2 (by decide) m2 l2 e2 f2,s2.2 (by decide) m3 l3 e3 f3⟩
  ·have hpos:=(B3.1 hz).1
   have hg1:(A5 ks)[((ks.length:Int)-1).toNat]?=some [eI y]:=by
    rw[show((ks.length:Int)-1).toNat=ks.length-1 by omega];exact Q1 hy
   have hg1':(A5 ks)[(((A5 ks).length:Int)-1).toNat]?=some [eI y]:=by rw[hkl];exact hg1
   have hg2:(A5 ks)[0]?=some [eI z]:=Q1 hz
   have hg3:(A5 ks)[(0:Int).toNat]?=some [eI z]:=hg2
   have hk0:ks.length≠0:=by omega
   rcases hcc with ⟨hc,q1⟩|⟨hc,q1,q2⟩|⟨hc,q1,q2⟩
   ·rw[hc] at s0 s1 s2
    repeat' first|refine st ?_|((with_reducible apply A4);conv=>whnf)|refine⟨λ_=>?_,λ_=>?_⟩|fail
    all_goals exact⟨i+1,(A1++[_],_),(A2,c2),(A3,c3),rfl,rfl,rfl,by omega,by omega,s0.1 rfl m1 l1 e1 f1,s1.2 (by decide) m2 l2 e2 f2,s2.2 (by decide) m3 l3 e3 f3⟩
   ·rw[hc] at s0 s1 s2
    repeat' first|refine st ?_|((with_reducible apply A4);conv=>whnf)|refine⟨λ_=>?_,λ_=>?_⟩|fail
    all_goals exact⟨i+1,(A1,c1),(A2++[_],_),(A3,c3),rfl,rfl,rfl,by omega,by omega,s0.2 (by decide) m1 l1 e1 f1,s1.1 rfl m2 l2 e2 f2,s2.2 (by decide) m3 l3 e3 f3⟩
   ·rw[hc] at s0 s1 s2
    repeat' first|refine st ?_|((with_reducible apply A4);conv=>whnf)|refine⟨λ_=>?_,λ_=>?_⟩|fail
    all_goals exact⟨i+1,(A1,c1),(A2,c2),(A3++[_],_),rfl,rfl,rfl,by omega,by omega,s0.2 (by decide) m1 l1 e1 f1,s1.2 (by decide) m2 l2 e2 f2,s2.1 rfl m3 l3 e3 f3⟩
end Go.Proofs
end
section
namespace Go.Proofs
open Go.Bi
theorem C6E(K:List Kw)(hK:K.length<=4294967296)(hKb:∀k∈K,k.ks.length<=4294967296)(din:D)(hin:B0 din (E6 K))(o:Po)(ni:Bool)(y q:Pl)(ho:o.op=3)(hpb:o.pred.bk<=1073741824)(hyb:y.bk<=1073741824)(kd:D)(l:List Ex)(hl:l.length<=1073741824)(d:D)(hd:B0 d (xL l))
  (hP:∀d',B0 d' (xL ((cj o.pred).map (A9 0)++l))->C0 Tryz.prog s8 [.ptr 0 0,V4 y (B9 K y).1.d,.d d'] (F4 din) (λr os=>r=q.av/\os=F4 din)) :
  C0 Tryz.prog s8 [.ptr 0 0,V4 (.mk o ni [y]) kd,.d d] (F4 din) (λr os=>r=q.av/\os=F4 din):=by
 have hT:=A2T K hK hKb din hin y hyb
 have hCj:=C65 o.pred hpb
 have hTL:=λrest=>n9 hT (A21 _) (λf=>by rw[s5];exact Q9 f _) rest
 have hPL:=λd' hd' rest=>n9 (hP d' hd') (by rw[s5];exact A3j _ _) (λf=>Q9 f _) rest
 have hcl:=A6P o.pred
 have l1:=N1 l
 have m1:=O6 l
 have hR:=N1 ((cj o.pred).map (A9 0))
 have hRm:=O6 ((cj o.pred).map (A9 0))
 have happ:xL ((cj o.pred).map (A9 0)++l)=xL ((cj o.pred).map (A9 0))++xL l:=by simp[xL]
 rw[happ] at hPL
 rw[D3] at hR
 obtain⟨R,hRe⟩:∃z,z=xL ((cj o.pred).map (A9 0)):=⟨_,rfl⟩
 rw[<- hRe] at hCj hPL hR hRm
 obtain⟨es,hes⟩:∃z,z=xL l:=⟨_,rfl⟩
 rw[<- hes] at hd hPL l1 m1
 have hPL:=hPL (w7 (bif es.isEmpty then R.isEmpty else false) .nil (.sl (R++es))) (by cases R<;>cases es<;>first|exact .inl ⟨rfl,rfl⟩|exact .inr rfl)
 obtain⟨kd',hkd⟩:∃d,d=(B9 K y).1.d:=⟨_,rfl⟩
 rw[<- hkd] at hTL hPL
 clear hT hP hRe hes happ hkd
 obtain⟨op,n,nk,ki,nr,rows,⟨xo,xn,xv,xm,xl,xa⟩,nx,xs,ny,keys,na,aggs⟩:=o
 dsimp only at ho hpb hCj hcl hR
 subst ho
 have hds:(Pl.mk (⟨3,n,nk,ki,nr,rows,.mk xo xn xv xm xl xa,nx,xs,ny,keys,na,aggs⟩:Po) ni [y]).ds=N9 3 n (ng nk (A5 ki)) (ng nr (B6 rows)) xo xn xv xm (ng xl (xL xa)) (ng nx (xL xs)) (ng ny (A5 keys)) (ng na (H4 aggs)) (ng ni (pL [y])):=Pl.ds_eq _ _ _ _ _ _ _ _ _ rfl
 have hins:ng ni (pL [y])=.sl [y.ds]:=by cases ni<;>rfl
 unfold V4 at hTL hPL ⊢
 rw[hds,hins]
 rw[Ex.av_mk,Ex.ds_mk] at hCj
 obtain⟨dk,e1⟩:∃d,d=ng nk (A5 ki):=⟨_,rfl⟩
 obtain⟨dr,e2⟩:∃d,d=ng nr (B6 rows):=⟨_,rfl⟩
 obtain⟨dx,e3⟩:∃d,d=ng nx (xL xs):=⟨_,rfl⟩
 obtain⟨dy,e4⟩:∃d,d=ng ny (A5 keys):=⟨_,rfl⟩
 obtain⟨da,e5⟩:∃d,d=ng na (H4 aggs):=⟨_,rfl⟩
 obtain⟨xd,e7⟩:∃d,d=ng xl (xL xa):=⟨_,rfl⟩
 rw[<- e7] at hCj
 rw[<- e1,<- e2,<- e3,<- e4,<- e5,<- e7]
 clear e1 e2 e3 e4 e5 e7 hds hins
 obtain⟨ao,an,ak,ar,axo,axn,axv,axm,axd,adx,ady,ada,adi,a1,a2⟩:=Pl.cut y
 obtain⟨fo,fn,fk,fr,fxo,fxn,fxv,fxm,fxd,fdx,fdy,fda,fdi,f1,f2⟩:=Pl.cut q
 rw[a2] at hTL
 rw[a1] at hTL hPL ⊢
 rw[f2] at hPL ⊢
 clear a1 a2 f1 f2
 have hbd:(R.length+es.length)*88<=140737488355328:=by omega
 have hbd2:R.length+es.length<=9223372036854775807:=by omega
 obtain⟨rn,hrn⟩:∃b,b=R.isEmpty:=⟨_,rfl⟩
 rw[<- hrn] at hCj hPL
 have r0:xv.k=xv.k:=rfl
 have r1:xv.s=xv.s:=rfl
 have r2:xm=xm:=rfl
 refine A6i.goX A6 rfl ?_
 rcases hd with ⟨rfl,rfl⟩|rfl
 ·repeat' first|refine st ?_|((with_reducible apply A4);conv=>whnf)|((with_reducible first|apply O1|apply O0);(·first|exact hTL _|exact hCj|exact hPL _);(try rintro _ _ ⟨rfl,rfl⟩))|((with_reducible apply O2);(·first|exact hTL _|exact hCj|exact hPL _))|refine⟨λ_=>?_,λ_=>?_⟩|fail
  all_goals exact⟨rfl,rfl⟩
 ·repeat' first|refine st ?_|((with_reducible apply A4);conv=>whnf)|((with_reducible first|apply O1|apply O0);(·first|exact hTL _|exact hCj|exact hPL _);(try rintro _ _ ⟨rfl,rfl⟩))|((with_reducible apply O2);(·first|exact hTL _|exact hCj|exact hPL _))|refine⟨λ_=>?_,λ_=>?_⟩|fail
  all_goals exact⟨rfl,rfl⟩
end Go.Proofs
end
