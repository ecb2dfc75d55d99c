/- Texts of this claim, joined. No condition. -/
import Derived.Test.YtnhhopmldgpglaaGreatQ10
set_option linter.unusedSimpArgs false
set_option linter.unusedVariables false
set_option maxRecDepth 10000
set_option maxHeartbeats 4000000
section
namespace Go.Proofs
open Go.Bi
theorem B0Y(c:List En)(hc:c.length<=1048575)(at':Int)(d1 d2:D)(h1:B5 d1 (D9 (I2 (F1 at' c))))(h2:B5 d2 (D9 (I2 (F1 at' c)))):Pure Tryz.prog A6L [.d d1,.d d2] (.d (.bool true)):=
 B0X _ (by rw[A2z];have:=A2h at' c;omega) d1 d2 h1 h2
theorem B1b(c:List En)(hc:c.length<=1048575)(at':Int)(p:List UInt8->Bool)(d1 d2:D)(h1:B5 d1 (D9 ((I2 (F1 at' c)).filter p)))(h2:B5 d2 (D9 ((I2 (F1 at' c)).filter p))):Pure Tryz.prog A6L [.d d1,.d d2] (.d (.bool true)):=
 B0X _ (by have h:=j4 p (I2 (F1 at' c));rw[A2z] at h;have:=A2h at' c;omega) d1 d2 h1 h2
theorem A3d(l:List (List UInt8)):B5 (l9 l) (D9 l):=X5 λe=>w8.1 e
theorem D39(l:List Int):B5 (stI l) (A0 l):=X5 λe=>w8.1 e
theorem C8E{c:List En}(h:Q2 c)(hok:∀e∈c,e.ok)(at':Int)(nm:List UInt8):(I6 (C8 at' nm c)=(K4,0,false)/\R3 (C8 at' nm c)=(K4,0,11))\/∃y z n,I6 (C8 at' nm c)=(y,n,true)/\R3 (C8 at' nm c)=(z,n,0)/\nf y.t=nf z.t/\y.ok/\z.ok:=by
 have hs:=A9T h at' nm
 have o1:=A43 (A0r (at':=at') (nm:=nm) hok)
 have o2:=A9g (A0r (at':=at') (nm:=nm) hok)
 cases hq:C8 at' nm c with
 |nil=>exact .inl ⟨rfl,rfl⟩
 |cons e r=>
  rw[hq] at hs o1 o2
  rw[A33 hs] at o1
  rw[A5A hs] at o2
  exact .inr ⟨_,_,_,A33 hs,A5A hs,(A48 _ _).2,o1,o2⟩
theorem C3Q(c:List En)(hc:c.length<=1048575)(hok:∀e∈c,e.ok)(d:D)(hd:B5 d (C4 c))(at':Int)(nm:List UInt8) :
  Pure Tryz.prog B4s [.d d,.d (eI at'),.d (.str nm)] (.d (.bool true)):=by
 have h1:=A8j c hc hok d hd
 have hA:=A4s
 by_cases h0:K7 O6 [] c=0
 rotate_left
 ·obtain⟨q,hq⟩:∃q,q=K7 O6 [] c:=⟨_,rfl⟩
  rw[<- hq] at h1 h0
  clear hq hd hok
  refine A8r.go A6 rfl ?_
  repeat' first|refine st ?_|((with_reducible first|apply A8|apply A7);(·first|exact h1|exact hA))|(with_reducible first|apply A5|apply A4)<;>intro _
  all_goals rfl
 rw[h0] at h1
 have hi:Q2 c:=A7a c [] A7r (by rw[A9t];exact h0)
 have h2:=A2H c (by omega) hok d hd at' nm
 have h3:=A6y c (by omega) hok d hd at' nm
 have h4:=A3n c (by omega) d hd at'
 have h5:=A8l c hc d hd at'
 have s1:=B0Y c hc at' _ _ (A3d (I2 (F1 at' c))) L4
 have h6:=C0q c (by omega) d hd nm
 have h7:=C1v c (by omega) d hd nm
 rw[D3f hi] at h6
 have hl:((c.filter (p9 nm)).map En.tm).length<=1048576:=by
  rw[D0];have:=j4 (p9 nm) c;omega
 have s2:=A8g _ hl _ _ (D39 ((c.filter (p9 nm)).map En.tm)) L4
 have h8:=A8b c (by omega) hok d hd at' nm
 have h9:=C1u c hc hok d hd at' nm
 rw[<- D2D hi] at h9
 have s3:=B1b c hc at' (Z0 c at' nm) _ _ (A3d ((I2 (F1 at' c)).filter (Z0 c at' nm))) L4
 obtain⟨n1,e1⟩:∃n,n=l9 (I2 (F1 at' c)):=⟨_,rfl⟩
 obtain⟨n2,e2⟩:∃n,n=D9 (I2 (F1 at' c)):=⟨_,rfl⟩
 rw[<- e1] at h4 s1
 rw[<- e2] at h5 s1
 obtain⟨n3,e3⟩:∃n,n=stI ((c.filter (p9 nm)).map En.tm):=⟨_,rfl⟩
 obtain⟨n4,e4⟩:∃n,n=A0 ((c.filter (p9 nm)).map En.tm):=⟨_,rfl⟩
 rw[<- e3] at h6 s2
 rw[<- e4] at h7 s2
 obtain⟨n5,e5⟩:∃n,n=l9 ((I2 (F1 at' c)).filter (Z0 c at' nm)):=⟨_,rfl⟩
 obtain⟨n6,e6⟩:∃n,n=D9 ((I2 (F1 at' c)).filter (Z0 c at' nm)):=⟨_,rfl⟩
 rw[<- e5] at h8 s3
 rw[<- e6] at h9 s3
 clear e1 e2 e3 e4 e5 e6 hl hd
 have r0:(0:Nat)=0:=rfl
 rcases C8E hi hok at' nm with ⟨g1,g2⟩|⟨y,z,n,g1,g2,g3,o1,o2⟩
 ·rw[g1] at h2
  rw[g2] at h3
  have hS:=A4v K4.t K4.t _ _ _ _ _ _ _ _ w6.tok w6.tok rfl
  clear g1 g2 hi h0 hok
  refine A8r.go A6 rfl ?_
  repeat' first|refine st ?_|((with_reducible first|apply A8|apply A7);(·first|exact h1|exact h2|exact h3|exact hS|exact h4|exact h5|exact s1|exact h6|exact h7|exact s2|exact h8|exact h9|exact s3|exact hA))|(with_reducible first|apply A5|apply A4)<;>intro _
  all_goals first|rfl|(exfalso;simp_all;done)
 ·rw[g1] at h2
  rw[g2] at h3
  have hS:=A4v _ _ _ _ _ _ _ _ _ _ o1.tok o2.tok g3
  clear g1 g2 hi h0 hok o1 o2 g3
  obtain⟨⟨ynm,ycs,yks,yfs,yxs⟩,ydc,ydk,ydf,ydx⟩:=y
  obtain⟨⟨znm,zcs,zks,zfs,zxs⟩,zdc,zdk,zdf,zdx⟩:=z
  have r1:n=n:=rfl
  refine A8r.go A6 rfl ?_
  repeat' first|refine st ?_|((with_reducible first|apply A8|apply A7);(·first|exact h1|exact h2|exact h3|exact hS|exact h4|exact h5|exact s1|exact h6|exact h7|exact s2|exact h8|exact h9|exact s3|exact hA))|(with_reducible first|apply A5|apply A4)<;>intro _
  all_goals first|rfl|(exfalso;simp_all;done)
def Pst(at':Int)(c:List En)(n:Nat):Prop:=∀(j:Nat) e,n<=j->c[j]?=some e->at'<e.tm
theorem B8I{at':Int}{c:List En}{n:Nat}(h:Pst at' c n){p:En->Bool}(hp:∀e,p e=true->e.tm<=at'):(c.take n).filter p=c.filter p:=by
 have e:c.filter p=(c.take n++c.drop n).filter p:=by rw[List.take_append_drop]
 have h0:(c.drop n).filter p=[]:=List.filter_eq_nil_iff.2 λx hx hq=>by
  obtain⟨j,hj⟩:=A1E.1 hx
  rw[A27] at hj
  have h1:=h (n+j) x (by omega) hj
  have h2:=hp x hq
  omega
 rw[e,A1A,h0,Z6]
theorem B8J{at':Int}{c:List En}{n:Nat}(h:Pst at' c n)(nm:List UInt8):C8 at' nm (c.take n)=C8 at' nm c:=
 B8I h λe he=>by
  unfold Q1 at he
  rw[O9] at he
  exact of_decide_eq_true he.1
theorem B8H{at':Int}{c:List En}{n:Nat}(h:Pst at' c n):F1 at' (c.take n)=F1 at' c:=by
 unfold F1
 rw[B8I (p:=k8 at') h λe he=>of_decide_eq_true he]
theorem D2o{at':Int}{c:List En}{n:Nat}(h:Pst at' c n)(nm:List UInt8):Z0 (c.take n) at' nm=Z0 c at' nm:=by
 funext x
 unfold Z0
 rw[B8J h]
theorem C0Z(c:List En)(hc:c.length<=1048575)(hok:∀e∈c,e.ok)(at':Int)(nm:List UInt8)(n:Nat)(h:Pst at' c n)(d:D)(hd:B5 d ((C4 c).take n)) :
  Pure Tryz.prog A2M [.d d,.d (eI at'),.d (.str nm)] (if (I6 (C8 at' nm c)).2.2 then .tup [(I6 (C8 at' nm c)).1.av,.d (eI ((I6 (C8 at' nm c)).2.1:Nat)),.d (eI 0)] else .tup [K4.av,.d (eI 0),.d (eI 11)])/\
  Pure Tryz.prog A8O [.d d,.d (eI at')] (.d (l9 (I2 (F1 at' c))))/\
  Pure Tryz.prog A8P [.d d,.d (eI at'),.d (.str nm)] (.d (l9 ((I2 (F1 at' c)).filter (Z0 c at' nm)))):=by
 rw[A7e] at hd
 have hl:(c.take n).length<=1048576:=by rw[N6];omega
 have ho:∀e∈c.take n,e.ok:=λe he=>hok e (A1F he)
 have h1:=A2H (c.take n) hl ho d hd at' nm
 have h2:=A3n (c.take n) hl d hd at'
 have h3:=A8b (c.take n) hl ho d hd at' nm
 rw[B8J h] at h1
 rw[B8H h] at h2
 rw[B8H h,D2o h] at h3
 exact⟨h1,h2,h3⟩
theorem C3P(c:List En)(hc:c.length<=1048575)(hok:∀e∈c,e.ok)(d:D)(hd:B5 d (C4 c))(at':Int)(nm:List UInt8) :
  Pure Tryz.prog B4r [.d d,.d (eI at'),.d (.str nm)] (.d (.bool true)):=by
 have h1:=A4k c (by omega) hok d hd
 have hA:=A4s
 by_cases h0:K7 F9 [] c=0
 rotate_left
 ·obtain⟨q,hq⟩:∃q,q=K7 F9 [] c:=⟨_,rfl⟩
  rw[<- hq] at h1 h0
  clear hq hd hok
  refine B1j.go A6 rfl ?_
  repeat' first|refine st ?_|((with_reducible first|apply A8|apply A7);(·first|exact h1|exact hA))|(with_reducible first|apply A5|apply A4)<;>intro _
  all_goals rfl
 rw[h0] at h1
 have h2:=A2H c (by omega) hok d hd at' nm
 have h4:=A3n c (by omega) d hd at'
 have h8:=A8b c (by omega) hok d hd at' nm
 have s1:=B0Y c hc at' _ _ (A3d (I2 (F1 at' c))) (A3d (I2 (F1 at' c)))
 have s3:=B1b c hc at' (Z0 c at' nm) _ _ (A3d ((I2 (F1 at' c)).filter (Z0 c at' nm))) (A3d ((I2 (F1 at' c)).filter (Z0 c at' nm)))
 have hP:=λn hn d' hd'=>C0Z c hc hok at' nm n hn d' hd'
 have hS0:=A4v K4.t K4.t _ _ _ _ _ _ _ _ w6.tok w6.tok rfl
 have o1:=A43 (A0r (at':=at') (nm:=nm) hok)
 have hS1:=A4v _ _ _ _ _ _ _ _ _ _ o1.tok o1.tok rfl
 obtain⟨n1,e1⟩:∃n,n=l9 (I2 (F1 at' c)):=⟨_,rfl⟩
 obtain⟨n5,e5⟩:∃n,n=l9 ((I2 (F1 at' c)).filter (Z0 c at' nm)):=⟨_,rfl⟩
 rw[<- e1] at h4 s1
 rw[<- e5] at h8 s3
 simp only[<- e1,<- e5] at hP
 obtain⟨⟨y,k,b⟩,hy⟩:∃y,y=I6 (C8 at' nm c):=⟨_,rfl⟩
 rw[<- hy] at h2 hS1
 simp only[<- hy] at hP
 dsimp only at h2 hS1
 have g1:=Q6 c
 have hm:=U1 c
 have hg0:=λi e=>@k7 c i e
 obtain⟨es,hes⟩:∃es,es=C4 c:=⟨_,rfl⟩
 rw[<- hes] at hd g1 hm hg0
 simp only[<- hes] at hP
 clear hes e1 e5 hy o1 hok h0
 obtain⟨⟨ynm,ycs,yks,yfs,yxs⟩,ydc,ydk,ydf,ydx⟩:=y
 refine B1j.go A6 rfl ?_
 repeat' first|refine st ?_|((with_reducible first|apply A8|apply A7);(·exact h1))|(with_reducible first|apply A5|apply A4)<;>intro _
 refine I8 A6 C4Y C3S (λ(i:Nat) (w:Nat)=>[.d (eI w),.d (eI i)]) (λi w=>[]) (λi w=>i<=c.length/\w<=i/\∀(j:Nat) e,w<=j->j<i->c[j]?=some e->at'<e.tm) (λi w=>c.length-i) 0 0 rfl rfl rfl rfl (λ_ _ _=>⟨rfl,rfl⟩) rfl ⟨by omega,by omega,λj e h1 h2=>by omega⟩ ?_
 repeat' first|refine st ?_|(with_reducible first|apply A5|apply A4)<;>intro _
 intro i w ⟨i1,i2,i3⟩
 cases hx:c[i]? with
 |some e=>
  have hlt:=(B2.1 hx).1
  have hg:es[((i:Nat):Int).toNat]?=some e.ds:=hg0 i e hx
  have hil:(i:Int)<es.length:=by omega
  by_cases ht:e.tm<=at'
  ·have i4:∀(j:Nat) e',i+1<=j->j<i+1->c[j]?=some e'->at'<e'.tm:=λj e' h1 h2=>by omega
   clear hP hS0 hS1 hx i3
   obtain⟨tm,tb,⟨⟨nm',cs,ks,fs,xs⟩,dc,dk,df,dx⟩,⟨k',cnm,to,⟨cn,ck,cl⟩,⟨vk,vn,vs⟩⟩⟩:=e
   dsimp only at ht
   repeat' first|refine st ?_|(with_reducible first|apply A5|apply A4)<;>intro _
   exact⟨i+1,i+1,rfl,rfl,rfl,by omega,by omega,by omega,i4⟩
  ·have i4:∀(j:Nat) e',w<=j->j<i+1->c[j]?=some e'->at'<e'.tm:=λj e' h1 h2 h3=>by
    by_cases hj:j=i
    ·subst hj
     rw[hx] at h3
     injection h3 with h3
     rw[<- h3];omega
    ·exact i3 j e' h1 (by omega) h3
   clear hP hS0 hS1 hx i3
   obtain⟨tm,tb,⟨⟨nm',cs,ks,fs,xs⟩,dc,dk,df,dx⟩,⟨k',cnm,to,⟨cn,ck,cl⟩,⟨vk,vn,vs⟩⟩⟩:=e
   dsimp only at ht
   repeat' first|refine st ?_|(with_reducible first|apply A5|apply A4)<;>intro _
   exact⟨i+1,w,rfl,rfl,rfl,by omega,by omega,by omega,i4⟩
 |none=>
  have hge:=D1.1 hx
  have hil:(es.length:Int)<=i:=by omega
  have hw:(w:Int)<=es.length:=by omega
  have hst:Pst at' c w:=λj e h1 h2=>by
   have hj:=(B2.1 h2).1
   exact i3 j e h1 (by omega) h2
  have r1:k=k:=rfl
  have r0:(0:Nat)=0:=rfl
  rcases hd with ⟨rfl,rfl⟩|rfl
  ·have hw0:w=0:=by
    simp at hw
    omega
   subst hw0
   obtain⟨p1,p2,p3⟩:=hP 0 hst .nil (.inl ⟨rfl,by simp⟩)
   clear hP i3 hst hx
   cases b with
   |true=>
    repeat' first|refine st ?_|((with_reducible first|apply A8|apply A7);(·first|exact h2|exact p1|exact hS1|exact h4|exact p2|exact s1|exact h8|exact p3|exact s3|exact hA))|(with_reducible first|apply A5|apply A4)<;>intro _
    all_goals first|rfl|(exfalso;simp_all;done)
   |false=>
    repeat' first|refine st ?_|((with_reducible first|apply A8|apply A7);(·first|exact h2|exact p1|exact hS0|exact h4|exact p2|exact s1|exact h8|exact p3|exact s3|exact hA))|(with_reducible first|apply A5|apply A4)<;>intro _
    all_goals first|rfl|(exfalso;simp_all;done)
  ·obtain⟨p1,p2,p3⟩:=hP w hst (.sl ((es.drop (0:Int).toNat).take ((w:Int).toNat-(0:Int).toNat))) (.inr rfl)
   clear hP i3 hst hx
   cases b with
   |true=>
    repeat' first|refine st ?_|((with_reducible first|apply A8|apply A7);(·first|exact h2|exact p1|exact hS1|exact h4|exact p2|exact s1|exact h8|exact p3|exact s3|exact hA))|(with_reducible first|apply A5|apply A4)<;>intro _
    all_goals first|rfl|(exfalso;simp_all;done)
   |false=>
    repeat' first|refine st ?_|((with_reducible first|apply A8|apply A7);(·first|exact h2|exact p1|exact hS0|exact h4|exact p2|exact s1|exact h8|exact p3|exact s3|exact hA))|(with_reducible first|apply A5|apply A4)<;>intro _
    all_goals first|rfl|(exfalso;simp_all;done)
theorem D3c{α:Type}{a b e:α}{r:List α}(h:[a,b].Sublist (e::r)):b∈r:=by
 cases h with
 |cons _ h=>exact h.subset (by simp)
 |cons_cons _ h=>exact h.subset (by simp)
theorem C9z{c:List En}(h:Q2 c):c.Pairwise λa b=>H9 a.ch=true->H9 b.ch=true->a.tb≠b.tb:=by
 rw[List.pairwise_iff_forall_sublist]
 intro a b hs ha hb he
 have hm:∀x∈[a,b],Q1 D7 a.tb x=true:=λx hx=>by
  have hc:x∈c:=hs.subset hx
  have ht:=(h.tm x hc).2
  unfold Q1
  rw[decide_eq_true (by omega),s5]
  rcases I9.1 hx with rfl|hx
  ·simp
  ·rw[j5.1 hx,<- he];simp
 have h2:=hs.filter (Q1 D7 a.tb)
 rw[List.filter_eq_self.2 hm] at h2
 have hg:=h.sel a.tb
 unfold C8 at hg
 cases hq:c.filter (Q1 D7 a.tb) with
 |nil=>rw[hq] at h2;cases h2
 |cons e r=>
  rw[hq] at h2 hg
  have:=hg.2.2.2.1 b (D3c h2)
  rw[hb] at this
  cases this
theorem C9x{c:List En}(h:Q2 c)(at':Int):(F1 at' c).Nodup:=by
 unfold F1
 show List.Pairwise _ _
 rw[List.pairwise_map]
 have h1:=(C9z h).sublist (List.filter_sublist (p:=k8 at'))
 exact(h1.sublist (List.filter_sublist (p:=crE))).imp_of_mem fun {a b} ha hb hab=>hab (X8.1 ha).2 (X8.1 hb).2
theorem D38{c:List En}(h:Q2 c)(at':Int){i:Nat}{a b:List UInt8}(ha:(I2 (F1 at' c))[i]?=some a)(hb:(I2 (F1 at' c))[i+1]?=some b):a<b:=by
 obtain⟨h1,rfl⟩:=B2.1 ha
 obtain⟨h2,rfl⟩:=B2.1 hb
 have k1:=A8y.1 (B9n (F1 at' c)) i (i+1) h1 h2 (by omega)
 have k2:(I2 (F1 at' c)).Nodup:=(A7T _).nodup_iff.2 (C9x h at')
 have k3:=A8y.1 k2 i (i+1) h1 h2 (by omega)
 rcases List.le_iff_lt_or_eq.1 k1 with k|k
 ·exact k
 ·exact absurd k k3
theorem B98:∀(l:List Ch)(x:TD)(i:Nat),(TD.run x i l).2.2=0->(TD.run x i l).1.t.nm=x.t.nm
 |[],x,i,_=>rfl
 |c::r,x,i,h=>by
  unfold TD.run at h ⊢
  by_cases hq:E5 x.t c=0
  ·rw[if_pos hq] at h ⊢
   rw[B98 r _ _ h]
   exact D0m _ _
  ·rw[if_neg hq] at h
   exact absurd h hq
theorem C8G{c:List En}(h:Q2 c)(hok:∀e∈c,e.ok)(at':Int){nm:List UInt8}(hn:nm∈F1 at' c):∃y n,I6 (C8 at' nm c)=(y,n,true)/\J0 y.t=0/\y.t.nm=nm/\y.ok:=by
 have hs:=A9T h at' nm
 have o1:=A43 (A0r (at':=at') (nm:=nm) hok)
 have hne:C8 at' nm c≠[]:=by
  unfold F1 at hn
  obtain⟨e,he,rfl⟩:=F2.1 hn
  obtain⟨he,_⟩:=X8.1 he
  obtain⟨he,h2⟩:=X8.1 he
  refine List.ne_nil_of_mem (a:=e) (X8.2 ⟨he,?_⟩)
  unfold Q1
  unfold k8 at h2
  rw[h2];simp
 cases hq:C8 at' nm c with
 |nil=>exact absurd hq hne
 |cons e r=>
  rw[hq] at hs o1
  rw[A33 hs] at o1 ⊢
  obtain⟨a1,a2,a3,a4,a5⟩:=hs
  refine⟨_,_,rfl,?_,?_,o1⟩
  ·unfold TD.runs at a5 ⊢
   rw[if_pos a3] at a5 ⊢
   exact(A47 _ _ _ (TD.cp_vd a3) a5).1
  ·unfold TD.runs at a5 ⊢
   rw[if_pos a3] at a5 ⊢
   rw[B98 _ _ _ a5]
   exact a2
theorem C3R(c:List En)(hc:c.length<=1048575)(hok:∀e∈c,e.ok)(d:D)(hd:B5 d (C4 c))(at':Int)(x:TD)(hx:x.ok)(n:Int) :
  Pure Tryz.prog B4t [.d d,.d (eI at'),x.av,.d (eI n)] (.d (.bool true)):=by
 have h1:=A4k c (by omega) hok d hd
 have hA:=A4s
 by_cases h0:K7 F9 [] c=0
 rotate_left
 ·obtain⟨q,hq⟩:∃q,q=K7 F9 [] c:=⟨_,rfl⟩
  rw[<- hq] at h1 h0
  clear hq hd hok
  obtain⟨⟨xnm,cs,ks,fs,xs⟩,dc,dk,df,dx⟩:=x
  refine B1k.go A6 rfl ?_
  repeat' first|refine st ?_|((with_reducible first|apply A8|apply A7);(·first|exact h1|exact hA))|(with_reducible first|apply A5|apply A4)<;>intro _
  all_goals rfl
 rw[h0] at h1
 have hi:Q2 c:=A7a c [] A7r h0
 have hf:=A9q c [] h0
 have h2:=A6s c hc hok hf d hd at' x hx
 have h3:=A3n c (by omega) d hd at'
 -- beginnings
 have hB:∀(m:Nat) d',B5 d' ((C4 c).take m)->Bi.Pure Tryz.prog A50 [.d d'] (.d (eI 0)):=λm d' hd'=>by
  rw[A7e] at hd'
  have h:=A4k (c.take m) (by rw[N6];omega) (λe he=>hok e (A1F he)) d' hd'
  rw[B6m (c.take m) (c.drop m) [] (by rw[List.take_append_drop];exact h0)] at h
  exact h
 -- the extended catalog
 have hE:S1 c at' x=0->Bi.Pure Tryz.prog A50 [.d (.sl (C4 ((c++[V0 at' x]).map En.cpP)))] (.d (eI 0)):=λh=>by
  have hk:=A4k ((c++[V0 at' x]).map En.cpP) (by simp;omega) (B0E hok (A5n hx)) _ L4
  rw[C9e (D1g (c++[V0 at' x])),B6n,if_pos h0] at hk
  rw[show F9 ([]++c) (V0 at' x)=0 from(A7f c at' x).trans h] at hk
  exact hk
 have hEl:(C4 ((c++[V0 at' x]).map En.cpP)).length=c.length+1:=by rw[Q6];simp
 unfold wtP at h2
 obtain⟨X,hX⟩:∃X,X=C4 ((c++[V0 at' x]).map En.cpP):=⟨_,rfl⟩
 rw[<- hX] at h2 hE hEl
 clear hX
 obtain⟨q,hq⟩:∃q,q=S1 c at' x:=⟨_,rfl⟩
 rw[<- hq] at h2 hE
 clear hq
 -- names
 have hN:∀(i:Nat) s,(I2 (F1 at' c))[i]?=some s->∃(y:TD) (k:Nat),Bi.Pure Tryz.prog A2M [.d d,.d (eI at'),.d (.str s)] (.tup [y.av,.d (eI (k:Nat)),.d (eI 0)])/\Bi.Pure Tryz.prog A4V [y.av] (.d (eI 0))/\y.t.nm=s:=λi s hs=>by
  have hm:s∈F1 at' c:=(A7T _).mem_iff.1 (C2 hs)
  obtain⟨y,k,k1,k2,k3,k4⟩:=C8G hi hok at' hm
  have hA:=A2H c (by omega) hok d hd at' s
  rw[k1] at hA
  have hK:=A6w y.t y.dc y.dk y.df y.dx k4.tok
  rw[k2] at hK
  exact⟨y,k,hA,hK,k3⟩
 have hL:=λi a b=>@D38 c hi at' i a b
 have hll:(I2 (F1 at' c)).length<=1048576:=by rw[A2z];have:=A2h at' c;omega
 have hnd:=A3d (I2 (F1 at' c))
 have hnl:=Z3 (I2 (F1 at' c))
 have hnm:=A1r (I2 (F1 at' c))
 have hng:=λi s=>@A4d (I2 (F1 at' c)) i s
 obtain⟨dn,hdn⟩:∃n,n=l9 (I2 (F1 at' c)):=⟨_,rfl⟩
 rw[<- hdn] at h3 hnd
 obtain⟨ns,hns⟩:∃n,n=D9 (I2 (F1 at' c)):=⟨_,rfl⟩
 rw[<- hns] at hnd hnl hnm hng
 obtain⟨NS,hNS⟩:∃n,n=I2 (F1 at' c):=⟨_,rfl⟩
 rw[<- hNS] at hN hL hll hnl hng
 have g1:=Q6 c
 have hm:=U1 c
 obtain⟨es,hes⟩:∃es,es=C4 c:=⟨_,rfl⟩
 rw[<- hes] at hd g1 hB hm
 clear hdn hns hNS hes hok hf hi h0 hx
 have r0:(0:Int)=0:=rfl
 have hXl:((X.length:Nat):Int)=(es.length:Int)+1:=by omega
 obtain⟨⟨xnm,cs,ks,fs,xs⟩,dc,dk,df,dx⟩:=x
 have hq:(q=0/\Bi.Pure Tryz.prog A2a [.d d,.d (eI at'),.agg [.d (.str xnm),.d dc,.d dk,.d df,.d dx]] (.tup [.d (.sl X),.d (eI 0)])/\Bi.Pure Tryz.prog A50 [.d (.sl X)] (.d (eI 0)))\/(q≠0/\Bi.Pure Tryz.prog A2a [.d d,.d (eI at'),.agg [.d (.str xnm),.d dc,.d dk,.d df,.d dx]] (.tup [.d .nil,.d (eI q)])/\True):=by
  by_cases h:q=0
  ·subst h
   exact .inl ⟨rfl,h2,hE rfl⟩
  ·rw[if_neg h] at h2
   exact .inr ⟨h,h2,trivial⟩
 have hb1:=hB 0 .nil (.inl ⟨rfl,by simp⟩)
 have hb2:=hB n.toNat (.sl ((es.drop (0:Int).toNat).take (n.toNat-(0:Int).toNat))) (.inr rfl)
 have hnn:n<0\/(0<=n/\(es.length:Int)<n)\/(0<=n/\n=0/\d=.nil/\es=[])\/(0<=n/\n<=es.length/\d=.sl es):=by
  rcases hd with ⟨rfl,rfl⟩|rfl
  ·simp only[X7];simp;omega
  ·simp;omega
 clear h2 hE hB
 rcases hnn with hn|⟨hn1,hn2⟩|⟨hn1,hn2,rfl,rfl⟩|⟨hn1,hn2,rfl⟩<;>rcases hq with ⟨rfl,h2,hE⟩|⟨hq0,h2,hE⟩
 all_goals refine B1k.go A6 rfl ?_
 all_goals repeat' first|refine st ?_|((with_reducible first|apply A8|apply A7);(·first|exact h1|exact h2|exact hE|exact hb1|exact hb2|exact h3))|(with_reducible first|apply A5|apply A4)<;>intro _
 all_goals first|(exfalso;omega;done)|refine F3 A6 C4Z C3T (λ(i:Nat)=>[.d (eI i)]) (λi=>[.cells [.d (.str xnm),.d dc,.d dk,.d df,.d dx]]) (λi=>i<=NS.length) (λi=>NS.length-i) 0 rfl rfl rfl rfl (λ_ _=>⟨rfl,rfl⟩) rfl (by omega) ?_
 all_goals repeat' first|refine st ?_|(with_reducible first|apply A5|apply A4)<;>intro _
 all_goals
  intro i g2
  cases hx:NS[i]? with
  |some s=>
   have hlt:=(B2.1 hx).1
   have hg:ns[((i:Nat):Int).toNat]?=some [.str s]:=hng i s hx
   have hil:(i:Int)<ns.length:=by omega
   obtain⟨y,k,a1,a2,a3⟩:=hN i s hx
   obtain⟨⟨ynm,ycs,yks,yfs,yxs⟩,ydc,ydk,ydf,ydx⟩:=y
   dsimp only at a3
   subst a3
   have r1:ynm=ynm:=rfl
   cases i with
   |zero=>
    clear hx hN hL hng
    repeat' first|refine st ?_|((with_reducible first|apply A8|apply A7);(·first|exact a1|exact a2))|(with_reducible first|apply A5|apply A4)<;>intro _
    all_goals first|exact⟨1,rfl,rfl,rfl,by omega,by omega⟩|(exfalso;simp_all;done)
   |succ j=>
    obtain⟨p,hp⟩:∃p,NS[j]?=some p:=⟨_,C9 (by omega)⟩
    have hg':ns[(((j+1:Nat):Int)-1).toNat]?=some [.str p]:=by rw[show(((j+1:Nat):Int)-1).toNat=j by omega];exact hng j p hp
    have hl1:p<ynm:=hL j p ynm hp hx
    have hl2:¬ynm<p:=λh=>absurd (List.lt_trans hl1 h) (List.lt_irrefl p)
    have hl3:¬ynm=p:=λh=>by rw[h] at hl1;exact absurd hl1 (List.lt_irrefl p)
    have hl4:Op.bytesLess ynm p=false:=by rw[bytesLess_eq];exact decide_eq_false hl2
    clear hx hN hL hng hp
    repeat' first|refine st ?_|((with_reducible first|apply A8|apply A7);(·first|exact a1|exact a2))|(with_reducible first|apply A5|apply A4)<;>intro _
    all_goals first|exact⟨j+2,rfl,rfl,rfl,by omega,by omega⟩|(exfalso;simp_all;done)
  |none=>
   have hge:=D1.1 hx
   have hil:(ns.length:Int)<=i:=by omega
   clear hx hN hL hng
   repeat' first|refine st ?_|((with_reducible first|apply A8|apply A7);(·exact hA))|(with_reducible first|apply A5|apply A4)<;>intro _
   all_goals rfl
abbrev B5E:TypeId:=30
abbrev B5F:TypeId:=23
abbrev B5J:TypeId:=61
abbrev B5K:TypeId:=25
abbrev A72:TypeId:=28
theorem B6d:Tryz.prog.cellsOf B5E=3:=by kernel_rfl
theorem C95:Tryz.prog.cellsOf B5F=1:=by kernel_rfl
theorem B6f:Tryz.prog.cellsOf B5L=1:=by kernel_rfl
theorem C98:Tryz.prog.cellsOf B5J=2:=by kernel_rfl
theorem C99:Tryz.prog.cellsOf B5K=1:=by kernel_rfl
theorem C9a:Tryz.prog.cellsOf A72=5:=by kernel_rfl
theorem B9I{ds:List D}(h:WT Tryz.prog B5E ds):∃c:Co,ds=c.ds:=by
 obtain⟨hl,hf⟩:=h.st' Tryz.underlying30
 rw[B6d] at hl
 match ds,hl with
 |[x,y,z],_=>
  have h0:=hf _ (R2 ..)
  have h1:=hf _ (J3 _ (R2 ..))
  have h2:=hf _ (J3 _ (J3 _ (R2 ..)))
  dsimp only at h0 h1 h2
  rw[A2U] at h0
  rw[A5h] at h1
  rw[C94] at h2
  obtain⟨a,ha⟩:=A0V h0
  obtain⟨b,hb⟩:=A0w h1
  obtain⟨s,hs⟩:=D3B h2
  simp at ha hb hs
  exact⟨⟨a,b,s⟩,by rw[ha,hb,hs]⟩
theorem D3C{ds:List D}(h:WT Tryz.prog B5F ds):∃d l,ds=[d]/\B5 d (B3 l):=by
 obtain⟨d,es,h1,h2,h4,h3⟩:=h.sl' Tryz.underlying23
 have:∃l,es=B3 l:=by
  clear h1 h2 h4
  induction es with
  |nil=>exact⟨[],rfl⟩
  |cons x es ih=>
   obtain⟨n,hn⟩:=B9I (h3 x (by simp))
   obtain⟨ks,hk⟩:=ih λy hy=>h3 y (by simp[hy])
   exact⟨n::ks,by rw[hn,hk];rfl⟩
 obtain⟨ks,rfl⟩:=this
 exact⟨d,ks,h1,h2⟩
theorem D3G{ds:List D}(h:WT Tryz.prog B5J ds):∃f:Fo,ds=f.ds:=by
 obtain⟨hl,hf⟩:=h.st' Tryz.underlying61
 rw[C98] at hl
 match ds,hl with
 |[x,y],_=>
  have h0:=hf _ (R2 ..)
  have h1:=hf _ (J3 _ (R2 ..))
  dsimp only at h0 h1
  rw[B6f] at h0
  rw[A2U] at h1
  obtain⟨d,ks,ha,hd⟩:=B9J h0
  obtain⟨s,hs⟩:=A0V h1
  simp at ha hs
  rcases hd with ⟨rfl,he⟩|rfl
  ·have:ks=[]:=by cases ks with
    |nil=>rfl
    |cons k ks=>cases he
   subst this
   exact⟨⟨true,[],s⟩,by rw[ha,hs];rfl⟩
  ·exact⟨⟨false,ks,s⟩,by rw[ha,hs];rfl⟩
theorem D3H{ds:List D}(h:WT Tryz.prog B5K ds):∃d l,ds=[d]/\B5 d (F8 l):=by
 obtain⟨d,es,h1,h2,h4,h3⟩:=h.sl' Tryz.underlying25
 have:∃l,es=F8 l:=by
  clear h1 h2 h4
  induction es with
  |nil=>exact⟨[],rfl⟩
  |cons x es ih=>
   obtain⟨n,hn⟩:=D3G (h3 x (by simp))
   obtain⟨ks,hk⟩:=ih λy hy=>h3 y (by simp[hy])
   exact⟨n::ks,by rw[hn,hk];rfl⟩
 obtain⟨ks,rfl⟩:=this
 exact⟨d,ks,h1,h2⟩
theorem B61(n dc dk df dx:D):Z9 Tryz.prog A72 [n,dc,dk,df,dx]=.agg [.d n,.d dc,.d dk,.d df,.d dx]:=by unfold Z9;rw[Tryz.underlying28];rfl
theorem A9i(d:D):Z9 Tryz.prog A99 [d]=.d d:=by unfold Z9;rw[Tryz.underlying9]
theorem C9s{d:D}{l:List Co}(h:B5 d (B3 l)):l.length<=E7 [d]/\∀v∈l,v.nm.length<=E7 [d]:=by
 have h1:=A6f h
 have h2:(B3 l).length<=G6 (B3 l):=A59 λx hx=>by
  obtain⟨k,_,rfl⟩:=F2.1 hx
  simp only[Co.ds,E7,U0];omega
 rw[G5] at h2
 refine⟨by omega,λv hv=>?_⟩
 have h3:E7 v.ds<=G6 (B3 l):=A2f (F2.2 ⟨v,hv,rfl⟩)
 have h4:v.nm.length<=E7 v.ds:=by simp only[Co.ds,E7,U0];omega
 omega
theorem D0B{d:D}{l:List Fo}(h:B5 d (F8 l)):l.length<=E7 [d]/\∀f∈l,f.cs.length<=E7 [d]/\f.tb.length<=E7 [d]:=by
 have h1:=A6f h
 have h2:(F8 l).length<=G6 (F8 l):=A59 λx hx=>by
  obtain⟨k,_,rfl⟩:=F2.1 hx
  simp only[Fo.ds,E7,U0];omega
 rw[c8] at h2
 refine⟨by omega,λv hv=>?_⟩
 have h3:E7 v.ds<=G6 (F8 l):=A2f (F2.2 ⟨v,hv,rfl⟩)
 have h4:v.tb.length<=E7 v.ds:=by simp only[Fo.ds,E7,U0];omega
 have h5:v.cs.length<=E7 [v.d]:=B7F v.sld
 have h6:E7 [v.d]<=E7 v.ds:=by simp only[Fo.ds,E7];omega
 omega
theorem D0r{d:D}{l:List Ex}(h:B5 d (xL l)):l.length<=E7 [d]/\∀e∈l,e.bk<=E7 [d]:=by
 have h1:=A6f h
 have h2:=B9P l
 refine⟨by omega,λv hv=>?_⟩
 have h3:E7 v.ds<=G6 (xL l):=A2f (F2.2 ⟨v,hv,rfl⟩)
 unfold Ex.bk
 omega
theorem D3e{t:Tb}{dc dk df dx:D}(hb:E7 [.str t.nm,dc,dk,df,dx]<=1048576)(hc:B5 dc (B3 t.cs))(hk:B5 dk (A0 t.ks))(hf:B5 df (F8 t.fs))(hx:B5 dx (xL t.xs)):N4 t dc dk df dx:=by
 have h1:=C9s hc
 have h2:=B7F hk
 have h3:=D0B hf
 have h4:=D0r hx
 have e:E7 [.str t.nm,dc,dk,df,dx]=t.nm.length+1+(E7 [dc]+(E7 [dk]+(E7 [df]+E7 [dx]))):=by simp only[E7,U0];omega
 rw[e] at hb
 exact {hn:=by omega,hl:=by omega,hls:=λc hc=>N7 (h1.2 c hc) (by omega),hk:=by omega,hfl:=by omega,hfc:=λf hf=>⟨N7 (h3.2 f hf).1 (by omega),N7 (h3.2 f hf).2 (by omega)⟩,hxs:=by omega,hxb:=λe he=>N7 (h4.2 e he) (by omega),dc:=hc,dk:=hk,df:=hf,dx:=hx}
abbrev A96:TypeId:=34
theorem B6c:Tryz.prog.cellsOf A96=9:=by kernel_rfl
abbrev Ch.ds(c:Ch):List D:=[eI c.k,.str c.nm,.str c.to,.str c.co.nm,eI c.co.k,.bool c.co.nl,eI c.df.k,eI c.df.n,.str c.df.s]
theorem B9H{ds:List D}(h:WT Tryz.prog A96 ds):∃c:Ch,ds=c.ds:=by
 obtain⟨hl,hf⟩:=h.st' Tryz.underlying34
 rw[B6c] at hl
 match ds,hl with
 |[d0,d1,d2,d3,d4,d5,d6,d7,d8],_=>
  have h0:=hf _ (R2 ..)
  have h1:=hf _ (J3 _ (R2 ..))
  have h2:=hf _ (J3 _ (J3 _ (R2 ..)))
  have h3:=hf _ (J3 _ (J3 _ (J3 _ (R2 ..))))
  have h4:=hf _ (J3 _ (J3 _ (J3 _ (J3 _ (R2 ..)))))
  dsimp only at h0 h1 h2 h3 h4
  rw[A5h] at h0
  rw[A2U] at h1 h2
  rw[B6d] at h3
  rw[A9o] at h4
  obtain⟨k,h0⟩:=A0w h0
  obtain⟨nm,h1⟩:=A0V h1
  obtain⟨to,h2⟩:=A0V h2
  obtain⟨co,h3⟩:=B9I h3
  obtain⟨df,h4⟩:=B9K h4
  simp at h0 h1 h2 h3 h4
  obtain⟨e3,e4,e5⟩:=h3
  obtain⟨e6,e7,e8⟩:=h4
  exact⟨⟨k,nm,to,co,df⟩,by rw[h0,h1,h2,e3,e4,e5,e6,e7,e8]⟩
theorem C8H(c:Ch):Z9 Tryz.prog A96 c.ds=c.av:=by unfold Z9;rw[Tryz.underlying34];rfl
theorem B6g{c:Ch}(hb:E7 c.ds<=1048576):J1 c:=by
 simp only[Ch.ds,E7,U0] at hb
 exact⟨by omega,by omega,by omega,by omega⟩
abbrev TD.ds(x:TD):List D:=[.str x.t.nm,x.dc,x.dk,x.df,x.dx]
theorem B0F{ds:List D}(h:WT Tryz.prog A72 ds):∃x:TD,ds=x.ds/\B5 x.dc (B3 x.t.cs)/\B5 x.dk (A0 x.t.ks)/\B5 x.df (F8 x.t.fs)/\B5 x.dx (xL x.t.xs)/\x.t.Rg:=by
 obtain⟨hl,hf⟩:=h.st' Tryz.underlying28
 rw[C9a] at hl
 match ds,hl with
 |[d0,d1,d2,d3,d4],_=>
  have h0:=hf _ (R2 ..)
  have h1:=hf _ (J3 _ (R2 ..))
  have h2:=hf _ (J3 _ (J3 _ (R2 ..)))
  have h3:=hf _ (J3 _ (J3 _ (J3 _ (R2 ..))))
  have h4:=hf _ (J3 _ (J3 _ (J3 _ (J3 _ (R2 ..)))))
  dsimp only at h0 h1 h2 h3 h4
  rw[A2U] at h0
  rw[C95] at h1
  rw[B6f] at h2
  rw[C99] at h3
  rw[B6e] at h4
  obtain⟨s,hs⟩:=A0V h0
  obtain⟨dc,l,h1,hc⟩:=D3C h1
  obtain⟨dk,ks,h2,hk⟩:=B9J h2
  obtain⟨df,fs,h3,hf⟩:=D3H h3
  obtain⟨nl,xs,h4,hx⟩:=D3F h4
  simp at hs h1 h2 h3 h4
  exact⟨⟨⟨s,l,ks,fs,xs⟩,dc,dk,df,ng nl (xL xs)⟩,by rw[hs,h1,h2,h3,h4],hc,hk,hf,i5,hx⟩
theorem B0u{x:TD}(hb:E7 x.ds<=1048576)(h:B5 x.dc (B3 x.t.cs)/\B5 x.dk (A0 x.t.ks)/\B5 x.df (F8 x.t.fs)/\B5 x.dx (xL x.t.xs)/\x.t.Rg):x.ok:=
 ⟨D3e hb h.1 h.2.1 h.2.2.1 h.2.2.2.1,h.2.2.2.2⟩
abbrev B5G:TypeId:=57
abbrev B5H:TypeId:=22
theorem C96:Tryz.prog.cellsOf B5G=16:=by kernel_rfl
theorem C9b:Tryz.prog.cellsOf A72=5:=by kernel_rfl
def EnW(e:En):Prop:=B5 e.cr.dc (B3 e.cr.t.cs)/\B5 e.cr.dk (A0 e.cr.t.ks)/\B5 e.cr.df (F8 e.cr.t.fs)/\B5 e.cr.dx (xL e.cr.t.xs)/\e.cr.t.Rg
theorem D3D{ds:List D}(h:WT Tryz.prog B5G ds):∃e:En,ds=e.ds/\EnW e:=by
 obtain⟨hl,hf⟩:=h.st' Tryz.underlying57
 rw[C96] at hl
 match ds,hl with
 |[d0,d1,d2,d3,d4,d5,d6,d7,d8,d9,d10,d11,d12,d13,d14,d15],_=>
  have h0:=hf _ (R2 ..)
  have h1:=hf _ (J3 _ (R2 ..))
  have h2:=hf _ (J3 _ (J3 _ (R2 ..)))
  have h3:=hf _ (J3 _ (J3 _ (J3 _ (R2 ..))))
  dsimp only at h0 h1 h2 h3
  rw[A5h] at h0
  rw[A2U] at h1
  rw[C9b] at h2
  rw[B6c] at h3
  obtain⟨a,h0⟩:=A0w h0
  obtain⟨s,h1⟩:=A0V h1
  obtain⟨x,h2,hx⟩:=B0F h2
  obtain⟨c,h3⟩:=B9H h3
  simp at h0 h1 h2 h3
  obtain⟨e0,e1,e2,e3,e4⟩:=h2
  obtain⟨f0,f1,f2,f3,f4,f5,f6,f7,f8⟩:=h3
  exact⟨⟨a,s,x,c⟩,by rw[h0,h1,e0,e1,e2,e3,e4,f0,f1,f2,f3,f4,f5,f6,f7,f8],hx⟩
theorem A6n{ds:List D}(h:WT Tryz.prog B5H ds):∃d c,ds=[d]/\B5 d (C4 c)/\∀e∈c,EnW e:=by
 obtain⟨d,es,h1,h2,h4,h3⟩:=h.sl' Tryz.underlying22
 have:∃c,es=C4 c/\∀e∈c,EnW e:=by
  clear h1 h2 h4
  induction es with
  |nil=>exact⟨[],rfl,λe he=>absurd he (by simp)⟩
  |cons x es ih=>
   obtain⟨n,hn,hw⟩:=D3D (h3 x (by simp))
   obtain⟨ks,hk,hv⟩:=ih λy hy=>h3 y (by simp[hy])
   refine⟨n::ks,by rw[hn,hk];rfl,λe he=>?_⟩
   rcases I9.1 he with rfl|he
   ·exact hw
   ·exact hv e he
 obtain⟨c,rfl,hw⟩:=this
 exact⟨d,c,h1,h2,hw⟩
theorem A55(d:D):Z9 Tryz.prog B5H [d]=.d d:=by unfold Z9;rw[Tryz.underlying22]
theorem D03{e:En}(hb:E7 e.ds<=1048576)(h:EnW e):e.ok:=by
 have h1:E7 e.cr.ds<=1048576:=by simp only[En.ds,TD.ds,E7] at hb ⊢;omega
 have h2:E7 e.ch.ds<=1048576:=by simp only[En.ds,Ch.ds,E7] at hb ⊢;omega
 exact⟨B0u h1 h,B6g h2,by simp only[En.ds,E7,U0] at hb;omega⟩
theorem A5q{d:D}{c:List En}(h:B5 d (C4 c))(hw:∀e∈c,EnW e)(hb:E7 [d]<=1048576):c.length<=1048575/\∀e∈c,e.ok:=by
 have h1:=A6f h
 have h2:(C4 c).length<=G6 (C4 c):=A59 λx hx=>by
  obtain⟨k,_,rfl⟩:=F2.1 hx
  simp only[En.ds,E7,U0];omega
 rw[Q6] at h2
 refine⟨?_,λv hv=>?_⟩
 ·rcases h with ⟨rfl,h⟩|rfl
  ·have:=Q6 c;rw[h] at this;simp at this;omega
  ·simp only[E7,U0] at hb;omega
 ·have h3:E7 v.ds<=G6 (C4 c):=A2f (F2.2 ⟨v,hv,rfl⟩)
  exact D03 (by omega) (hw v hv)
end Go.Proofs
end
