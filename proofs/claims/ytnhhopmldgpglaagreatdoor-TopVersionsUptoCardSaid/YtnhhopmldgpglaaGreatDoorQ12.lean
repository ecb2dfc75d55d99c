/- Texts of this claim, joined. No condition. -/
import Derived.Test.YtnhhopmldgpglaaGreatDoorQ11
set_option linter.unusedSimpArgs false
set_option linter.unusedVariables false
set_option maxRecDepth 10000
set_option maxHeartbeats 4000000
section
namespace Go.Proofs
open Go.Bi
def txV(v:Vl):Vl:=if v.k=0 then v else B92 (A2C v)
def bkV(k:Int)(v:Vl):Vl:=if (y7 v.s).2≠0\/v.k≠2\/(y7 v.s).1.k≠k then K4 else (y7 v.s).1
theorem D2l{v:Vl}(h:N6 v=true):N6 (txV v)=true/\((txV v).k=0\/(txV v).k=2):=by
 unfold txV
 split
 ·exact⟨h,.inl (by assumption)⟩
 ·exact⟨D2y _,(D2x _).symm⟩
theorem D1g(r:List UInt8)(h:(A1S r).2=0):N6 (A1S r).1=true:=by
 unfold A1S at *
 split at h
 ·cases h
 ·rename_i h1
  rw[if_neg h1]
  have hp:c9 r.dropLast=true:=by
   cases e:c9 r.dropLast with
   |true=>rfl
   |false=>exact absurd (.inr e) h1
  split at h
  ·cases h
  ·rename_i t hu
   split at h
   ·cases h
   ·rename_i h2
    simp only[if_neg h2]
    have:=B0K _ _ hu
    unfold N6
    simp[this,hp]
    omega
theorem D1f(s:List UInt8)(h:(A2u s).2=0):N6 (A2u s).1=true:=by
 unfold A2u at *
 generalize (if U8 45 s=true then s.tail else s)=d at *
 generalize U8 45 s=g at *
 split at h
 ·cases h
 ·rename_i h1
  simp only[if_neg h1]
  split at h
  ·cases h
  ·rename_i n hu
   split at h
   ·cases h
   ·rename_i h2
    simp only[if_neg h2]
    have:=(B7R _ _ _ (Int.le_refl _) hu).1
    unfold N6
    simp
    split<;>omega
theorem D2z(s:List UInt8)(h:(y7 s).2=0):N6 (y7 s).1=true:=by
 unfold y7 at *
 split
 ·rfl
 ·rename_i h1
  rw[if_neg h1] at h
  split
  ·rfl
  ·rename_i h2
   rw[if_neg h2] at h
   split
   ·rfl
   ·rename_i h3
    rw[if_neg h3] at h
    split
    ·rename_i h4
     rw[if_pos h4] at h
     exact D1g _ h
    ·rename_i h4
     rw[if_neg h4] at h
     exact D1f _ h
theorem C7A(k:Int)(v:Vl):N6 (bkV k v)=true/\((bkV k v).k=0\/(bkV k v).k=k):=by
 unfold bkV
 split
 ·exact⟨rfl,.inl rfl⟩
 ·rename_i h
  refine⟨D2z _ ?_,.inr ?_⟩
  ·by_cases e:(y7 v.s).2=0
   ·exact e
   ·exact absurd (.inl e) h
  ·by_cases e:(y7 v.s).1.k=k
   ·exact e
   ·exact absurd (.inr (.inr e)) h
theorem A9M(row:List Vl)(ks:List Int):K6 row ks=true↔row.length=ks.length/\∀(i:Nat) v k,row[i]?=some v->ks[i]?=some k->N6 v=true/\(v.k=0\/v.k=k):=by
 unfold K6
 rw[K7,decide_eq_true_eq,N9]
 refine and_congr_right λhl=>⟨λh i v k h1 h2=>?_,λh p hp=>?_⟩
 ·have:=h (v,k) (C3 (A6F.2 ⟨h1,h2⟩:(row.zip ks)[i]?=some (v,k)))
  unfold k8 at this
  simpa using this
 ·obtain⟨i,hi⟩:=A12.1 hp
  obtain⟨h1,h2⟩:=A6F.1 hi
  have:=h i p.1 p.2 h1 h2
  unfold k8
  simpa using this
theorem A37{row:List Vl}{ks:List Int}(h:K6 row ks=true):row.length=ks.length/\∀v∈row,v.s.length<=200:=by
 obtain⟨h1,h2⟩:=(A9M _ _).1 h
 refine⟨h1,λv hv=>?_⟩
 obtain⟨i,hi⟩:=A12.1 hv
 have hlt:=(B2.1 hi).1
 obtain⟨k,hk⟩:∃k,ks[i]?=some k:=⟨_,C5 (by omega)⟩
 have h3:=(h2 i v k hi hk).1
 unfold N6 at h3
 split at h3
 ·rw[(of_decide_eq_true h3).2];simp
 split at h3
 ·rw[(of_decide_eq_true h3).1];simp
 split at h3
 ·rw[K7] at h3;exact(of_decide_eq_true h3.1).2
 split at h3
 ·rw[(of_decide_eq_true h3).1];simp
 ·cases h3
def k9(t:Tb)(c:Ch)(row:List Vl):List Vl:=
 if c.k=1 then row++[c.df] else if c.k=2 then row.eraseIdx (D8 c.nm t.cs).toNat
 else if c.k=4 then row.set (D8 c.nm t.cs).toNat (txV (row.getD (D8 c.nm t.cs).toNat K4)) else row
def bwV(t:Tb)(c:Ch)(row:List Vl):List Vl:=
 if c.k=1 then row.take t.cs.length else if c.k=2 then row.take (D8 c.nm t.cs).toNat++K4::row.drop (D8 c.nm t.cs).toNat
 else if c.k=4 then row.set (D8 c.nm t.cs).toNat (bkV (A0D t (D8 c.nm t.cs)) (row.getD (D8 c.nm t.cs).toNat K4)) else row
theorem Y0(l:List Co)(i:Nat):(kd l)[i]?=(l[i]?).map Co.k:=by unfold kd;rw[F4]
theorem C9h{t:Tb}{c:Ch}(h:D7 t c=0){row:List Vl}(hf:K6 row (kd t.cs)=true):K6 (k9 t c row) (kd (F3 t c).cs)=true:=by
 obtain⟨q1,q2,q3,q4,q5⟩:=A0d h
 rw[A9M] at hf ⊢
 obtain⟨hl,hf⟩:=hf
 rw[S5] at hl
 unfold k9 F3
 by_cases k1:c.k=1
 ·obtain⟨a1,a2,a3,a4,a5,a6,a7⟩:=B5d (q4 k1)
  rw[if_pos k1,if_pos k1]
  refine⟨by rw[S5];simp[hl],λi v k h1 h2=>?_⟩
  rw[Y0] at h2
  by_cases hi:i<row.length
  ·rw[J5 hi] at h1
   rw[J5 (by omega),<- Y0] at h2
   exact hf i v k h1 h2
  ·rw[P6 (by omega)] at h1
   rw[P6 (by omega)] at h2
   have hi0:i-row.length=0:=by
    have:=(B2.1 h1).1
    simp at this;omega
   rw[hi0] at h1
   rw[<- hl,hi0] at h2
   cases h1
   cases h2
   exact⟨a5,by
    by_cases e:c.df.k=0
    ·exact .inl e
    ·exact .inr (a7 e)⟩
 ·obtain⟨i,co,hi,hco,hcn,hus,h4,h3⟩:=A1L (q5 k1)
  have hil:=(B2.1 hco).1
  have hiN:(D8 c.nm t.cs).toNat=i:=by omega
  rw[if_neg k1,if_neg k1,hiN]
  by_cases k2:c.k=2
  ·rw[if_pos k2,if_pos k2]
   refine⟨by rw[S5,A1D,A1D];simp[hl],λj v k h1 h2=>?_⟩
   rw[Y0] at h2
   dsimp only at h2
   rw[A3z] at h1 h2
   split at h1
   ·rw[if_pos (by assumption),<- Y0] at h2
    exact hf j v k h1 h2
   ·rw[if_neg (by assumption),<- Y0] at h2
    exact hf (j+1) v k h1 h2
  ·rw[if_neg k2,if_neg k2]
   have e:t.cs.getD i ⟨[],0,false⟩=co:=A7n hco
   by_cases k3:c.k=3
   ·rw[if_neg (by omega),if_pos k3,e]
    refine⟨by rw[S5];simp[hl],λj v k h1 h2=>?_⟩
    rw[Y0] at h2
    dsimp only at h2
    by_cases hj:i=j
    ·subst hj
     rw[A0Z hil] at h2
     refine hf i v k h1 ?_
     rw[Y0,hco];exact h2
    ·rw[P7 hj,<- Y0] at h2
     exact hf j v k h1 h2
   ·have k4:c.k=4:=by omega
    rw[if_pos k4,if_neg k3,e]
    refine⟨by rw[S5];simp[hl],λj v k h1 h2=>?_⟩
    rw[Y0] at h2
    dsimp only at h2
    by_cases hj:i=j
    ·subst hj
     rw[A0Z hil] at h2
     rw[A0Z (by omega)] at h1
     cases h1;cases h2
     obtain⟨w,hw⟩:∃w,row[i]?=some w:=⟨_,C5 (by omega)⟩
     rw[F7,hw]
     exact D2l (hf i w co.k hw (by rw[Y0,hco];rfl)).1
    ·rw[P7 hj,<- Y0] at h2
     rw[P7 hj] at h1
     exact hf j v k h1 h2
theorem C9f{t:Tb}{c:Ch}(h:D7 t c=0){row:List Vl}(hf:K6 row (kd (F3 t c).cs)=true):K6 (bwV t c row) (kd t.cs)=true:=by
 obtain⟨q1,q2,q3,q4,q5⟩:=A0d h
 rw[A9M] at hf ⊢
 obtain⟨hl,hf⟩:=hf
 rw[S5] at hl
 unfold bwV
 unfold F3 at hl hf
 by_cases k1:c.k=1
 ·rw[if_pos k1] at hl hf ⊢
  dsimp only at hl hf
  rw[M7,A3A] at hl
  refine⟨by rw[S5,P8];omega,λi v k h1 h2=>?_⟩
  have hi:=(B2.1 h2).1
  rw[S5] at hi
  rw[A6D hi] at h1
  refine hf i v k h1 ?_
  rw[Y0,J5 hi,<- Y0]
  exact h2
 ·obtain⟨i,co,hi,hco,hcn,hus,h4,h3⟩:=A1L (q5 k1)
  have hil:=(B2.1 hco).1
  have hiN:(D8 c.nm t.cs).toNat=i:=by omega
  rw[if_neg k1,hiN] at hl hf
  rw[if_neg k1,hiN,hi]
  by_cases k2:c.k=2
  ·rw[if_pos k2] at hl hf ⊢
   dsimp only at hl hf
   rw[A1D,if_pos hil] at hl
   refine⟨by rw[S5];simp only[M7,P8,L0,w3];omega,λj v k h1 h2=>?_⟩
   have hjl:=(B2.1 h2).1
   rw[S5] at hjl
   rw[Y0] at h2
   by_cases hj:j<i
   ·rw[J5 (by rw[P8];omega),A6D hj] at h1
    refine hf j v k h1 ?_
    rw[Y0,A3z,if_pos hj];exact h2
   ·rw[P6 (by rw[P8];omega),P8,A3D (by omega)] at h1
    by_cases hji:j=i
    ·subst hji
     rw[A2U] at h1
     cases h1
     exact⟨rfl,.inl rfl⟩
    ·obtain⟨p,rfl⟩:∃p,j=p+1:=⟨j-1,by omega⟩
     rw[show p+1-i=(p-i)+1 by omega,Z1,A0Y,show i+(p-i)=p by omega] at h1
     refine hf p v k h1 ?_
     rw[Y0,A3z,if_neg (by omega)];exact h2
  ·rw[if_neg k2] at hl hf ⊢
   have e:t.cs.getD i ⟨[],0,false⟩=co:=A7n hco
   by_cases k3:c.k=3
   ·rw[if_pos k3,e] at hl hf
    rw[if_neg (by omega)]
    dsimp only at hl hf
    rw[V3] at hl
    refine⟨by rw[S5];exact hl,λj v k h1 h2=>?_⟩
    refine hf j v k h1 ?_
    rw[Y0] at h2 ⊢
    by_cases hj:i=j
    ·subst hj
     rw[A0Z hil]
     rw[hco] at h2
     exact h2
    ·rw[P7 hj];exact h2
   ·have k4:c.k=4:=by omega
    rw[if_neg k3,e] at hl hf
    rw[if_pos k4]
    dsimp only at hl hf
    rw[V3] at hl
    refine⟨by rw[S5,V3];exact hl,λj v k h1 h2=>?_⟩
    rw[Y0] at h2
    by_cases hj:i=j
    ·subst hj
     rw[A0Z (by omega)] at h1
     cases h1
     rw[hco] at h2
     cases h2
     have hck:A0D t (i:Int)=co.k:=by unfold A0D;rw[K8,hco]
     rw[hck]
     exact C7A _ _
    ·rw[P7 hj] at h1
     refine hf j v k h1 ?_
     rw[Y0,P7 hj];exact h2
theorem D2v(v:Vl)(hs:v.s.length<=1048576):(A2C v).length<=4194304:=by
 unfold A2C
 split
 ·simp
 ·rename_i hv
  split
  ·rename_i hk
   have h:=B93 (by simpa using hv) hk
   have:=Lib.itoa_length_le v.n (by omega) (by omega)
   omega
  ·split
   ·have:=B0l v.s
    simp only[M7,L0,m7];omega
   ·split
    ·split<;>simp
    ·simp
theorem B6d(l:List Vl)(i:Nat)(v:Vl):(D6 l).set i v.ds=D6 (l.set i v):=by simp[D6]
theorem A7d(a b:List Vl):D6 a++D6 b=D6 (a++b):=by simp[D6]
theorem A9B(l:List Vl)(i:Nat):(D6 l).take i=D6 (l.take i):=by simp[D6]
theorem B6c(l:List Vl)(i:Nat):(D6 l).drop i=D6 (l.drop i):=by simp[D6]
theorem C0s(v:Vl)(hs:v.s.length<=1048576):Pure Tryz.prog A8R [eV v] (eV (txV v)):=by
 have hL:=C1q v hs
 have hT:=C1s (A2C v) (P3 (D2v v hs) (by omega))
 obtain⟨q,hq⟩:∃q,q=txV v:=⟨_,rfl⟩
 rw[<- hq]
 unfold txV at hq
 obtain⟨l,hl⟩:∃l,l=A2C v:=⟨_,rfl⟩
 rw[<- hl] at hL hT hq
 clear hl
 obtain⟨k,n,s⟩:=v
 dsimp only at hq
 by_cases h0:k=0
 ·rw[if_pos h0] at hq
  subst hq
  refine B1F.go A6 rfl ?_
  repeat' first|refine st ?_|((with_reducible first|apply A9|apply A8);(·first|exact hL|exact hT))|(with_reducible first|apply A5|apply A4)<;>intro _
  all_goals rfl
 ·rw[if_neg h0] at hq
  rw[<- hq] at hT
  clear hq
  refine B1F.go A6 rfl ?_
  repeat' first|refine st ?_|((with_reducible first|apply A9|apply A8);(·first|exact hL|exact hT))|(with_reducible first|apply A5|apply A4)<;>intro _
  all_goals rfl
theorem C0B(s:St)(h:s.x.ok)(hq:D7 s.x.t s.c=0)(row:List Vl)(hf:K6 row (kd s.x.t.cs)=true):Pure Tryz.prog B4B [s.av,.d (.sl (D6 row))] (.d (.sl (D6 (k9 s.x.t s.c row)))):=by
 have hP:=B1c s h
 obtain⟨q1,q2,q3,q4,q5⟩:=A0d hq
 have hv:=m5.1 q1
 obtain⟨hl,hb⟩:=A37 hf
 rw[S5] at hl
 have hl1:1<=row.length/\row.length<=12:=by have:=hv.l1;have:=hv.l2;omega
 have he:=Y5 row
 have hm:=A0H row
 obtain⟨q,hqq⟩:∃q,q=k9 s.x.t s.c row:=⟨_,rfl⟩
 rw[<- hqq]
 unfold k9 at hqq
 unfold plI at hP
 by_cases k1:s.c.k=1
 ·rw[if_pos k1] at hqq hP
  have hT:=B1o (.sl (D6 row)) (.sl [s.c.df.ds]) (D6 row) [s.c.df.ds] O7 O7 hm (λe he=>by cases Z3.1 he;rfl) (by simp only[A3A];omega)
  have hj:jn (D6 row++[s.c.df.ds])=.sl (D6 q):=by
   have e:D6 row++[s.c.df.ds]=D6 q:=by rw[hqq,<- A7d];rfl
   rw[e]
   unfold jn B9
   rw[decide_eq_false,if_neg (by decide)]
   rw[Y5,hqq];simp
  rw[hj] at hT
  clear hj hqq hf hb hq q1 q3 q4 q5 hv h
  obtain⟨⟨⟨nm,cs,ks,fs,xs⟩,dc,dk,df,dx⟩,y,⟨ck,cnm,to,⟨cn,cck,cl⟩,⟨vk,vn,vs⟩⟩⟩:=s
  dsimp only at k1
  subst k1
  refine A6A.go A6 rfl ?_
  repeat' first|refine st ?_|((with_reducible first|apply A9|apply A8);(·first|exact hP|exact hT))|(with_reducible first|apply A5|apply A4)<;>intro _
  all_goals rfl
 ·obtain⟨i,co,hi,hco,hcn,hus,h4,h3⟩:=A1L (q5 k1)
  have hil:=(B2.1 hco).1
  rw[if_neg k1,hi,K8] at hqq
  rw[if_neg k1,hi] at hP
  by_cases k2:s.c.k=2
  ·rw[if_pos k2] at hqq
   obtain⟨d1,hd1⟩:∃z,z=((D6 row).drop (0:Int).toNat).take (((i:Nat):Int).toNat-(0:Int).toNat):=⟨_,rfl⟩
   obtain⟨d2,hd2⟩:∃z,z=((D6 row).drop (((i:Nat):Int)+1).toNat).take (((D6 row).length:Int).toNat-(((i:Nat):Int)+1).toNat):=⟨_,rfl⟩
   have e1:d1=D6 (row.take i):=by rw[hd1];simp[A9B]
   have e2:d2=D6 (row.drop (i+1)):=by
    rw[hd2,show(((i:Nat):Int)+1).toNat=i+1 by omega,K8,P2 (by rw[w3];exact I4 _),B6c]
   have hT:=B1o (.sl d1) (.sl d2) d1 d2 O7 O7 (by rw[e1];exact A0H _) (by rw[e2];exact A0H _) (by rw[e1,e2,Y5,Y5,P8,w3];omega)
   have hj:jn (d1++d2)=.sl (D6 q):=by
    have e:d1++d2=D6 q:=by rw[e1,e2,hqq,A7d,<- List.eraseIdx_eq_take_drop_succ]
    rw[e]
    unfold jn B9
    rw[decide_eq_false,if_neg (by decide)]
    rw[Y5,hqq,A1D,if_pos (by omega)]
    intro e0
    have hvT:=(A7f hq).l1
    unfold F3 at hvT
    rw[if_neg k1,if_pos k2] at hvT
    dsimp only at hvT
    rw[hi,K8,A1D,if_pos hil] at hvT
    omega
   rw[hj,hd1,hd2] at hT
   clear hj hqq hf hb hq q1 q3 q4 q5 hv h e1 e2 hd1 hd2
   obtain⟨⟨⟨nm,cs,ks,fs,xs⟩,dc,dk,df,dx⟩,y,⟨ck,cnm,to,⟨cn,cck,cl⟩,⟨vk,vn,vs⟩⟩⟩:=s
   dsimp only at k2 hl hil
   subst k2
   refine A6A.go A6 rfl ?_
   repeat' first|refine st ?_|((with_reducible first|apply A9|apply A8);(·first|exact hP|exact hT))|(with_reducible first|apply A5|apply A4)<;>intro _
   all_goals rfl
  ·rw[if_neg k2] at hqq
   by_cases k4:s.c.k=4
   ·rw[if_pos k4] at hqq
    obtain⟨v,hw⟩:∃v,row[i]?=some v:=⟨_,C5 (by omega)⟩
    have hgd:row.getD i K4=v:=by rw[F7,hw];rfl
    rw[hgd] at hqq
    have hX:=C0x A8R (D6 row) (by omega) hm i v (txV v) (A5u hw) (C0s v (by have:=hb v (C3 hw);omega))
    rw[B6d,<- hqq] at hX
    clear hqq hf hb hq q1 q3 q4 q5 hv h hgd
    obtain⟨⟨⟨nm,cs,ks,fs,xs⟩,dc,dk,df,dx⟩,y,⟨ck,cnm,to,⟨cn,cck,cl⟩,⟨vk,vn,vs⟩⟩⟩:=s
    dsimp only at k4
    subst k4
    refine A6A.go A6 rfl ?_
    repeat' first|refine st ?_|((with_reducible first|apply A9|apply A8);(·first|exact hP|exact hX))|(with_reducible first|apply A5|apply A4)<;>intro _
    all_goals rfl
   ·rw[if_neg k4] at hqq
    subst hqq
    have hC:=A6r (D6 q) (by omega) hm (.sl (D6 q)) (.inr rfl)
    clear hf hb hq q1 q3 q4 q5 hv h
    obtain⟨⟨⟨nm,cs,ks,fs,xs⟩,dc,dk,df,dx⟩,y,⟨ck,cnm,to,⟨cn,cck,cl⟩,⟨vk,vn,vs⟩⟩⟩:=s
    dsimp only at k1 k2 k4
    refine A6A.go A6 rfl ?_
    repeat' first|refine st ?_|((with_reducible first|apply A9|apply A8);(·first|exact hP|exact hC))|(with_reducible first|apply A5|apply A4)<;>intro _
    all_goals rfl
theorem C0y(f:FuncId)(o0 o1:List AV)(l:List (List D))(hl:l.length<=1048577)(hm:∀e∈l,e.length=3)(i:Nat)(v w:Vl)(hv:l[i]?=some v.ds)
  (hf:B4 Tryz.prog f [eV v,.ptr 0 0,.ptr 1 0] [.cells o0,.cells o1,.arr l 3 0 false] (λr os=>r=eV w/\os=[.cells o0,.cells o1,.arr l 3 0 false])) :
  B4 Tryz.prog A8P [.d (.sl l),.d (eI i),.clo f [0,1]] [.cells o0,.cells o1] (λr os=>r=.arr 2 l.length/\os=[.cells o0,.cells o1,.arr (l.set i w.ds) 3 0 false]):=by
 have hC:=A8e l hl hm (.sl l) (.inr rfl)
 have hlt:=(B2.1 hv).1
 refine B1E.goO A6 rfl ?_
 repeat' first|refine st ?_|((with_reducible first|apply I6|apply D5);(·first|exact hC|exact hf);(try rintro _ _ ⟨rfl,rfl⟩))|((with_reducible apply I7);(·first|exact hC|exact hf))|((with_reducible apply H6);refine st ?_;(with_reducible apply I5);(·exact rfl);refine st ?_;(with_reducible apply D5);(·first|exact hC|exact hf);(try rintro _ _ ⟨rfl,rfl⟩))|(with_reducible first|apply A5|apply A4)<;>intro _
 all_goals exact⟨by first|rfl|simp,rfl⟩
theorem B9U(s:St)(h:s.x.ok)(hq:H8 s.x.t=0)(i:Nat)(co:Co)(hco:s.x.t.cs[i]?=some co)(l:List (List D))(v:Vl)(hs:v.s.length<=1048576) :
  B4 Tryz.prog A8Q [eV v,.ptr 0 0,.ptr 1 0] [.cells [.d (.str s.x.t.nm),.d s.x.dc,.d s.x.dk,.d s.x.df,.d s.x.dx,.d (.str s.y.t.nm),.d s.y.dc,.d s.y.dk,.d s.y.df,.d s.y.dx,.d (eI s.c.k),.d (.str s.c.nm),.d (.str s.c.to),.d (.str s.c.co.nm),.d (eI s.c.co.k),.d (.bool s.c.co.nl),.d (eI s.c.df.k),.d (eI s.c.df.n),.d (.str s.c.df.s)],.cells [.d (eI i)],.arr l 3 0 false]
   (λr os=>r=eV (bkV co.k v)/\os=[.cells [.d (.str s.x.t.nm),.d s.x.dc,.d s.x.dk,.d s.x.df,.d s.x.dx,.d (.str s.y.t.nm),.d s.y.dc,.d s.y.dk,.d s.y.df,.d s.y.dx,.d (eI s.c.k),.d (.str s.c.nm),.d (.str s.c.to),.d (.str s.c.co.nm),.d (eI s.c.co.k),.d (.bool s.c.co.nl),.d (eI s.c.df.k),.d (eI s.c.df.n),.d (.str s.c.df.s)],.cells [.d (eI i)],.arr l 3 0 false]):=by
 have hP:=C1r v.s hs
 have hN:=A3t
 have hv:=m5.1 hq
 have hdc:=B65 h.tok hv
 have hcl:=G8 s.x.t.cs
 have hil:=(B2.1 hco).1
 have hg:(B3 s.x.t.cs)[((i:Nat):Int).toNat]?=some co.ds:=M8 hco
 have hb:(B3 s.x.t.cs).length<=12:=by have:=hv.l2;omega
 obtain⟨q,hqq⟩:∃q,q=bkV co.k v:=⟨_,rfl⟩
 rw[<- hqq]
 unfold bkV at hqq
 obtain⟨⟨⟨wk,wn,ws⟩,e⟩,hw⟩:∃z,z=y7 v.s:=⟨_,rfl⟩
 rw[<- hw] at hP hqq
 dsimp only at hP hqq
 rw[hdc]
 obtain⟨Cs,hCs⟩:∃z,z=B3 s.x.t.cs:=⟨_,rfl⟩
 have hmC:=I3 s.x.t.cs
 rw[<- hCs] at hcl hg hb hmC ⊢
 clear hw hCs hq hv hco h hdc
 obtain⟨k,n,t⟩:=v
 obtain⟨⟨⟨nm,cs,ks,fs,xs⟩,dc,dk,df,dx⟩,y,⟨ck,cnm,to,⟨cn,cck,cl⟩,⟨vk,vn,vs⟩⟩⟩:=s
 obtain⟨con,cok,conl⟩:=co
 dsimp only at hqq hcl hil
 have hil2:(i:Int)<Cs.length:=by omega
 by_cases g1:e=0
 rotate_left
 ·rw[if_pos (.inl g1)] at hqq
  subst hqq
  refine A6z.goX A6 rfl ?_
  repeat' first|refine st ?_|((with_reducible first|apply A9|apply A8);(·first|exact hP|exact hN))|(with_reducible first|apply A5|apply A4)<;>intro _
  all_goals exact⟨rfl,rfl⟩
 subst g1
 by_cases g2:k=2
 rotate_left
 ·rw[if_pos (.inr (.inl g2))] at hqq
  subst hqq
  refine A6z.goX A6 rfl ?_
  repeat' first|refine st ?_|((with_reducible first|apply A9|apply A8);(·first|exact hP|exact hN))|(with_reducible first|apply A5|apply A4)<;>intro _
  all_goals exact⟨rfl,rfl⟩
 subst g2
 by_cases g3:wk=cok
 ·rw[if_neg (by simp[g3])] at hqq
  subst hqq
  refine A6z.goX A6 rfl ?_
  repeat' first|refine st ?_|((with_reducible first|apply A9|apply A8);(·first|exact hP|exact hN))|(with_reducible first|apply A5|apply A4)<;>intro _
  all_goals exact⟨rfl,rfl⟩
 ·rw[if_pos (.inr (.inr g3))] at hqq
  subst hqq
  refine A6z.goX A6 rfl ?_
  repeat' first|refine st ?_|((with_reducible first|apply A9|apply A8);(·first|exact hP|exact hN))|(with_reducible first|apply A5|apply A4)<;>intro _
  all_goals exact⟨rfl,rfl⟩
theorem C0A(s:St)(h:s.x.ok)(hq:D7 s.x.t s.c=0)(row:List Vl)(hf:K6 row (kd (F3 s.x.t s.c).cs)=true):Pure Tryz.prog B4A [s.av,.d (.sl (D6 row))] (.d (.sl (D6 (bwV s.x.t s.c row)))):=by
 have hP:=B1c s h
 obtain⟨q1,q2,q3,q4,q5⟩:=A0d hq
 have hv:=m5.1 q1
 have hvT:=A7f hq
 obtain⟨hl,hb⟩:=A37 hf
 rw[S5] at hl
 have hl1:1<=row.length/\row.length<=12:=by have:=hvT.l1;have:=hvT.l2;omega
 have he:=Y5 row
 have hm:=A0H row
 obtain⟨q,hqq⟩:∃q,q=bwV s.x.t s.c row:=⟨_,rfl⟩
 rw[<- hqq]
 unfold bwV at hqq
 unfold plI at hP
 unfold F3 at hl
 by_cases k1:s.c.k=1
 ·rw[if_pos k1] at hqq hP hl
  dsimp only at hl
  rw[M7,A3A] at hl
  obtain⟨n,hn⟩:∃n,n=s.x.t.cs.length:=⟨_,rfl⟩
  rw[<- hn] at hqq hP hl
  obtain⟨d1,hd1⟩:∃z,z=((D6 row).drop (0:Int).toNat).take (((n:Nat):Int).toNat-(0:Int).toNat):=⟨_,rfl⟩
  have e1:d1=D6 q:=by rw[hd1,hqq];simp[A9B]
  have hC:=A6r d1 (by rw[e1,hqq,Y5,P8];omega) (by rw[e1];exact A0H _) (.sl d1) (.inr rfl)
  rw[<- e1]
  rw[hd1] at hC ⊢
  clear hqq hf hb hq q1 q3 q4 q5 hv h e1 hd1 hvT
  obtain⟨⟨⟨nm,cs,ks,fs,xs⟩,dc,dk,df,dx⟩,y,⟨ck,cnm,to,⟨cn,cck,cl⟩,⟨vk,vn,vs⟩⟩⟩:=s
  dsimp only at k1
  subst k1
  refine A6y.go A6 rfl ?_
  repeat' first|refine st ?_|((with_reducible first|apply A9|apply A8);(·first|exact hP|exact hC))|(with_reducible first|apply A5|apply A4)<;>intro _
  all_goals rfl
 ·obtain⟨i,co,hi,hco,hcn,hus,h4,h3⟩:=A1L (q5 k1)
  have hil:=(B2.1 hco).1
  rw[if_neg k1,hi,K8] at hqq
  rw[if_neg k1,hi] at hP
  rw[if_neg k1,hi,K8] at hl
  by_cases k2:s.c.k=2
  ·rw[if_pos k2] at hqq hl
   dsimp only at hl
   rw[A1D,if_pos hil] at hl
   obtain⟨d1,hd1⟩:∃z,z=((D6 row).drop (0:Int).toNat).take (((i:Nat):Int).toNat-(0:Int).toNat):=⟨_,rfl⟩
   obtain⟨d2,hd2⟩:∃z,z=((D6 row).drop (((i:Nat):Int)).toNat).take (((D6 row).length:Int).toNat-(((i:Nat):Int)).toNat):=⟨_,rfl⟩
   have e1:d1=D6 (row.take i):=by rw[hd1];simp[A9B]
   have e2:d2=D6 (row.drop i):=by
    rw[hd2,K8,K8,P2 (by rw[w3];exact I4 _),B6c]
   have hT:=C05 (.sl d1) (.sl [K4.ds]) (.sl d2) d1 [K4.ds] d2 O7 O7 O7 (by rw[e1];exact A0H _) (λe he=>by cases Z3.1 he;rfl) (by rw[e2];exact A0H _) (by rw[e1,e2,Y5,Y5,P8,w3,A3A];omega)
   have hj:jn (d1++[K4.ds]++d2)=.sl (D6 q):=by
    have e:d1++[K4.ds]++d2=D6 q:=by
     rw[e1,e2,hqq,show row.take i++K4::row.drop i=row.take i++[K4]++row.drop i by simp,<- A7d,<- A7d];rfl
    rw[e]
    unfold jn B9
    rw[decide_eq_false,if_neg (by decide)]
    rw[Y5,hqq];simp
   rw[hj,hd1,hd2] at hT
   have hN:=A3t
   clear hj hqq hf hb hq q1 q3 q4 q5 hv h e1 e2 hd1 hd2 hvT
   obtain⟨⟨⟨nm,cs,ks,fs,xs⟩,dc,dk,df,dx⟩,y,⟨ck,cnm,to,⟨cn,cck,cl⟩,⟨vk,vn,vs⟩⟩⟩:=s
   dsimp only at k2 hl hil
   subst k2
   refine A6y.go A6 rfl ?_
   repeat' first|refine st ?_|((with_reducible first|apply A9|apply A8);(·first|exact hP|exact hN|exact hT))|(with_reducible first|apply A5|apply A4)<;>intro _
   all_goals rfl
  ·rw[if_neg k2] at hqq hl
   have hl:row.length=s.x.t.cs.length:=by
    rw[hl];split<;>simp
   by_cases k4:s.c.k=4
   ·rw[if_pos k4] at hqq
    obtain⟨v,hw⟩:∃v,row[i]?=some v:=⟨_,C5 (by omega)⟩
    have hgd:row.getD i K4=v:=by rw[F7,hw];rfl
    have hck:A0D s.x.t (i:Int)=co.k:=by unfold A0D;rw[K8,hco]
    rw[hgd,hck] at hqq
    have hc1:=B9U s h q1 i co hco (D6 row) v (by have:=hb v (C3 hw);omega)
    have hX:=C0y A8Q _ _ (D6 row) (by omega) hm i v (bkV co.k v) (A5u hw) hc1
    rw[B6d,<- hqq] at hX
    have hql:(D6 q).length=(D6 row).length:=by rw[hqq,Y5,Y5,V3]
    clear hqq hf hb hq q1 q3 q4 q5 hv h hgd hc1 hvT
    obtain⟨⟨⟨nm,cs,ks,fs,xs⟩,dc,dk,df,dx⟩,y,⟨ck,cnm,to,⟨cn,cck,cl⟩,⟨vk,vn,vs⟩⟩⟩:=s
    dsimp only at k4
    subst k4
    refine A6y.go A6 rfl ?_
    repeat' first|refine st ?_|((with_reducible first|apply A9|apply A8);(·exact hP))|((with_reducible first|apply I6|apply D5);(·exact hX);(try rintro _ _ ⟨rfl,rfl⟩))|((with_reducible apply I7);(·exact hX))|((with_reducible apply H6);refine st ?_;(with_reducible apply I5);(·exact rfl);refine st ?_;(with_reducible apply D5);(·exact hX);(try rintro _ _ ⟨rfl,rfl⟩))|(with_reducible first|apply A5|apply A4)<;>intro _
    all_goals first|rfl|exact⟨hql,rfl⟩
   ·rw[if_neg k4] at hqq
    subst hqq
    have hC:=A6r (D6 q) (by omega) hm (.sl (D6 q)) (.inr rfl)
    clear hf hb hq q1 q3 q4 q5 hv h hvT
    obtain⟨⟨⟨nm,cs,ks,fs,xs⟩,dc,dk,df,dx⟩,y,⟨ck,cnm,to,⟨cn,cck,cl⟩,⟨vk,vn,vs⟩⟩⟩:=s
    dsimp only at k1 k2 k4
    refine A6y.go A6 rfl ?_
    repeat' first|refine st ?_|((with_reducible first|apply A9|apply A8);(·first|exact hP|exact hC))|(with_reducible first|apply A5|apply A4)<;>intro _
    all_goals rfl
theorem D1C{dr:D}{row:List Vl}(h:B8 dr (D6 row))(h1:1<=row.length):dr=.sl (D6 row):=by
 rcases h with ⟨_,h⟩|h
 ·rw[<- Y5,h] at h1;cases h1
 ·exact h
theorem D2i{x:TD}{c:Ch}(hq:D7 x.t c=0):(x.to c).t=F3 x.t c:=by unfold TD.to;rw[if_pos hq];rfl
def T9(S:List St)(row:List Vl):List Vl:=S.foldl (λr s=>k9 s.x.t s.c r) row
def m9(S:List St)(row:List Vl):List Vl:=S.foldr (λs r=>bwV s.x.t s.c r) row
theorem A9U(S:List St)(a p:Nat)(s:St)(row:List Vl)(hap:a<=p)(h:S[p]?=some s):T9 ((S.drop a).take (p+1-a)) row=k9 s.x.t s.c (T9 ((S.drop a).take (p-a)) row):=by
 have e:(S.drop a)[p-a]?=some s:=by rw[A0Y,show a+(p-a)=p by omega];exact h
 unfold T9
 rw[show p+1-a=(p-a)+1 by omega,S0,e,A3y]
 rfl
theorem A9g(S:List St)(a p:Nat)(s:St)(row:List Vl)(hpa:p<a)(h:S[p]?=some s):m9 ((S.drop p).take (a-p)) row=bwV s.x.t s.c (m9 ((S.drop (p+1)).take (a-(p+1))) row):=by
 obtain⟨hlt,he⟩:=B2.1 h
 rw[V2 hlt,he,show a-p=(a-(p+1))+1 by omega,A2N]
 rfl
theorem C9r(S:List St)(a:Nat)(row:List Vl):T9 ((S.drop a).take (a-a)) row=row:=by simp[T9]
theorem C7J(S:List St)(a:Nat)(row:List Vl):m9 ((S.drop a).take (a-a)) row=row:=by simp[m9]
def vK(x:TD)(l:List Ch)(i:Nat):List Int:=kd (O1 x (l.take i)).t.cs
theorem A7Y{x:TD}{l:List Ch}{i:Nat}{c:Ch}(hb:N4 x l=true)(h:l[i]?=some c):vK x l (i+1)=kd (F3 (O1 x (l.take i)).t c).cs:=by
 unfold vK
 rw[A7U h,A5k,D2i (A2y hb h)]
theorem A9L{x:TD}{l:List Ch}(hb:N4 x l=true){a:Nat}{row:List Vl}(hf:K6 row (vK x l a)=true):∀k,a+k<=l.length->K6 (T9 (((J9 x l).drop a).take k) row) (vK x l (a+k))=true
 |0,_=>by simpa[T9] using hf
 |k+1,hk=>by
  have ih:=A9L hb hf k (by omega)
  obtain⟨c,hc⟩:∃c,l[a+k]?=some c:=⟨_,C5 (by omega)⟩
  have hs:=A9U (J9 x l) a (a+k) _ row (by omega) (A0U (x:=x) hc)
  rw[show a+k+1-a=k+1 by omega,show a+k-a=k by omega] at hs
  rw[hs,show a+(k+1)=a+k+1 by omega,A7Y hb hc]
  exact C9h (A2y hb hc) ih
theorem A9K{x:TD}{l:List Ch}(hb:N4 x l=true){a:Nat}(ha:a<=l.length){row:List Vl}(hf:K6 row (vK x l a)=true):∀k,k<=a->K6 (m9 (((J9 x l).drop (a-k)).take k) row) (vK x l (a-k))=true
 |0,_=>by simpa[m9] using hf
 |k+1,hk=>by
  have ih:=A9K hb ha hf k (by omega)
  obtain⟨c,hc⟩:∃c,l[a-(k+1)]?=some c:=⟨_,C5 (by omega)⟩
  have hs:=A9g (J9 x l) a (a-(k+1)) _ row (by omega) (A0U (x:=x) hc)
  rw[show a-(a-(k+1))=k+1 by omega,show a-(a-(k+1)+1)=k by omega,show a-(k+1)+1=a-k by omega] at hs
  rw[hs]
  have h2:=A7Y hb hc
  rw[show a-(k+1)+1=a-k by omega] at h2
  rw[h2] at ih
  exact C9f (A2y hb hc) ih
theorem B6I{x:TD}{l:List Ch}(hb:N4 x l=true){a p:Nat}{row:List Vl}(hf:K6 row (vK x l a)=true)(hap:a<=p)(hp:p<=l.length):K6 (T9 (((J9 x l).drop a).take (p-a)) row) (vK x l p)=true:=by
 have:=A9L hb hf (p-a) (by omega)
 rwa [show a+(p-a)=p by omega] at this
theorem B6H{x:TD}{l:List Ch}(hb:N4 x l=true){a p:Nat}{row:List Vl}(hf:K6 row (vK x l a)=true)(hap:p<=a)(ha:a<=l.length):K6 (m9 (((J9 x l).drop p).take (a-p)) row) (vK x l p)=true:=by
 have:=A9K hb ha hf (a-p) (by omega)
 rwa [show a-(a-p)=p by omega] at this
def t8(x:TD)(l:List Ch)(a b:Nat)(row:List Vl):List Vl:=if a<=b then T9 (((J9 x l).drop a).take (b-a)) row else m9 (((J9 x l).drop b).take (a-b)) row
def A0E(x:TD)(l:List Ch)(a b:Int)(row:List Vl):D:=
 if R0 x l=false\/a<0\/b<0\/(l.length:Int)<a\/(l.length:Int)<b\/K6 row (vK x l a.toNat)=false then .nil
 else .sl (D6 (t8 x l a.toNat b.toNat row))
theorem C9g{x:TD}{l:List Ch}(hb:N4 x l=true){a b:Nat}(ha:a<=l.length)(hbl:b<=l.length){row:List Vl}(hf:K6 row (vK x l a)=true):K6 (t8 x l a b row) (vK x l b)=true:=by
 unfold t8
 split
 ·exact B6I hb hf (by omega) hbl
 ·exact B6H hb hf (by omega) ha
theorem B91{x:TD}{l:List Ch}(hq:H8 x.t=0)(hb:N4 x l=true){i:Nat}(hi:i<=l.length):1<=(vK x l i).length/\(vK x l i).length<=12:=by
 have h:=m5.1 (B0C hq hb i hi)
 unfold vK
 rw[S5]
 exact⟨h.l1,h.l2⟩
theorem B9u(s:St)(h:s.x.ok)(hq:D7 s.x.t s.c=0)(row:List Vl)(hf:K6 row (kd s.x.t.cs)=true):B4 Tryz.prog A8M [s.av,.ptr 0 0] [.cells [.d (.sl (D6 row))]] (λr os=>r=.tup []/\os=[.cells [.d (.sl (D6 (k9 s.x.t s.c row)))]]):=by
 have hI:=C0B s h hq row hf
 obtain⟨q,hqq⟩:∃q,q=D6 (k9 s.x.t s.c row):=⟨_,rfl⟩
 rw[<- hqq] at hI ⊢
 clear hqq h hf hq
 obtain⟨⟨⟨nm,cs,ks,fs,xs⟩,dc,dk,df,dx⟩,y,⟨ck,cnm,to,⟨cn,cck,cl⟩,⟨vk,vn,vs⟩⟩⟩:=s
 refine C2u.goX A6 rfl ?_
 repeat' first|refine st ?_|((with_reducible first|apply A9|apply A8);(·exact hI))|(with_reducible first|apply A5|apply A4)<;>intro _
 all_goals exact⟨rfl,rfl⟩
theorem B9v(s:St)(h:s.x.ok)(hq:D7 s.x.t s.c=0)(row:List Vl)(hf:K6 row (kd (F3 s.x.t s.c).cs)=true):B4 Tryz.prog A8N [s.av,.ptr 0 0] [.cells [.d (.sl (D6 row))]] (λr os=>r=.tup []/\os=[.cells [.d (.sl (D6 (bwV s.x.t s.c row)))]]):=by
 have hI:=C0A s h hq row hf
 obtain⟨q,hqq⟩:∃q,q=D6 (bwV s.x.t s.c row):=⟨_,rfl⟩
 rw[<- hqq] at hI ⊢
 clear hqq h hf hq
 obtain⟨⟨⟨nm,cs,ks,fs,xs⟩,dc,dk,df,dx⟩,y,⟨ck,cnm,to,⟨cn,cck,cl⟩,⟨vk,vn,vs⟩⟩⟩:=s
 refine C2v.goX A6 rfl ?_
 repeat' first|refine st ?_|((with_reducible first|apply A9|apply A8);(·exact hI))|(with_reducible first|apply A5|apply A4)<;>intro _
 all_goals exact⟨rfl,rfl⟩
theorem B1a(x:TD)(h:x.ok)(l:List Ch)(hl:l.length<=1048576)(hls:∀c∈l,I1 c)(d:D)(hd:B8 d (I2 l))(a b:Int)(row:List Vl)(hr:row.length<=1048576)(hrs:∀v∈row,v.s.length<=1048576)(dr:D)(hdr:B8 dr (D6 row)) :
  Pure Tryz.prog A6S [x.av,.d d,.d (eI a),.d (eI b),.d dr] (.d (A0E x l a b row)):=by
 have hS:=B1d x h l hl hls d hd
 have hT:=B1b x h l hl hls d hd
 have h1:=A2i l
 obtain⟨q,hq⟩:∃q,q=A0E x l a b row:=⟨_,rfl⟩
 rw[<- hq]
 unfold A0E at hq
 unfold A6h at hT
 obtain⟨es,hes⟩:∃es,es=I2 l:=⟨_,rfl⟩
 rw[<- hes] at h1 hd
 cases hb:R0 x l with
 |false=>
  rw[hb] at hS hT hq
  rw[if_neg (by decide)] at hS hT
  rw[if_pos (.inl rfl)] at hq
  subst hq
  clear hb hd h
  obtain⟨⟨nm,cs,ks,fs,xs⟩,dc,dk,df,dx⟩:=x
  refine A2H.go A6 rfl ?_
  repeat' first|refine st ?_|((with_reducible first|apply A9|apply A8);(·exact hS))|(with_reducible first|apply A5|apply A4)<;>intro _
  all_goals rfl
 |true=>
  rw[hb] at hS hT hq
  rw[if_pos rfl] at hS hT
  have hbs:H8 x.t=0/\N4 x l=true:=by
   unfold R0 at hb
   rw[K7] at hb
   exact⟨of_decide_eq_true hb.1,hb.2⟩
  simp only[Bool.true_eq_false,false_or] at hq
  by_cases g1:a<0
  ·rw[if_pos (.inl g1)] at hq
   subst hq
   clear hb hd h
   obtain⟨⟨nm,cs,ks,fs,xs⟩,dc,dk,df,dx⟩:=x
   refine A2H.go A6 rfl ?_
   repeat' first|refine st ?_|((with_reducible first|apply A9|apply A8);(·exact hS))|(with_reducible first|apply A5|apply A4)<;>intro _
   all_goals rfl
  by_cases g2:b<0
  ·rw[if_pos (.inr (.inl g2))] at hq
   subst hq
   clear hb hd h
   obtain⟨⟨nm,cs,ks,fs,xs⟩,dc,dk,df,dx⟩:=x
   refine A2H.go A6 rfl ?_
   repeat' first|refine st ?_|((with_reducible first|apply A9|apply A8);(·exact hS))|(with_reducible first|apply A5|apply A4)<;>intro _
   all_goals rfl
  by_cases g3:(l.length:Int)<a
  ·rw[if_pos (.inr (.inr (.inl g3)))] at hq
   subst hq
   have g3':(es.length:Int)<a:=by omega
   clear hb h
   obtain⟨⟨nm,cs,ks,fs,xs⟩,dc,dk,df,dx⟩:=x
   refine A2H.go A6 rfl ?_
   repeat' first|refine st ?_|((with_reducible first|apply A9|apply A8);(·exact hS))|(with_reducible first|apply A5|apply A4)<;>intro _
   all_goals rfl
  by_cases g4:(l.length:Int)<b
  ·rw[if_pos (.inr (.inr (.inr (.inl g4))))] at hq
   subst hq
   have g4':(es.length:Int)<b:=by omega
   clear hb h
   obtain⟨⟨nm,cs,ks,fs,xs⟩,dc,dk,df,dx⟩:=x
   refine A2H.go A6 rfl ?_
   repeat' first|refine st ?_|((with_reducible first|apply A9|apply A8);(·exact hS))|(with_reducible first|apply A5|apply A4)<;>intro _
   all_goals rfl
  obtain⟨a,rfl⟩:∃n:Nat,a=n:=⟨a.toNat,by omega⟩
  obtain⟨b,rfl⟩:∃n:Nat,b=n:=⟨b.toNat,by omega⟩
  have ga:a<=l.length:=by omega
  have gb:b<=l.length:=by omega
  rw[K8,K8] at hq
  have hv:=B6b (B8R x l a ga)
  have hvok:=TD.cp_ok (A3P (l.take a) h λc hc=>hls c (A27 hc))
  have hK:=B1j (O1 x (l.take a)).cp.t.nm (O1 x (l.take a)).cp.t.cs hvok.tok.hl (O1 x (l.take a)).cp.dc (O1 x (l.take a)).cp.dk (O1 x (l.take a)).cp.df (O1 x (l.take a)).cp.dx hvok.tok.dc
  have hvk:vK x l a=kd (O1 x (l.take a)).cp.t.cs:=rfl
  have hF:=C1m row (vK x l a) hr (by rw[hvk,S5];have:=hvok.tok.hl;omega) hrs dr hdr _ (B7b (O1 x (l.take a)).cp.t.cs)
  have hTl:=A9z (r7 x l)
  have hTm:=A9A (r7 x l)
  have hTl2:(r7 x l).length=l.length+1:=by unfold r7;rw[L0,C7,A4k]
  obtain⟨v,hvv⟩:∃v,v=(O1 x (l.take a)).cp:=⟨_,rfl⟩
  rw[<- hvv] at hv hK hF
  obtain⟨Ts,hTs⟩:∃z,z=eTs (r7 x l):=⟨_,rfl⟩
  rw[<- hTs] at hT hv hTl hTm
  have hv2:Ts[((a:Nat):Int).toNat]?=_:=hv
  have ht1:(a:Int)<Ts.length:=by omega
  cases g6:K6 row (vK x l a) with
  |false=>
   rw[g6] at hq hF
   rw[if_pos (.inr (.inr (.inr (.inr rfl))))] at hq
   subst hq
   clear hb h hbs hvk hvv hvok
   obtain⟨⟨nm,cs,ks,fs,xs⟩,dc,dk,df,dx⟩:=x
   refine A2H.go A6 rfl ?_
   repeat' first|refine st ?_|((with_reducible first|apply A9|apply A8);(·first|exact hS|exact hT|exact hK|exact hF))|(with_reducible first|apply A5|apply A4)<;>intro _
   all_goals rfl
  |true=>
   rw[g6] at hq hF
   rw[if_neg (by rintro(e|e|e|e|e)<;>first|omega|cases e)] at hq
   have hrl:=(A37 g6).1
   have hne:=B91 hbs.1 hbs.2 ga
   have hdd:=D1C hdr (by omega)
   subst hdd
   have hmr:=A0H row
   have hCl:=A6r (D6 row) (by rw[Y5];omega) hmr (.sl (D6 row)) (.inr rfl)
   have hSl:=A4k l x
   obtain⟨S,hSS⟩:∃S,S=J9 x l:=⟨_,rfl⟩
   have hcv:t8 x l a b row=if a<=b then T9 ((S.drop a).take (b-a)) row else m9 ((S.drop b).take (a-b)) row:=by rw[hSS];rfl
   rw[hcv] at hq
   have hff:=λp h1 h2=>B6I (p:=p) hbs.2 g6 h1 h2
   have hfb:=λp h1=>B6H (p:=p) hbs.2 g6 h1 ga
   rw[<- hSS] at hS hSl hff hfb
   have hSg:∀(i:Nat) s,S[i]?=some s->s.x.ok/\D7 s.x.t s.c=0/\kd s.x.t.cs=vK x l i/\kd (F3 s.x.t s.c).cs=vK x l (i+1):=λi s hs=>by
    have hi:=(B2.1 hs).1
    have hc:l[i]?=some (l[i]'(by omega)):=C5 (by omega)
    have h2:=A0U (x:=x) hc
    rw[<- hSS,hs] at h2
    rw[A03 h2]
    exact⟨A3P _ h λc hc=>hls c (A27 hc),A2y hbs.2 hc,rfl,(A7Y hbs.2 hc).symm⟩
   have hsd:B8 (B9 (S4 S).isEmpty (S4 S)) (S4 S):=V8 λe=>s5.1 e
   obtain⟨sd,hsd0⟩:∃z,z=B9 (S4 S).isEmpty (S4 S):=⟨_,rfl⟩
   rw[<- hsd0] at hS hsd
   obtain⟨z,hz⟩:∃z:Nat->D,z=λp=>if a<=p then .sl (D6 (T9 ((S.drop a).take (p-a)) row)) else .sl (D6 (m9 ((S.drop p).take (a-p)) row)):=⟨_,rfl⟩
   have hza:z a=.sl (D6 row):=by rw[hz];simp[T9]
   have hzf:∀p,a<=p->z p=.sl (D6 (T9 ((S.drop a).take (p-a)) row)):=λp hp=>by rw[hz];simp[hp]
   have hzb:∀p,p<=a->z p=.sl (D6 (m9 ((S.drop p).take (a-p)) row)):=λp hp=>by
    rw[hz]
    by_cases e:p=a
    ·subst e;simp[T9,m9]
    ·simp[show ¬a<=p by omega]
   have hW:=C0C A8M A8N S (by omega) sd hsd a b (by omega) (by omega) z (λi s h1 h2 h3=>by
     rw[hzf i h1,hzf (i+1) (by omega),A9U S a i s row h1 h3]
     obtain⟨k1,k2,k3,k4⟩:=hSg i s h3
     exact B9u s k1 k2 _ (by rw[k3];exact hff i h1 (by omega))) (λi s h1 h2 h3=>by
     rw[hzb i (by omega),hzb (i+1) (by omega),A9g S a i s row h2 h3]
     obtain⟨k1,k2,k3,k4⟩:=hSg i s h3
     exact B9v s k1 k2 _ (by rw[k4];exact hfb (i+1) (by omega)))
   have hzr:z b=q:=by
    rw[hq]
    by_cases hab:a<=b
    ·rw[if_pos hab,hzf b hab]
    ·rw[if_neg hab,hzb b (by omega)]
   rw[hza,hzr] at hW
   have hL:=fun {os:List AO} (ho:os[1]?=some (.cells [.d (.sl (D6 row))]))=>D06 (id:=1) hW ho
   clear hb h hbs hW hzf hzb hz hza hzr hq hSS hsd0 hcv hff hfb hvk hvv hvok hrl hne hSg
   obtain⟨⟨nm,cs,ks,fs,xs⟩,dc,dk,df,dx⟩:=x
   refine A2H.go A6 rfl ?_
   repeat' first|refine st ?_|((with_reducible first|apply A9|apply A8);(·first|exact hS|exact hT|exact hK|exact hF|exact hCl))|((with_reducible first|apply I6|apply D5);(·exact hL rfl);(try rintro _ _ ⟨rfl,rfl⟩))|((with_reducible apply I7);(·exact hL rfl))|((with_reducible apply H6);refine st ?_;(with_reducible apply I5);(·exact rfl);refine st ?_;(with_reducible apply D5);(·exact hL rfl);(try rintro _ _ ⟨rfl,rfl⟩))|(with_reducible first|apply A5|apply A4)<;>intro _
   all_goals rfl
def cvR(s:List En)(a b:Int)(row:List Vl):D×Int:=match s with
 |[]=>(.nil,11)
 |e::r=>if a<0\/b<0\/(r.length:Int)<a\/(r.length:Int)<b then (.nil,6) else if K6 row (vK e.cr (r.map En.ch) a.toNat)=false then (.nil,8) else (.sl (D6 (t8 e.cr (r.map En.ch) a.toNat b.toNat row)),0)
theorem C9x{nm:List UInt8}{e:En}{r:List En}(h:A4N nm (e::r)):R0 e.cr (r.map En.ch)=true:=by
 obtain⟨h1,h2,h3,h4,h5⟩:=h
 rw[<- B0x,<- (A4f e.cr (r.map En.ch)).1]
 exact h5
theorem C8u{e:En}{r:List En}{nm:List UInt8}(h:A4N nm (e::r)){a b:Int}(hab:¬(a<0\/b<0\/(r.length:Int)<a\/(r.length:Int)<b))(row:List Vl) :
  A0E e.cr (r.map En.ch) a b row=(cvR (e::r) a b row).1/\(cvR (e::r) a b row).2=(if K6 row (vK e.cr (r.map En.ch) a.toNat)=false then 8 else 0)/\(K6 row (vK e.cr (r.map En.ch) a.toNat)=true->∃es,(cvR (e::r) a b row).1=.sl es)/\(K6 row (vK e.cr (r.map En.ch) a.toNat)=false->(cvR (e::r) a b row).1=.nil):=by
 unfold A0E cvR
 dsimp only
 rw[if_neg hab,C9x h,C7]
 cases hf:K6 row (vK e.cr (r.map En.ch) a.toNat) with
 |false=>
  rw[if_pos rfl,if_pos (by simp)]
  exact⟨rfl,rfl,λh=>(by cases h),λ_=>rfl⟩
 |true=>
  have hn:¬(true=false\/a<0\/b<0\/(r.length:Int)<a\/(r.length:Int)<b\/true=false):=λh=>by
   rcases h with h|h|h|h|h|h
   ·cases h
   ·exact hab (.inl h)
   ·exact hab (.inr (.inl h))
   ·exact hab (.inr (.inr (.inl h)))
   ·exact hab (.inr (.inr (.inr h)))
   ·cases h
  rw[if_neg hn,if_neg (show ¬(true=false) by decide)]
  exact⟨rfl,rfl,λ_=>⟨_,rfl⟩,λh=>(by cases h)⟩
theorem B9X(c:List En)(hi:Inv c)(hc:c.length<=1048576)(hok:∀e∈c,e.ok)(d:D)(hd:B8 d (E8 c))(nm:List UInt8)(a b:Int)(row:List Vl)(hr:row.length<=1048576)(hrs:∀v∈row,v.s.length<=1048576)(dr:D)(hdr:B8 dr (D6 row)) :
  Pure Tryz.prog A6N [.d d,.d (.str nm),.d (eI a),.d (eI b),.d dr] (.tup [.d (cvR (H7 F9 nm c) a b row).1,.d (eI (cvR (H7 F9 nm c) a b row).2)]):=by
 have hS:=A8d A54 F9 nm (T5 F9 nm) (B1m F9 nm) c hc d hd
 have hsl:=B8C F9 nm c
 have hso:=A6b (at':=F9) (nm:=nm) hok
 have hg:=hi.sel nm
 rw[show c.filter (T5 F9 nm)=H7 F9 nm c from rfl] at hS
 obtain⟨s,hs⟩:∃s,s=H7 F9 nm c:=⟨_,rfl⟩
 rw[<- hs] at hS hsl hso hg ⊢
 clear hs
 have hH:=B12 s (by omega) (B9 (E8 s).isEmpty (E8 s)) (V8 λe=>s5.1 e)
 cases s with
 |nil=>
  have hS:Bi.Pure Tryz.prog A8D [.d d,.d (bnE A54 F9 nm)] (.d .nil):=hS
  have hH:Bi.Pure Tryz.prog A8C [.d .nil] (.tup [P1.av,.d .nil,.d (.bool false)]):=hH
  refine A6w.go A6 rfl ?_
  repeat' first|refine st ?_|((with_reducible first|apply A9|apply A8);(·first|exact hS|exact hH))|(with_reducible first|apply A5|apply A4)<;>intro _
  all_goals rfl
 |cons e r=>
  obtain⟨a1,a2,a3,a4,a5,a6⟩:=B71 hg
  have hx:=(hso e (by simp)).cr
  have hco:∀k∈r.map En.ch,I1 k:=λk hk=>by
   obtain⟨y,hy,rfl⟩:=E6.1 hk
   exact(hso y (by simp[hy])).ch
  have hrl:(r.map En.ch).length<=1048576:=by rw[C7];simp at hsl;omega
  rw[a1,a2,a3] at hH
  have hM:=B1a e.cr hx (r.map En.ch) hrl hco (B9 (I2 (r.map En.ch)).isEmpty (I2 (r.map En.ch))) (V8 λe=>s5.1 e) a b row hr hrs dr hdr
  have hkl:(I2 (r.map En.ch)).length=r.length:=by rw[A2i,C7]
  have hkd:B8 (B9 (I2 (r.map En.ch)).isEmpty (I2 (r.map En.ch))) (I2 (r.map En.ch)):=V8 λe=>s5.1 e
  obtain⟨de,hde⟩:∃z,z=B9 (E8 (e::r)).isEmpty (E8 (e::r)):=⟨_,rfl⟩
  rw[<- hde] at hS hH
  have hcv:=@C8u e r nm hg a b
  obtain⟨q,hq⟩:∃q,q=cvR (e::r) a b row:=⟨_,rfl⟩
  rw[<- hq]
  obtain⟨dl,hdl⟩:∃z,z=B9 (I2 (r.map En.ch)).isEmpty (I2 (r.map En.ch)):=⟨_,rfl⟩
  rw[<- hdl] at hH hM hkd
  obtain⟨es,hes⟩:∃z,z=I2 (r.map En.ch):=⟨_,rfl⟩
  rw[<- hes] at hkl hkd
  by_cases hab:a<0\/b<0\/(r.length:Int)<a\/(r.length:Int)<b
  ·have hq:q=(.nil,6):=by rw[hq];unfold cvR;exact if_pos hab
   subst hq
   clear hM hcv hso hx hco hg a1 a2 a3 a4 a5 a6 hde hdl hes
   obtain⟨tm,tb,⟨⟨xnm,cs,ks,fs,xs⟩,dc,dk,df,dx⟩,ch⟩:=e
   have hab:a<0\/(0<=a/\b<0)\/(0<=a/\0<=b/\(es.length:Int)<a)\/(0<=a/\0<=b/\a<=es.length/\(es.length:Int)<b):=by omega
   refine A6w.go A6 rfl ?_
   rcases hab with h|⟨h,h1⟩|⟨h,h1,h2⟩|⟨h,h1,h2,h3⟩
   all_goals skip
   all_goals repeat' first|refine st ?_|((with_reducible first|apply A9|apply A8);(·first|exact hS|exact hH))|(with_reducible first|apply A5|apply A4)<;>intro _
   all_goals rfl
  ·obtain⟨b1,b2,b3,b4⟩:=hcv hab row
   rw[<- hq] at b1 b2 b3 b4
   rw[b1] at hM
   obtain⟨q1,q2⟩:=q
   dsimp only at b1 b2 b3 b4 hM ⊢
   clear hcv hso hx hco hg a1 a2 a3 a4 a5 a6 hde hdl hes hq b1
   obtain⟨f,hf⟩:∃z,z=K6 row (vK e.cr (r.map En.ch) a.toNat):=⟨_,rfl⟩
   rw[<- hf] at b2 b3 b4
   clear hf
   obtain⟨tm,tb,⟨⟨xnm,cs,ks,fs,xs⟩,dc,dk,df,dx⟩,ch⟩:=e
   have g1:0<=a:=by omega
   have g2:0<=b:=by omega
   have g3:a<=es.length:=by omega
   have g4:b<=es.length:=by omega
   cases f with
   |false=>
    have b4:=b4 rfl
    rw[if_pos rfl] at b2
    subst b4
    subst b2
    refine A6w.go A6 rfl ?_
    repeat' first|refine st ?_|((with_reducible first|apply A9|apply A8);(·first|exact hS|exact hH|exact hM))|(with_reducible first|apply A5|apply A4)<;>intro _
    all_goals rfl
   |true=>
    obtain⟨vs,b3⟩:=b3 rfl
    rw[if_neg (by decide)] at b2
    subst b3
    subst b2
    refine A6w.go A6 rfl ?_
    repeat' first|refine st ?_|((with_reducible first|apply A9|apply A8);(·first|exact hS|exact hH|exact hM))|(with_reducible first|apply A5|apply A4)<;>intro _
    all_goals rfl
abbrev w1:Vl:=⟨1,1,[]⟩
end Go.Proofs
end
