/- Texts of this claim, joined. No condition. -/
import Derived.Test.YtnhhopmldgpglaaGreatDoorQ7
set_option linter.unusedSimpArgs false
set_option linter.unusedVariables false
set_option maxRecDepth 10000
set_option maxHeartbeats 4000000
section
namespace Go.Proofs
open Go.Bi
theorem B7N{α:Type}{x:α}:∀{l:List α}{i:Nat},l.Nodup->¬x∈l->(l.set i x).Nodup
 |[],_,_,_=>by simp
 |a::l,0,h,hx=>by
  rw[A28] at h
  rw[List.set_cons_zero,A28]
  exact⟨λhm=>hx (by simp[hm]),h.2⟩
 |a::l,i+1,h,hx=>by
  rw[A28] at h
  rw[List.set_cons_succ,A28]
  refine⟨λhm=>?_,B7N h.2 λhm=>hx (by simp[hm])⟩
  rcases A8q hm with hm|rfl
  ·exact h.1 hm
  ·exact hx (by simp)
theorem B7M{α β:Type}{f:α->β}:∀{l:List α},(∀a∈l,∀b∈l,f a=f b->a=b)->l.Nodup->(l.map f).Nodup
 |[],_,_=>by simp
 |a::l,hf,h=>by
  rw[A28] at h
  rw[R6,A28]
  refine⟨λhm=>?_,B7M (λx hx y hy=>hf x (by simp[hx]) y (by simp[hy])) h.2⟩
  obtain⟨b,hb,e⟩:=E6.1 hm
  have:=hf b (by simp[hb]) a (by simp) e
  subst this
  exact h.1 hb
theorem B88{f:Int->Int}:∀{l:List Int},(∀a∈l,∀b∈l,a<b->f a<f b)->l.Pairwise (·<·)->(l.map f).Pairwise (·<·)
 |[],_,_=>by simp
 |a::l,hf,h=>by
  rw[List.pairwise_cons] at h
  rw[R6,List.pairwise_cons]
  refine⟨λb hb=>?_,B88 (λx hx y hy=>hf x (by simp[hx]) y (by simp[hy])) h.2⟩
  obtain⟨y,hy,rfl⟩:=E6.1 hb
  exact hf a (by simp) y (by simp[hy]) (h.1 y hy)
theorem C7r{i:Nat}{a b:Int}(ha:a≠i)(hb:b≠i)(h:a<b):B0 a i<B0 b i:=by unfold B0;split<;>split<;>omega
theorem C7q{i:Nat}{a b:Int}(ha:a≠i)(hb:b≠i)(h:B0 a i=B0 b i):a=b:=by unfold B0 at h;split at h<;>split at h<;>omega
theorem B5t{i n:Nat}{a:Int}(hi:i<n)(ha:a≠i)(h0:0<=a)(h1:a<n):0<=B0 a i/\B0 a i<((n-1:Nat):Int):=by unfold B0;split<;>omega
theorem C8d(l:List Co)(i:Nat){n:Int}(h0:0<=n)(hne:n≠i):(l.eraseIdx i).getD (B0 n i).toNat ⟨[],0,false⟩=l.getD n.toNat ⟨[],0,false⟩:=by
 rw[F7,F7,A3z]
 unfold B0
 by_cases h:(i:Int)<n
 ·rw[if_pos h,if_neg (by omega)]
  congr 2
  omega
 ·rw[if_neg h,if_pos (by omega)]
theorem B6G{t:Tb}(h:H8 t=0){nm:List UInt8}(hf:D8 nm t.cs<0):¬nm∈t.cs.map Co.nm:=by
 intro hm
 obtain⟨c,hc,rfl⟩:=E6.1 hm
 obtain⟨i,hi⟩:=A12.1 hc
 rw[C9e (B8Q h).2.1 hi] at hf
 omega
theorem A7f{t:Tb}{c:Ch}(h:D7 t c=0):Vd (F3 t c):=by
 obtain⟨q1,q2,q3,q4,q5⟩:=A0d h
 have hv:=m5.1 q1
 have hcp:∀ks,(∀x∈t.xs,F8 ks x=F8 (kd t.cs) x)->∀x∈t.xs.map F6,L5 x<=24/\(F8 ks x).2=0/\((F8 ks x).1=3\/(F8 ks x).1=0):=λks hk x hx=>by
  obtain⟨a,ha,rfl⟩:=E6.1 hx
  rw[B60,B5Z,hk a ha]
  exact hv.xs a ha
 by_cases k1:c.k=1
 ·obtain⟨a1,a2,a3,a4,_⟩:=B5d (q4 k1)
  have e:F3 t c=⟨t.nm,t.cs++[c.co],t.ks,t.fs,t.xs.map F6⟩:=by unfold F3;rw[if_pos k1]
  rw[e]
  refine⟨hv.nm,by rw[M7];simp,by rw[M7];simp;omega,λx hx=>?_,?_,hv.k0,λk hk=>?_,hv.ka,hv.fl,λf hf=>?_,by rw[C7];exact hv.xl,?_⟩
  ·rcases R3.1 hx with hx|hx
   ·exact hv.co x hx
   ·cases Z3.1 hx;exact⟨a2,a3⟩
  ·rw[A11,List.map_singleton,List.nodup_append]
   refine⟨hv.nd,by simp,λa ha b hb=>?_⟩
   cases Z3.1 hb
   intro e
   subst e
   exact B6G q1 a4 ha
  ·obtain⟨b1,b2,b3⟩:=hv.ks k hk
   refine⟨b1,by rw[M7];simp;omega,?_⟩
   rw[F7,J5 (by omega),<- F7]
   exact b3
  ·obtain⟨b1,b2,b3,b4⟩:=hv.fs f hf
   exact⟨b1,b2,λk hk=>by have:=b3 k hk;rw[M7];simp;omega,b4⟩
  ·have ek:kd (t.cs++[c.co])=kd t.cs++[c.co.k]:=by simp[kd]
   dsimp only
   rw[ek]
   exact hcp _ λx hx=>C85 _ x (hv.xs x hx).2.1
 ·obtain⟨i,co,hi,hco,hcn,hus,h4,h3⟩:=A1L (q5 k1)
  have hil:=(B2.1 hco).1
  have hiN:(D8 c.nm t.cs).toNat=i:=by omega
  have hgd:t.cs.getD i ⟨[],0,false⟩=co:=by rw[F7,hco];rfl
  by_cases k2:c.k=2
  ·have e:F3 t c=⟨t.nm,t.cs.eraseIdx i,t.ks.map (λx=>B0 x i),t.fs.map (I0 i),t.xs.map (T8 i)⟩:=by unfold F3;rw[if_neg k1,if_pos k2,hiN]
   have hu:=hus (by omega)
   unfold y0 at hu
   simp only[R3,not_or] at hu
   have u1:∀k∈t.ks,k≠i:=λk hk e=>hu.1.1 (e▸hk)
   have u2:∀f∈t.fs,∀k∈f.cs,k≠i:=λf hf k hk e=>hu.1.2 (A3B.2 ⟨f,hf,e▸hk⟩)
   have u3:∀x∈t.xs,¬(i:Int)∈M5 x:=λx hx hm=>hu.2 (A3B.2 ⟨x,hx,(A9s x i).2 hm⟩)
   have hlen:(t.cs.eraseIdx i).length=t.cs.length-1:=by rw[A1D,if_pos hil]
   have hk2:∀k∈t.ks,0<=B0 k i/\B0 k i<(t.cs.eraseIdx i).length:=λk hk=>by
    obtain⟨b1,b2,b3⟩:=hv.ks k hk
    rw[hlen]
    exact B5t hil (u1 k hk) b1 b2
   have hl1:=hv.l2
   rw[e]
   refine⟨hv.nm,?_,by rw[hlen];omega,λx hx=>hv.co x (A8p hx),?_,λe=>hv.k0 (List.map_eq_nil_iff.1 e),λk hk=>?_,?_,by rw[C7];exact hv.fl,λf hf=>?_,by rw[C7];exact hv.xl,λx hx=>?_⟩
   ·obtain⟨k,hk⟩:=List.exists_mem_of_ne_nil _ hv.k0
    have:=hk2 k hk
    dsimp only
    omega
   ·dsimp only
    rw[A7w]
    exact hv.nd.sublist (List.eraseIdx_sublist ..)
   ·obtain⟨a,ha,rfl⟩:=E6.1 hk
    obtain⟨b1,b2,b3⟩:=hv.ks a ha
    refine⟨(hk2 a ha).1,(hk2 a ha).2,?_⟩
    dsimp only
    rw[C8d _ _ b1 (u1 a ha)]
    exact b3
   ·exact B88 (λa ha b hb hab=>C7r (u1 a ha) (u1 b hb) hab) hv.ka
   ·obtain⟨g,hg,rfl⟩:=E6.1 hf
    obtain⟨b1,b2,b3,b4⟩:=hv.fs g hg
    refine⟨b1,λe=>b2 (List.map_eq_nil_iff.1 e),λk hk=>?_,B7M (λa ha b hb e=>C7q (u2 g hg a ha) (u2 g hg b hb) e) b4⟩
    obtain⟨a,ha,rfl⟩:=E6.1 hk
    dsimp only
    rw[hlen]
    exact B5t hil (u2 g hg a ha) (b3 a ha).1 (b3 a ha).2
   ·obtain⟨a,ha,rfl⟩:=E6.1 hx
    have ek:kd (t.cs.eraseIdx i)=(kd t.cs).eraseIdx i:=A7w _ _ _
    dsimp only
    rw[ek,C8H,C84 (by rw[S5];exact hil) a (hv.xs a ha).2.1 (u3 a ha)]
    exact hv.xs a ha
  ·have hset:∀n:Co,n.nl=co.nl->(L6 n.nm=true/\1<=n.k/\n.k<=3)->((t.cs.set i n).map Co.nm).Nodup->(∀x∈t.xs,F8 (kd (t.cs.set i n)) x=F8 (kd t.cs) x)->Vd ⟨t.nm,t.cs.set i n,t.ks,t.fs,t.xs.map F6⟩:=by
    intro n hn1 hn2 hn3 hn4
    refine⟨hv.nm,by rw[V3];exact hv.l1,by rw[V3];exact hv.l2,λx hx=>?_,hn3,hv.k0,λk hk=>?_,hv.ka,hv.fl,λf hf=>?_,by rw[C7];exact hv.xl,hcp _ hn4⟩
    ·rcases A8q hx with hx|rfl
     ·exact hv.co x hx
     ·exact hn2
    ·obtain⟨b1,b2,b3⟩:=hv.ks k hk
     refine⟨b1,by rw[V3];exact b2,?_⟩
     by_cases hki:k.toNat=i
     ·dsimp only
      rw[F7,hki,A0Z hil,j0,hn1]
      rw[hki,hgd] at b3
      exact b3
     ·dsimp only
      rw[F7,P7 (λe=>hki e.symm),<- F7]
      exact b3
    ·obtain⟨b1,b2,b3,b4⟩:=hv.fs f hf
     exact⟨b1,b2,λk hk=>by have:=b3 k hk;rw[V3];exact this,b4⟩
   have hcm:=hv.co co (C3 hco)
   by_cases k3:c.k=3
   ·have e:F3 t c=⟨t.nm,t.cs.set i ⟨c.to,co.k,co.nl⟩,t.ks,t.fs,t.xs.map F6⟩:=by unfold F3;rw[if_neg k1,if_neg k2,if_pos k3,hiN,hgd]
    rw[e]
    refine hset ⟨c.to,co.k,co.nl⟩ rfl ⟨(h3 k3).1,hcm.2⟩ ?_ λx hx=>?_
    ·rw[X5]
     exact B7N hv.nd (B6G q1 (h3 k3).2)
    ·congr 1
     unfold kd
     rw[X5]
     refine A3w λj=>?_
     by_cases hj:i=j
     ·subst hj
      rw[A0Z (by rw[C7];exact hil),F4,hco];rfl
     ·rw[P7 hj]
   ·have k4:c.k=4:=by omega
    have e:F3 t c=⟨t.nm,t.cs.set i ⟨co.nm,2,co.nl⟩,t.ks,t.fs,t.xs.map F6⟩:=by unfold F3;rw[if_neg k1,if_neg k2,if_neg k3,hiN,hgd]
    have hu:=hus (by omega)
    unfold y0 at hu
    simp only[R3,not_or] at hu
    have u3:∀x∈t.xs,¬(i:Int)∈M5 x:=λx hx hm=>hu.2 (A3B.2 ⟨x,hx,(A9s x i).2 hm⟩)
    rw[e]
    refine hset ⟨co.nm,2,co.nl⟩ rfl ⟨hcm.1,(by decide:(1:Int)<=2),(by decide:(2:Int)<=3)⟩ ?_ λx hx=>?_
    ·have:(t.cs.set i ⟨co.nm,2,co.nl⟩).map Co.nm=t.cs.map Co.nm:=by
      rw[X5]
      refine A3w λj=>?_
      by_cases hj:i=j
      ·subst hj
       rw[A0Z (by rw[C7];exact hil),F4,hco];rfl
      ·rw[P7 hj]
     rw[this]
     exact hv.nd
    ·have ek:kd (t.cs.set i ⟨co.nm,2,co.nl⟩)=(kd t.cs).set i 2:=by unfold kd;rw[X5]
     rw[ek]
     exact C86 2 x (u3 x hx)
theorem C0P(t u:Tb)(dc dk df dx dc' dk' df' dx':D)(h:O0 t dc dk df dx)(h':O0 u dc' dk' df' dx')(e:nf t=nf u):Pure Tryz.prog A6L [eT t.nm dc dk df dx,eT u.nm dc' dk' df' dx'] (.d (.bool true)):=by
 obtain⟨nm,cs,ks,fs,xs⟩:=t
 obtain⟨nm',cs',ks',fs',xs'⟩:=u
 unfold nf at e
 injection e with e1 e2 e3 e4 e5
 dsimp only at e1 e2 e3 e4 e5
 subst e1;subst e2;subst e3
 have hI:=B1g ks h.hk dk dk' h.dk h'.dk
 have hfl:fs.length=fs'.length:=by rw[<- C7 (f:=M9),e4,C7]
 have hxl:xs.length=xs'.length:=by rw[<- C7 (f:=F6),e5,C7]
 have hX:=C0F xs xs' hxl h.hxs (λi x y hx hy=>by
  have e6:x8 x y=true:=by
   refine C8p x y ?_
   have a1:(xs.map F6)[i]?=some (F6 x):=by rw[F4,hx];rfl
   have a2:(xs'.map F6)[i]?=some (F6 y):=by rw[F4,hy];rfl
   rw[e5,a2] at a1
   exact(A03 a1).symm
  have b1:x.bk<=2097152:=P3 (h.hxb x (C3 hx)) (by decide)
  have b2:y.bk<=2097152:=P3 (h'.hxb y (C3 hy)) (by decide)
  have:=C0G x (B7i x b1) y (B7i y b2)
  rw[e6] at this
  exact this) dx dx' h.dx h'.dx
 have hdc:=h.dc
 have hdc':=h'.dc
 have hdf:=h.df
 have hdf':=h'.df
 have hl:=h.hl
 have hfl0:=h.hfl
 have hfc:=h.hfc
 have hcl:=G8 cs
 have hcm:=I3 cs
 have hgc:=λi c=>@M8 cs i c
 have hf1:=A1M fs
 have hf2:=A1M fs'
 have hf3:=A3U fs
 have hf4:=A3U fs'
 have hgf:=λi c=>@A3T fs i c
 have hgf':=λi c=>@A3T fs' i c
 dsimp only at hdc hdc' hdf hdf' hl hfl0 hfc hI
 obtain⟨Cs,hC⟩:∃x,x=B3 cs:=⟨_,rfl⟩
 obtain⟨Fs,hFs⟩:∃x,x=H9 fs:=⟨_,rfl⟩
 obtain⟨Fs',hFs'⟩:∃x,x=H9 fs':=⟨_,rfl⟩
 rw[<- hC] at hdc hdc' hcl hcm hgc
 rw[<- hFs] at hdf hf1 hf3 hgf
 rw[<- hFs'] at hdf' hf2 hf4 hgf'
 have r0:nm=nm:=rfl
 clear h h'
 refine C1T.go A6 rfl ?_
 repeat' first|refine st ?_|((with_reducible apply D1);conv=>whnf)|((with_reducible first|apply A9|apply A8);(·first|exact hI|exact hX))|(with_reducible first|apply A5|apply A4)<;>intro _
 refine G6 A6 C4k C3u (λ(i:Nat)=>[.d (eI i)]) (λi=>[.cells [.d (.str nm),.d dc,.d dk,.d df,.d dx],.cells [.d (.str nm),.d dc',.d dk',.d df',.d dx']]) (λi=>i<=cs.length) (λi=>cs.length-i) 0 rfl rfl rfl rfl (λ_ _=>⟨rfl,rfl⟩) rfl (by omega) ?_
 repeat' first|refine st ?_|((with_reducible apply D1);conv=>whnf)|(with_reducible first|apply A5|apply A4)<;>intro _
 intro i h4
 cases hx:cs[i]? with
 |some x=>
  have hlt:=(B2.1 hx).1
  obtain⟨n1,k1,l1⟩:=x
  have hg:=hgc i _ hx
  have hg':Cs[((i:Nat):Int).toNat]?=_:=hgc i _ hx
  have r1:n1=n1:=rfl
  have r2:k1=k1:=rfl
  have r3:l1=l1:=rfl
  repeat' first|refine st ?_|((with_reducible apply D1);conv=>whnf)|(with_reducible first|apply A5|apply A4)<;>intro _
  all_goals first|exact⟨i+1,rfl,rfl,rfl,by omega,by omega⟩|(exfalso;simp_all;done)
 |none=>
  have hge:=E4.1 hx
  repeat' first|refine st ?_|((with_reducible apply D1);conv=>whnf)|(with_reducible first|apply A5|apply A4)<;>intro _
  refine G6 A6 C4l C3v (λ(i:Nat)=>[.d (eI i)]) (λi=>[.cells [.d (.str nm),.d dc,.d dk,.d df,.d dx],.cells [.d (.str nm),.d dc',.d dk',.d df',.d dx']]) (λi=>i<=fs.length) (λi=>fs.length-i) 0 rfl rfl rfl rfl (λ_ _=>⟨rfl,rfl⟩) rfl (by omega) ?_
  repeat' first|refine st ?_|((with_reducible apply D1);conv=>whnf)|(with_reducible first|apply A5|apply A4)<;>intro _
  intro j h5
  cases hy:fs[j]? with
  |some f=>
   have hlt:=(B2.1 hy).1
   obtain⟨g,hgg⟩:∃g,fs'[j]?=some g:=⟨_,C5 (by omega)⟩
   have e6:M9 f=M9 g:=by
    have a1:(fs.map M9)[j]?=some (M9 f):=by rw[F4,hy];rfl
    have a2:(fs'.map M9)[j]?=some (M9 g):=by rw[F4,hgg];rfl
    rw[e4,a2] at a1
    exact(A03 a1).symm
   have hfb:=(hfc f (C3 hy)).1
   obtain⟨f1,f2,f3⟩:=f
   obtain⟨g1,g2,g3⟩:=g
   unfold M9 at e6
   injection e6 with _ e7 e8
   dsimp only at e7 e8
   subst e7;subst e8
   have hJ:=B1g f2 hfb (Fo.mk f1 f2 f3).d (Fo.mk g1 f2 f3).d (Fo.sld _) (Fo.sld _)
   have hg:=hgf j _ hy
   have hg':Fs'[((j:Nat):Int).toNat]?=_:=hgf' j _ hgg
   have hg2:Fs[((j:Nat):Int).toNat]?=_:=hgf j _ hy
   unfold Fo.ds at hg hg' hg2
   obtain⟨d1,hd1⟩:∃d,d=(Fo.mk f1 f2 f3).d:=⟨_,rfl⟩
   obtain⟨d2,hd2⟩:∃d,d=(Fo.mk g1 f2 f3).d:=⟨_,rfl⟩
   rw[<- hd1] at hJ hg hg2
   rw[<- hd2] at hJ hg'
   have r1:f3=f3:=rfl
   have hlt':(j:Int)<Fs'.length:=by omega
   repeat' first|refine st ?_|((with_reducible apply D1);conv=>whnf)|((with_reducible first|apply A9|apply A8);(·exact hJ))|(with_reducible first|apply A5|apply A4)<;>intro _
   all_goals first|exact⟨j+1,rfl,rfl,rfl,by omega,by omega⟩|(exfalso;simp_all;done)
  |none=>
   have hge2:=E4.1 hy
   repeat' first|refine st ?_|((with_reducible apply D1);conv=>whnf)|(with_reducible first|apply A5|apply A4)<;>intro _
   all_goals rfl
def A2o(t:Tb)(c:Ch)(k:Int):Int:=
 if D7 t c≠0\/k<0\/(t.cs.length:Int)<=k then -1 else if c.k≠2 then k else if D8 c.nm t.cs=k then -1 else B0 k (D8 c.nm t.cs)
structure TD where
 t:Tb
 dc:D
 dk:D
 df:D
 dx:D
abbrev TD.av(x:TD):AV:=eT x.t.nm x.dc x.dk x.df x.dx
structure TD.ok(x:TD):Prop where
 tok:O0 x.t x.dc x.dk x.df x.dx
 rg:x.t.Rg
def P1:TD:=⟨⟨[],[],[],[],[]⟩,.nil,.nil,.nil,.nil⟩
theorem A2E:P1.ok:=⟨⟨by decide,by decide,by decide,by decide,by decide,λf hf=>by simp[P1] at hf,by decide,λe he=>by simp[P1] at he,A1p,A1p,A1p,A1p⟩,λe he=>by simp[P1] at he⟩
def slX(l:List Ex):D:=B9 (xL l).isEmpty (xL l)
theorem D22(l:List Ex):B8 (slX l) (xL l):=V8 λe=>s5.1 e
theorem C8v(l:List Fo):B8 (dF l) (H9 l):=V8 λe=>by
 cases l with
 |nil=>rfl
 |cons a r=>cases e
def TD.cp(x:TD):TD:=⟨⟨x.t.nm,x.t.cs,x.t.ks,x.t.fs,x.t.xs.map F6⟩,x.dc,x.dk,dF x.t.fs,slX (x.t.xs.map F6)⟩
theorem TD.cp_ok{x:TD}(h:x.ok):x.cp.ok:=by
 obtain⟨h,hr⟩:=h
 refine⟨⟨h.hn,h.hl,h.hls,h.hk,h.hfl,h.hfc,by show(x.t.xs.map F6).length<=_;rw[C7];exact h.hxs,λe he=>?_,h.dc,h.dk,C8v _,D22 _⟩,λe he=>?_⟩
 ·obtain⟨a,ha,rfl⟩:=E6.1 he
  exact P3 (A5p a) (h.hxb a ha)
 ·obtain⟨a,ha,rfl⟩:=E6.1 he
  exact A9u a (hr a ha)
theorem A2s(x:TD):nf x.cp.t=nf x.t:=by
 unfold nf TD.cp
 dsimp only
 rw[A0k (h:=F6) λa ha=>A9t a]
theorem TD.cp_vd{x:TD}(h:H8 x.t=0):H8 x.cp.t=0:=by rw[<- A4m,A2s,A4m];exact h
def TD.evo(x:TD)(c:Ch):TD:=⟨F3 x.t c,.sl (B3 (F3 x.t c).cs),B9 (A7 x.dk) (A0 (F3 x.t c).ks),dF (F3 x.t c).fs,slX (F3 x.t c).xs⟩
theorem TD.evo_ok{x:TD}(h:x.ok){c:Ch}(hc:I1 c)(hq:D7 x.t c=0):(x.evo c).ok:=by
 have hx:slX (F3 x.t c).xs=B9 (xL (x.t.xs.map F6)).isEmpty (xL (F3 x.t c).xs):=by
  unfold slX
  congr 1
  unfold F3
  split
  ·rfl
  ·split
   ·cases x.t.xs<;>rfl
   ·split<;>rfl
 have hb:(xL (x.t.xs.map F6)).isEmpty=true->x.t.xs=[]:=λe=>by
  cases hxs:x.t.xs with
  |nil=>rfl
  |cons a l=>rw[hxs] at e;cases e
 refine⟨?_,C99 h.rg c⟩
 unfold TD.evo
 dsimp only
 rw[hx]
 exact C9a h.tok hc (m5.1 (A0d hq).1) _ hb
theorem B14(x:TD)(h:x.ok)(c:Ch)(hc:I1 c)(hq:D7 x.t c=0):Pure Tryz.prog Q6 [x.av,c.av] (.tup [(x.evo c).av,.d (eI 0)]):=by
 obtain⟨t,dc,dk,df,dx⟩:=x
 obtain⟨h,hr⟩:=h
 dsimp only at h hr hq
 obtain⟨q1,q2,q3,q4,q5⟩:=A0d hq
 have hv:=m5.1 q1
 have hdc:=B65 h hv
 have hx:=B9s hr
 have hnm:(F3 t c).nm=t.nm:=by unfold F3;split;rfl;split;rfl;split<;>rfl
 have he:slX (F3 t c).xs=B9 (xL (t.xs.map (C0 0))).isEmpty (xL (F3 t c).xs):=by
  rw[hx]
  unfold slX
  congr 1
  unfold F3
  split
  ·rfl
  ·split
   ·cases t.xs<;>rfl
   ·split<;>rfl
 unfold TD.av TD.evo
 dsimp only
 rw[hnm,he]
 by_cases k1:c.k=1
 ·have e:F3 t c=⟨t.nm,t.cs++[c.co],t.ks,t.fs,t.xs.map F6⟩:=by unfold F3;rw[if_pos k1]
  rw[e,<- hx]
  rcases A5I hv.fl with hf|⟨a0,hf⟩|⟨a0,a1,hf⟩|⟨a0,a1,a2,hf⟩|⟨a0,a1,a2,a3,hf⟩
  ·exact B9z t dc dk df dx h c hc hq hf k1
  ·exact B9D t dc dk df dx h c hc hq a0 hf k1
  ·exact B9H t dc dk df dx h c hc hq a0 a1 hf k1
  ·exact B9L t dc dk df dx h c hc hq a0 a1 a2 hf k1
  ·exact B9P t dc dk df dx h c hc hq a0 a1 a2 a3 hf k1
 ·obtain⟨i,co,hi,hco,hcn,hus,_,_⟩:=A1L (q5 k1)
  have hil:=(B2.1 hco).1
  have hiN:(D8 c.nm t.cs).toNat=i:=by omega
  by_cases k2:c.k=2
  ·have e:F3 t c=⟨t.nm,t.cs.eraseIdx i,t.ks.map (λx=>B0 x i),t.fs.map (I0 i),t.xs.map (T8 i)⟩:=by unfold F3;rw[if_neg k1,if_pos k2,hiN]
   have hxd:(t.xs.map (C0 0)).map (E3 (H5 t.cs.length i))=t.xs.map (T8 i):=by
    rw[hx]
    exact A0k λa ha=>D2d i (S5 _) a (hv.xs a ha).2.1
   rw[e,<- hxd]
   have b1:∀k∈t.ks,0<=k/\k<=1048576:=λk hk=>by have:=hv.ks k hk;have:=hv.l2;omega
   have b2:∀g∈t.fs,∀k∈g.cs,0<=k/\k<=1048576:=λg hg k hk=>by have:=(hv.fs g hg).2.2.1 k hk;have:=hv.l2;omega
   have b3:∀e∈t.xs.map (C0 0),e.bk<=1048576:=λe he=>by
    rw[hx] at he
    obtain⟨a,ha,rfl⟩:=E6.1 he
    exact P3 (A5p a) (h.hxb a ha)
   rcases A5I hv.fl with hf|⟨a0,hf⟩|⟨a0,a1,hf⟩|⟨a0,a1,a2,hf⟩|⟨a0,a1,a2,a3,hf⟩
   ·exact B9A t dc dk df dx h c hc hq hf k2 i hi hil hdc b1 b2 b3
   ·exact B9E t dc dk df dx h c hc hq a0 hf k2 i hi hil hdc b1 b2 b3
   ·exact B9I t dc dk df dx h c hc hq a0 a1 hf k2 i hi hil hdc b1 b2 b3
   ·exact B9M t dc dk df dx h c hc hq a0 a1 a2 hf k2 i hi hil hdc b1 b2 b3
   ·exact B9Q t dc dk df dx h c hc hq a0 a1 a2 a3 hf k2 i hi hil hdc b1 b2 b3
  ·by_cases k3:c.k=3
   ·have e:F3 t c=⟨t.nm,t.cs.set i ⟨c.to,co.k,co.nl⟩,t.ks,t.fs,t.xs.map F6⟩:=by unfold F3;rw[if_neg k1,if_neg k2,if_pos k3,hiN,A7n hco]
    rw[e,<- hx]
    rcases A5I hv.fl with hf|⟨a0,hf⟩|⟨a0,a1,hf⟩|⟨a0,a1,a2,hf⟩|⟨a0,a1,a2,a3,hf⟩
    ·exact B9B t dc dk df dx h c hc hq hf k3 i hi co hco hdc
    ·exact B9F t dc dk df dx h c hc hq a0 hf k3 i hi co hco hdc
    ·exact B9J t dc dk df dx h c hc hq a0 a1 hf k3 i hi co hco hdc
    ·exact B9N t dc dk df dx h c hc hq a0 a1 a2 hf k3 i hi co hco hdc
    ·exact B9R t dc dk df dx h c hc hq a0 a1 a2 a3 hf k3 i hi co hco hdc
   ·have k4:c.k=4:=by omega
    have e:F3 t c=⟨t.nm,t.cs.set i ⟨co.nm,2,co.nl⟩,t.ks,t.fs,t.xs.map F6⟩:=by unfold F3;rw[if_neg k1,if_neg k2,if_neg k3,hiN,A7n hco]
    rw[e,<- hx]
    rcases A5I hv.fl with hf|⟨a0,hf⟩|⟨a0,a1,hf⟩|⟨a0,a1,a2,hf⟩|⟨a0,a1,a2,a3,hf⟩
    ·exact B9C t dc dk df dx h c hc hq hf k4 i hi co hco hdc
    ·exact B9G t dc dk df dx h c hc hq a0 hf k4 i hi co hco hdc
    ·exact B9K t dc dk df dx h c hc hq a0 a1 hf k4 i hi co hco hdc
    ·exact B9O t dc dk df dx h c hc hq a0 a1 a2 hf k4 i hi co hco hdc
    ·exact B9S t dc dk df dx h c hc hq a0 a1 a2 a3 hf k4 i hi co hco hdc
theorem B15(x:TD)(h:x.ok)(c:Ch)(hc:I1 c)(hq:D7 x.t c≠0):Pure Tryz.prog Q6 [x.av,c.av] (.tup [P1.av,.d (eI (D7 x.t c))]):=
 B9T x.t x.dc x.dk x.df x.dx h.tok c hc hq
theorem C8C{os:List AO}{nm:List UInt8}{a b f x:Nat}{K X Cs:List (List D)}{rows:List (List AV)}{fs:List Fo}{cn kn xn nl:Bool}{cz kz xz cf kf xf lf:Nat}(hlf:lf=rows.length)
  (h1:os[a]?=some (.arr Cs cz cf cn)) (h2:os[b]?=some (.arr K kz kf kn)) (h3:os[f]?=some (.rarr rows 2 nl)) (h4:os[x]?=some (.arr X xz xf xn)) (hl:fs.length=rows.length)
  (hr:∀(i:Nat) e (g:Fo),rows[i]?=some e->fs[i]?=some g->∃q es fl,e=[.arr q es.length,.d (.str g.tb)]/\os[q]?=some (.arr es 1 0 fl)/\g.d=B9 fl es) :
  DA os (.agg [.d (.str nm),.arr a Cs.length,.arr b K.length,.rs f lf,.arr x X.length]) (eT nm (B9 cn Cs) (B9 kn K) (B9 nl (H9 fs)) (B9 xn X)):=by
 subst hlf
 have h:=V5 (nm:=nm) (e:=.nil) (.inl (.inr ⟨a,Cs,cz,cf,cn,rfl,h1,rfl⟩)) h2 h3 h4 hl hr
 rcases h with h|⟨cs,rs,e1,e2,e3,e4⟩
 ·rcases h with ⟨x,hx,_⟩|⟨_,_,hx,_⟩
  ·rcases hx with (hx|⟨_,_,_,_,_,hx,_⟩)|⟨_,_,_,_,_,hx,_⟩<;>cases hx
  ·cases hx
 ·cases e1;cases e2
  exact .inl (e4 0 _ _ rfl rfl)
theorem B0q:∀(k:Nat)(l:List Fi),(A3c k l).length=l.length
 |_,[]=>rfl
 |k,f::fs=>by rw[A3c,L0,B0q (k+1) fs,L0]
theorem B8u:∀(l:List Fi)(k i:Nat)(f:Fi),l[i]?=some f->(A3c k l)[i]?=some [.arr (k+i) f.es.length,.d (.str f.tb)]
 |[],_,i,f,h=>by simp at h
 |a::l,k,0,f,h=>by cases h;rfl
 |a::l,k,i+1,f,h=>by
  rw[A3c,Z1,B8u l (k+1) i f (by simpa using h),show k+1+i=k+(i+1) by omega]
def Fi.of(g:Fo):Fi:=⟨g.d,A0 g.cs,A7 g.d,g.tb⟩
theorem A6s(x:TD)(h:x.ok)(hf4:x.t.fs.length<=4):Pure Tryz.prog A0s [x.av] x.cp.av:=by
 obtain⟨t,dc,dk,df,dx⟩:=x
 obtain⟨h,hr⟩:=h
 dsimp only at h hr hf4
 have hx:=B9s hr
 have hok:∀g∈t.fs,(Fi.of g).ok:=λg hg=>G7 _ (by rw[B6];have:=(h.hfc g hg).1;omega) (D4 _) g.d g.sld
 have hC:=V0 (B3 t.cs) (by rw[G8];have:=h.hl;omega) (I3 _) dc h.dc
 have hI:=G7 (A0 t.ks) (by rw[B6];have:=h.hk;omega) (D4 _) dk h.dk
 have key:∀(l:List Fi) (hl:l=t.fs.map Fi.of) (n:Nat) (hn:n=l.length) (tab out:List AV),DA (Z7 tab out t.nm (B3 t.cs) (A0 t.ks) (A7 dc) (A7 dk) l (xL (t.xs.map (C0 0))) (xL (t.xs.map (C0 0))).isEmpty) (.agg (oB t.nm (B3 t.cs).length (A0 t.ks).length n (xL (t.xs.map (C0 0))).length))
   (eT t.nm (B9 (A7 dc) (B3 t.cs)) (B9 (A7 dk) (A0 t.ks)) (B9 l.isEmpty (H9 t.fs)) (B9 (xL (t.xs.map (C0 0))).isEmpty (xL (t.xs.map (C0 0))))):=by
  intro l hl n hn tab out
  refine C8C (rows:=A3c 7 l) (fs:=t.fs) (by rw[B0q];exact hn) rfl rfl rfl rfl (by rw[B0q,hl,C7]) λi e g he hg=>?_
  have h1:l[i]?=some (Fi.of g):=by rw[hl,F4,hg];rfl
  rw[B8u l 7 i _ h1] at he
  cases he
  refine⟨7+i,A0 g.cs,A7 g.d,rfl,?_,(O4 g.sld).symm⟩
  unfold Z7
  rw[P6 (by simp)]
  show(A9X l)[7+i-7]?=_
  unfold A9X
  rw[show 7+i-7=i by omega,F4,h1]
  rfl
 have fin:∀(l:List Fi),l=t.fs.map Fi.of->TD.av (TD.cp ⟨t,dc,dk,df,dx⟩)=eT t.nm (B9 (A7 dc) (B3 t.cs)) (B9 (A7 dk) (A0 t.ks)) (B9 l.isEmpty (H9 t.fs)) (B9 (xL (t.xs.map (C0 0))).isEmpty (xL (t.xs.map (C0 0)))):=by
  intro l hl
  rw[O4 h.dc,O4 h.dk,hx,hl]
  unfold TD.av TD.cp dF slX
  dsimp only
  have e:(t.fs.map Fi.of).isEmpty=t.fs.isEmpty:=by cases t.fs<;>rfl
  rw[e]
 have hdf:=h.df
 rcases A5I hf4 with hf|⟨a0,hf⟩|⟨a0,a1,hf⟩|⟨a0,a1,a2,hf⟩|⟨a0,a1,a2,a3,hf⟩
 ·have hd:B8 df []:=by rw[hf] at hdf;exact hdf
  refine B4.deepP (A4x t.nm dc dk df dx (B3 t.cs) (A0 t.ks) (A7 dc) (A7 dk) hC hI hd t.xs h.hxb h.hxs h.dx) ?_
  rintro r os ⟨rfl,rfl⟩
  rw[fin [] (by rw[hf];rfl)]
  exact key [] (by rw[hf];rfl) 0 rfl _ _
 all_goals
  have hd:df=.sl (R4 (t.fs.map Fi.of)):=by
   have e:R4 (t.fs.map Fi.of)=H9 t.fs:=by unfold R4 H9;rw[V4];rfl
   rw[e]
   rcases hdf with ⟨_,h2⟩|h2
   ·rw[hf] at h2;cases h2
   ·exact h2
  rw[hf] at hd
 ·refine B4.deepP (A4y t.nm dc dk df dx (B3 t.cs) (A0 t.ks) (A7 dc) (A7 dk) hC hI (Fi.of a0) (hok a0 (by rw[hf];simp)) hd t.xs h.hxb h.hxs h.dx) ?_
  rintro r os ⟨rfl,rfl⟩
  rw[fin [Fi.of a0] (by rw[hf];rfl)]
  exact key _ (by rw[hf];rfl) 1 rfl _ _
 ·refine B4.deepP (A4z t.nm dc dk df dx (B3 t.cs) (A0 t.ks) (A7 dc) (A7 dk) hC hI (Fi.of a0) (Fi.of a1) (hok a0 (by rw[hf];simp)) (hok a1 (by rw[hf];simp)) hd t.xs h.hxb h.hxs h.dx) ?_
  rintro r os ⟨rfl,rfl⟩
  rw[fin [Fi.of a0,Fi.of a1] (by rw[hf];rfl)]
  exact key _ (by rw[hf];rfl) 2 rfl _ _
 ·refine B4.deepP (A4A t.nm dc dk df dx (B3 t.cs) (A0 t.ks) (A7 dc) (A7 dk) hC hI (Fi.of a0) (Fi.of a1) (Fi.of a2) (hok a0 (by rw[hf];simp)) (hok a1 (by rw[hf];simp)) (hok a2 (by rw[hf];simp)) hd t.xs h.hxb h.hxs h.dx) ?_
  rintro r os ⟨rfl,rfl⟩
  rw[fin [Fi.of a0,Fi.of a1,Fi.of a2] (by rw[hf];rfl)]
  exact key _ (by rw[hf];rfl) 3 rfl _ _
 ·refine B4.deepP (A4B t.nm dc dk df dx (B3 t.cs) (A0 t.ks) (A7 dc) (A7 dk) hC hI (Fi.of a0) (Fi.of a1) (Fi.of a2) (Fi.of a3) (hok a0 (by rw[hf];simp)) (hok a1 (by rw[hf];simp)) (hok a2 (by rw[hf];simp)) (hok a3 (by rw[hf];simp)) hd t.xs h.hxb h.hxs h.dx) ?_
  rintro r os ⟨rfl,rfl⟩
  rw[fin [Fi.of a0,Fi.of a1,Fi.of a2,Fi.of a3] (by rw[hf];rfl)]
  exact key _ (by rw[hf];rfl) 4 rfl _ _
def F0(l:List Fo):List (List D):=H9 (l.map M9)
def eD(l:List (List D)):D:=B9 l.isEmpty l
theorem A1e(l:List (List D)):B8 (eD l) l:=V8 λe=>s5.1 e
def TD.cpR(x:TD):TD:=⟨⟨x.t.nm,x.t.cs,x.t.ks,x.t.fs.map M9,x.t.xs.map F6⟩,eD (B3 x.t.cs),eD (A0 x.t.ks),eD (F0 x.t.fs),eD (xL (x.t.xs.map F6))⟩
theorem TD.cpR_ok{x:TD}(h:x.ok):x.cpR.ok:=by
 obtain⟨h,hr⟩:=h
 refine⟨⟨h.hn,h.hl,h.hls,h.hk,by show(x.t.fs.map M9).length<=_;rw[C7];exact h.hfl,λf hf=>?_,by show(x.t.xs.map F6).length<=_;rw[C7];exact h.hxs,λe he=>?_,A1e _,A1e _,A1e _,A1e _⟩,λe he=>?_⟩
 ·obtain⟨g,hg,rfl⟩:=E6.1 hf
  exact h.hfc g hg
 ·obtain⟨a,ha,rfl⟩:=E6.1 he
  exact P3 (A5p a) (h.hxb a ha)
 ·obtain⟨a,ha,rfl⟩:=E6.1 he
  exact A9u a (hr a ha)
theorem D0j(x:TD):nf x.cpR.t=nf x.t:=B7J x.t
def FD(i:Nat)(l:List Fo):List (List D):=F0 (l.map (I0 i))
def TD.wo(x:TD)(i:Nat):TD:=⟨⟨x.t.nm,x.t.cs.eraseIdx i,x.t.ks.map (λc=>B0 c i),(x.t.fs.map (I0 i)).map M9,x.t.xs.map (T8 i)⟩,eD (B3 (x.t.cs.eraseIdx i)),.sl (A0 (x.t.ks.map λc=>B0 c i)),eD (FD i x.t.fs),eD (xL (x.t.xs.map (T8 i)))⟩
abbrev A1K(c:Ch):List D:=[eI c.k,.str c.nm,.str c.to,.str c.co.nm,eI c.co.k,.bool c.co.nl,eI c.df.k,eI c.df.n,.str c.df.s]
def I2(l:List Ch):List (List D):=l.map A1K
theorem A2i(l:List Ch):(I2 l).length=l.length:=by simp[I2]
theorem A9w{l:List Ch}{i:Nat}{c:Ch}(h:l[i]?=some c):(I2 l)[i]?=some (A1K c):=by simp[I2,h]
theorem A5r(l:List Ch):∀e∈I2 l,e.length=9:=by
 intro e he
 obtain⟨x,_,rfl⟩:=E6.1 he
 rfl
def TD.run(x:TD)(i:Nat):List Ch->TD×Nat×Int
 |[]=>(x,i,0)
 |c::r=>if D7 x.t c=0 then TD.run (x.evo c) (i+1) r else (P1,i,D7 x.t c)
def TD.runs(x:TD)(l:List Ch):TD×Nat×Int:=if H8 x.t=0 then TD.run x.cp 0 l else (P1,0,H8 x.t)
theorem D1H{x:TD}{l:List Ch}{i:Nat}{c:Ch}(h:l[i]?=some c):TD.run x i (l.drop i)=if D7 x.t c=0 then TD.run (x.evo c) (i+1) (l.drop (i+1)) else (P1,i,D7 x.t c):=by
 obtain⟨hlt,he⟩:=B2.1 h
 rw[V2 hlt,he];rfl
theorem C0h(x:TD)(h:x.ok)(l:List Ch)(hl:l.length<=1048576)(hls:∀c∈l,I1 c)(d:D)(hd:B8 d (I2 l)) :
  Pure Tryz.prog A8G [x.av,.d d] (.tup [(x.runs l).1.av,.d (eI ((x.runs l).2.1:Nat)),.d (eI (x.runs l).2.2)]):=by
 have hT:=A6v x.t x.dc x.dk x.df x.dx h.tok
 obtain⟨R,hR⟩:∃R,R=x.runs l:=⟨_,rfl⟩
 rw[<- hR]
 unfold TD.runs at hR
 have h1:=A2i l
 have hm:=A5r l
 have hg0:=λi c=>@A9w l i c
 obtain⟨es,hes⟩:∃es,es=I2 l:=⟨_,rfl⟩
 rw[<- hes] at h1 hm hd hg0
 by_cases hq:H8 x.t=0
 rotate_left
 ·rw[if_neg hq] at hR
  subst hR
  obtain⟨q,hqq⟩:∃q,q=H8 x.t:=⟨_,rfl⟩
  rw[<- hqq] at hT hq ⊢
  refine B1y.go A6 rfl ?_
  repeat' first|refine st ?_|((with_reducible apply D1);conv=>whnf)|((with_reducible first|apply A9|apply A8);(·exact hT))|(with_reducible first|apply A5|apply A4)<;>intro _
  all_goals rfl
 ·rw[if_pos hq] at hR
  rw[hq] at hT
  have hC:=A6s x h (m5.1 hq).fl
  have hok:=TD.cp_ok h
  obtain⟨y,hy⟩:∃y,y=x.cp:=⟨_,rfl⟩
  rw[<- hy] at hC hR hok
  clear hy
  obtain⟨⟨nm,cs,ks,fs,xs⟩,dc,dk,df,dx⟩:=x
  have hC:Bi.Pure Tryz.prog A0s [eT nm dc dk df dx] (eT y.t.nm y.dc y.dk y.df y.dx):=hC
  have hT:Bi.Pure Tryz.prog A6V [eT nm dc dk df dx] (.d (eI 0)):=hT
  refine B1y.go A6 rfl ?_
  repeat' first|refine st ?_|((with_reducible apply D1);conv=>whnf)|((with_reducible first|apply A9|apply A8);(·first|exact hT|exact hC))|(with_reducible first|apply A5|apply A4)<;>intro _
  refine P5 A6 C4A C3K (λ(i:Nat) (w:TD)=>[.d (eI i)]) (λi w=>[.cells [.d (.str nm),.d dc,.d dk,.d df,.d dx],.cells [.d (.str []),.d .nil,.d .nil,.d .nil,.d .nil],.cells [.d (.str w.t.nm),.d w.dc,.d w.dk,.d w.df,.d w.dx]]) (λi w=>i<=l.length/\w.ok/\R=TD.run w i (l.drop i)) (λi w=>l.length-i) 0 y rfl rfl rfl rfl (λ_ _ _=>⟨rfl,rfl⟩) rfl ⟨by omega,hok,hR⟩ ?_
  repeat' first|refine st ?_|((with_reducible apply D1);conv=>whnf)|(with_reducible first|apply A5|apply A4)<;>intro _
  intro i w ⟨h4,h5,h6⟩
  cases hx:l[i]? with
  |some c=>
   have hlt:=(B2.1 hx).1
   have hcok:=hls c (C3 hx)
   have hg:=hg0 i c hx
   rw[D1H hx] at h6
   by_cases he:D7 w.t c=0
   ·rw[if_pos he] at h6
    have hA:=B14 w h5 c hcok he
    have hok2:=TD.evo_ok h5 hcok he
    obtain⟨z,hz⟩:∃z,z=w.evo c:=⟨_,rfl⟩
    rw[<- hz] at hA h6 hok2
    obtain⟨ck,cnm,to,⟨cn,cck,cl⟩,⟨vk,vn,vs⟩⟩:=c
    have hA:Bi.Pure Tryz.prog Q6 [eT w.t.nm w.dc w.dk w.df w.dx,chD ck cnm to cn cck cl vk vn vs] (.tup [eT z.t.nm z.dc z.dk z.df z.dx,.d (eI 0)]):=hA
    clear hR
    repeat' first|refine st ?_|((with_reducible apply D1);conv=>whnf)|((with_reducible first|apply A9|apply A8);(·exact hA))|(with_reducible first|apply A5|apply A4)<;>intro _
    exact⟨i+1,z,rfl,rfl,rfl,by omega,by omega,hok2,h6⟩
   ·rw[if_neg he] at h6
    have hA:=B15 w h5 c hcok he
    subst h6
    obtain⟨q,hqq⟩:∃q,q=D7 w.t c:=⟨_,rfl⟩
    rw[<- hqq] at hA he ⊢
    obtain⟨ck,cnm,to,⟨cn,cck,cl⟩,⟨vk,vn,vs⟩⟩:=c
    have hA:Bi.Pure Tryz.prog Q6 [eT w.t.nm w.dc w.dk w.df w.dx,chD ck cnm to cn cck cl vk vn vs] (.tup [eT [] .nil .nil .nil .nil,.d (eI q)]):=hA
    clear hR
    repeat' first|refine st ?_|((with_reducible apply D1);conv=>whnf)|((with_reducible first|apply A9|apply A8);(·exact hA))|(with_reducible first|apply A5|apply A4)<;>intro _
    all_goals rfl
  |none=>
   have hge:=E4.1 hx
   rw[List.drop_of_length_le hge] at h6
   have hil:i=l.length:=by omega
   subst h6
   clear hR
   repeat' first|refine st ?_|((with_reducible apply D1);conv=>whnf)|(with_reducible first|apply A5|apply A4)<;>intro _
   all_goals (first|rfl|(simp only[TD.run,hil,h1];done)|(rw[h1,<- hil];rfl))
def TD.evoR(x:TD)(c:Ch):TD:=
 if c.k=2 then x.wo (D8 c.nm x.t.cs).toNat
 else ⟨⟨x.t.nm,(F3 x.t c).cs,x.t.ks,x.t.fs.map M9,x.t.xs.map F6⟩,.sl (B3 (F3 x.t c).cs),eD (A0 x.t.ks),eD (F0 x.t.fs),eD (xL (x.t.xs.map F6))⟩
theorem D0k{x:TD}{c:Ch}(hk:1<=c.k/\c.k<=4):nf (x.evoR c).t=nf (F3 x.t c):=by
 have e1:(x.t.fs.map M9).map M9=x.t.fs.map M9:=by rw[V4];rfl
 have e3 (i:Nat):((x.t.fs.map (I0 i)).map M9).map M9=(x.t.fs.map (I0 i)).map M9:=by rw[V4,V4,V4];rfl
 unfold TD.evoR
 by_cases k2:c.k=2
 ·rw[if_pos k2]
  unfold F3
  rw[if_neg (by omega),if_pos k2]
  unfold TD.wo nf
  dsimp only
  rw[e3]
 ·rw[if_neg k2]
  unfold F3
  rw[if_neg k2]
  by_cases k1:c.k=1
  ·rw[if_pos k1];unfold nf;dsimp only;rw[e1]
  ·rw[if_neg k1]
   by_cases k3:c.k=3
   ·rw[if_pos k3];unfold nf;dsimp only;rw[e1]
   ·rw[if_neg k3];unfold nf;dsimp only;rw[e1]
theorem TD.evoR_ok{x:TD}(h:x.ok){c:Ch}(hc:I1 c)(hq:D7 x.t c=0):(x.evoR c).ok:=by
 obtain⟨q1,q2,_⟩:=A0d hq
 have h1:=TD.evo_ok h hc hq
 have h2:=TD.cpR_ok h
 unfold TD.evoR
 by_cases k2:c.k=2
 ·rw[if_pos k2]
  have e:F3 x.t c=⟨x.t.nm,x.t.cs.eraseIdx (D8 c.nm x.t.cs).toNat,x.t.ks.map (λy=>B0 y (D8 c.nm x.t.cs).toNat),x.t.fs.map (I0 (D8 c.nm x.t.cs).toNat),x.t.xs.map (T8 (D8 c.nm x.t.cs).toNat)⟩:=by unfold F3;rw[if_neg (by omega),if_pos k2]
  obtain⟨⟨a1,a2,a3,a4,a5,a6,a7,a8,a9,a10,a11,a12⟩,hr⟩:=h1
  have hr:(F3 x.t c).Rg:=hr
  have a2:(F3 x.t c).cs.length<=1048576:=a2
  have a3:∀c'∈(F3 x.t c).cs,c'.nm.length<=1048576:=a3
  have a4:(F3 x.t c).ks.length<=1048576:=a4
  have a5:(F3 x.t c).fs.length<=1048576:=a5
  have a6:∀f∈(F3 x.t c).fs,f.cs.length<=1048576/\f.tb.length<=1048576:=a6
  have a7:(F3 x.t c).xs.length<=1048576:=a7
  have a8:∀e∈(F3 x.t c).xs,e.bk<=1048576:=a8
  rw[e] at hr a2 a3 a4 a5 a6 a7 a8
  refine⟨⟨h.tok.hn,a2,a3,a4,?_,λf hf=>?_,a7,a8,A1e _,O7,A1e _,A1e _⟩,hr⟩
  ·show((x.t.fs.map _).map M9).length<=_
   rw[C7];exact a5
  ·obtain⟨g,hg,rfl⟩:=E6.1 hf
   exact a6 g hg
 ·rw[if_neg k2]
  exact⟨⟨h.tok.hn,h1.tok.hl,h1.tok.hls,h.tok.hk,h2.tok.hfl,h2.tok.hfc,h2.tok.hxs,h2.tok.hxb,O7,A1e _,A1e _,A1e _⟩,h2.rg⟩
def TD.runR(x:TD)(i:Nat):List Ch->TD×Nat×Int
 |[]=>(x,i,0)
 |c::r=>if D7 x.t c=0 then TD.runR (x.evoR c) (i+1) r else (P1,i,D7 x.t c)
def TD.runsR(x:TD)(l:List Ch):TD×Nat×Int:=if H8 x.t=0 then TD.runR x.cpR 0 l else (P1,0,H8 x.t)
theorem B8v:∀(l:List Ch)(x y:TD)(i:Nat),nf x.t=nf y.t->(TD.run x i l).2=(TD.runR y i l).2/\nf (TD.run x i l).1.t=nf (TD.runR y i l).1.t
 |[],x,y,i,h=>⟨rfl,h⟩
 |c::r,x,y,i,h=>by
  have h1:D7 x.t c=D7 y.t c:=by rw[<- A2m,h,A2m]
  by_cases hq:D7 x.t c=0
  ·have e1:TD.run x i (c::r)=TD.run (x.evo c) (i+1) r:=by rw[TD.run,if_pos hq]
   have e2:TD.runR y i (c::r)=TD.runR (y.evoR c) (i+1) r:=by rw[TD.runR,if_pos (by rw[<- h1];exact hq)]
   rw[e1,e2]
   refine B8v r (x.evo c) (y.evoR c) (i+1) ?_
   rw[D0k (A0d hq).2.1,<- A4b y.t,<- h,A4b]
   rfl
  ·have e1:TD.run x i (c::r)=(P1,i,D7 x.t c):=by rw[TD.run,if_neg hq]
   have e2:TD.runR y i (c::r)=(P1,i,D7 y.t c):=by rw[TD.runR,if_neg (by rw[<- h1];exact hq)]
   rw[e1,e2,h1]
   exact⟨rfl,rfl⟩
theorem A4f(x:TD)(l:List Ch):(x.runs l).2=(x.runsR l).2/\nf (x.runs l).1.t=nf (x.runsR l).1.t:=by
 unfold TD.runs TD.runsR
 by_cases hq:H8 x.t=0
 ·rw[if_pos hq,if_pos hq]
  exact B8v l x.cp x.cpR 0 (by rw[A2s,D0j])
 ·rw[if_neg hq,if_neg hq]
  exact⟨rfl,rfl⟩
theorem D1E:∀(l:List Ch)(x:TD)(i:Nat),x.ok->(∀c∈l,I1 c)->(TD.runR x i l).1.ok
 |[],x,i,h,_=>h
 |c::r,x,i,h,hc=>by
  unfold TD.runR
  split
  ·rename_i hq
   exact D1E r _ _ (TD.evoR_ok h (hc c (by simp)) hq) λd hd=>hc d (by simp[hd])
  ·exact A2E
theorem B8z:∀(l:List Ch)(x:TD)(i:Nat),x.ok->(∀c∈l,I1 c)->(TD.run x i l).1.ok
 |[],x,i,h,_=>h
 |c::r,x,i,h,hc=>by
  unfold TD.run
  split
  ·rename_i hq
   exact B8z r _ _ (TD.evo_ok h (hc c (by simp)) hq) λd hd=>hc d (by simp[hd])
  ·exact A2E
theorem D1O{x:TD}{l:List Ch}(h:x.ok)(hc:∀c∈l,I1 c):(x.runs l).1.ok:=by
 unfold TD.runs
 split
 ·exact B8z l _ _ (TD.cp_ok h) hc
 ·exact A2E
structure En where
 tm:Int
 tb:List UInt8
 cr:TD
 ch:Ch
abbrev En.ds(e:En):List D:=[eI e.tm,.str e.tb,.str e.cr.t.nm,e.cr.dc,e.cr.dk,e.cr.df,e.cr.dx,eI e.ch.k,.str e.ch.nm,.str e.ch.to,.str e.ch.co.nm,eI e.ch.co.k,.bool e.ch.co.nl,eI e.ch.df.k,eI e.ch.df.n,.str e.ch.df.s]
abbrev En.av(e:En):AV:=.agg [.d (eI e.tm),.d (.str e.tb),.d (.str e.cr.t.nm),.d e.cr.dc,.d e.cr.dk,.d e.cr.df,.d e.cr.dx,.d (eI e.ch.k),.d (.str e.ch.nm),.d (.str e.ch.to),.d (.str e.ch.co.nm),.d (eI e.ch.co.k),.d (.bool e.ch.co.nl),.d (eI e.ch.df.k),.d (eI e.ch.df.n),.d (.str e.ch.df.s)]
structure En.ok(e:En):Prop where
 cr:e.cr.ok
 ch:I1 e.ch
 tb:e.tb.length<=1048576
def E8(l:List En):List (List D):=l.map En.ds
theorem A0b(l:List En):(E8 l).length=l.length:=by simp[E8]
theorem A5t{l:List En}{i:Nat}{e:En}(h:l[i]?=some e):(E8 l)[i]?=some e.ds:=by simp[E8,h]
theorem A1f(l:List En):∀e∈E8 l,e.length=16:=by
 intro e he
 obtain⟨x,_,rfl⟩:=E6.1 he
 rfl
def O8(c:Ch):Bool:=decide (c.k=0)&&(decide (c.nm=[])&&(decide (c.to=[])&&(decide (c.co.nm=[])&&(decide (c.co.k=0)&&(!c.co.nl&&(decide (c.df.k=0)&&(decide (c.df.n=0)&&decide (c.df.s=[]))))))))
theorem B11(e:En):Pure Tryz.prog B4i [e.av] (.d (.bool (O8 e.ch))):=by
 obtain⟨tm,tb,⟨⟨nm,cs,ks,fs,xs⟩,dc,dk,df,dx⟩,⟨k,cnm,to,⟨cn,ck,cl⟩,⟨vk,vn,vs⟩⟩⟩:=e
 unfold O8
 dsimp only
 refine C22.go A6 rfl ?_
 repeat' first|refine st ?_|(with_reducible first|apply A5|apply A4)<;>intro _
 all_goals first|rfl|(simp_all;done)
abbrev bnE(f:FuncId)(at':Int)(nm:List UInt8):D:=.lit (.func (.func f) ⟨[.agg ⟨[.int .i64 at',.string ⟨⟨nm⟩⟩]⟩]⟩ ⟨[]⟩)
def erB(at':Int)(e:En):Bool:=decide (e.tm<=at')
def T5(at':Int)(nm:List UInt8)(e:En):Bool:=decide (e.tm<=at')&&decide (e.tb=nm)
theorem B1l(at':Int)(nm:List UInt8)(e:En):Pure Tryz.prog A8E [.agg [.d (eI at'),.d (.str nm)],e.av] (.d (.bool (erB at' e))):=by
 obtain⟨tm,tb,⟨⟨nm',cs,ks,fs,xs⟩,dc,dk,df,dx⟩,⟨k,cnm,to,⟨cn,ck,cl⟩,⟨vk,vn,vs⟩⟩⟩:=e
 unfold erB
 dsimp only
 refine C24.go A6 rfl ?_
 repeat' first|refine st ?_|(with_reducible first|apply A5|apply A4)<;>intro _
 all_goals first|rfl|(simp_all;done)
theorem B1m(at':Int)(nm:List UInt8)(e:En):Pure Tryz.prog A54 [.agg [.d (eI at'),.d (.str nm)],e.av] (.d (.bool (T5 at' nm e))):=by
 have hE:=B1l at' nm e
 obtain⟨tm,tb,⟨⟨nm',cs,ks,fs,xs⟩,dc,dk,df,dx⟩,⟨k,cnm,to,⟨cn,ck,cl⟩,⟨vk,vn,vs⟩⟩⟩:=e
 unfold T5
 unfold erB at hE
 dsimp only at hE ⊢
 refine C25.go A6 rfl ?_
 cases hb:decide (tm<=at') with
 |false=>
  rw[hb] at hE
  repeat' first|refine st ?_|((with_reducible first|apply A9|apply A8);(·exact hE))|(with_reducible first|apply A5|apply A4)<;>intro _
  all_goals first|rfl|(simp_all;done)
 |true=>
  rw[hb] at hE
  repeat' first|refine st ?_|((with_reducible first|apply A9|apply A8);(·exact hE))|(with_reducible first|apply A5|apply A4)<;>intro _
  all_goals first|rfl|(simp_all;done)
theorem B6z{p:En->Bool}{l:List En}{i:Nat}{e:En}(h:l[i]?=some e):(l.take (i+1)).filter p=(l.take i).filter p++if p e then [e] else []:=by
 rw[S0,h,List.filter_append]
 congr 1
 show List.filter p [e]=_
 cases hp:p e<;>simp[A2I,hp]
theorem A8d(f:FuncId)(at':Int)(nm:List UInt8)(p:En->Bool)(hf:∀e,Pure Tryz.prog f [.agg [.d (eI at'),.d (.str nm)],e.av] (.d (.bool (p e))))(l:List En)(hl:l.length<=1048576)(d:D)(hd:B8 d (E8 l)) :
  Pure Tryz.prog A8D [.d d,.d (bnE f at' nm)] (.d (B9 (E8 (l.filter p)).isEmpty (E8 (l.filter p)))):=by
 obtain⟨R,hR⟩:∃R,R=E8 (l.filter p):=⟨_,rfl⟩
 rw[<- hR]
 have h1:=A0b l
 have hm:=A1f l
 have hg0:=λi c=>@A5t l i c
 obtain⟨es,hes⟩:∃es,es=E8 l:=⟨_,rfl⟩
 rw[<- hes] at h1 hm hd hg0
 refine C23.go A6 rfl ?_
 repeat' first|refine st ?_|(with_reducible first|apply A5|apply A4)<;>intro _
 refine r8 5 16 rfl rfl ?_
 refine P5 A6 C4y C3I (λ(i:Nat) (w:List (List D))=>[.arr 0 w.length,.d (eI i)]) (λi w=>[.arr w 16 0 w.isEmpty]) (λi w=>i<=l.length/\w=E8 ((l.take i).filter p)) (λi w=>l.length-i) 0 [] rfl rfl rfl rfl (λ_ _ _=>⟨rfl,rfl⟩) rfl ⟨by omega,rfl⟩ ?_
 repeat' first|refine st ?_|(with_reducible first|apply A5|apply A4)<;>intro _
 intro i A ⟨g1,g2⟩
 have hAl:A.length<=i:=by
  rw[g2,A0b]
  exact P3 (A26 ..) (by rw[P8];omega)
 have hAm:∀e∈A,e.length=16:=by rw[g2];exact A1f _
 cases hx:l[i]? with
 |some e=>
  have hlt:=(B2.1 hx).1
  have hg:=hg0 i e hx
  have hF:=hf e
  have hs:E8 ((l.take (i+1)).filter p)=A++(if p e then [e.ds] else []):=by
   rw[B6z hx,g2]
   unfold E8
   rw[A11]
   congr 1
   split<;>rfl
  cases hp:p e with
  |true=>
   rw[hp] at hF hs
   obtain⟨tm,tb,⟨⟨nm',cs,ks,fs,xs⟩,dc,dk,df,dx⟩,⟨k,cnm,to,⟨cn,ck,cl⟩,⟨vk,vn,vs⟩⟩⟩:=e
   clear g2 hR hp
   repeat' first|refine st ?_|((with_reducible first|apply A9|apply A8);(·exact hF))|(with_reducible first|apply A5|apply A4)<;>intro _
   exact⟨i+1,A++[_],rfl,rfl,by first|rfl|(simp;done),by omega,by omega,hs.symm⟩
  |false=>
   rw[hp] at hF hs
   obtain⟨tm,tb,⟨⟨nm',cs,ks,fs,xs⟩,dc,dk,df,dx⟩,⟨k,cnm,to,⟨cn,ck,cl⟩,⟨vk,vn,vs⟩⟩⟩:=e
   clear g2 hR hp
   repeat' first|refine st ?_|((with_reducible first|apply A9|apply A8);(·exact hF))|(with_reducible first|apply A5|apply A4)<;>intro _
   exact⟨i+1,A,rfl,rfl,rfl,by omega,by omega,by rw[hs];simp⟩
 |none=>
  have hge:=E4.1 hx
  rw[P2 hge,<- hR] at g2
  subst g2
  clear hR
  repeat' first|refine st ?_|(with_reducible first|apply A5|apply A4)<;>intro _
  all_goals first|rfl|(cases A<;>rfl)
def x3:List En->Bool
 |[]=>false
 |e::_=>O8 e.ch
def u7:List En->TD
 |[]=>P1
 |e::_=>if O8 e.ch then e.cr else P1
def Q8(l:List En):List Ch:=if x3 l then l.tail.map En.ch else []
theorem B12(l:List En)(hl:l.length<=1048576)(d:D)(hd:B8 d (E8 l)) :
  Pure Tryz.prog A8C [.d d] (.tup [(u7 l).av,.d (B9 (I2 (Q8 l)).isEmpty (I2 (Q8 l))),.d (.bool (x3 l))]):=by
 cases l with
 |nil=>
  have hd:B8 d []:=hd
  refine A8m.go A6 rfl ?_
  have h0:([]:List (List D)).length=0:=rfl
  rcases hd with ⟨rfl,_⟩|rfl
  ·repeat' first|refine st ?_|(with_reducible first|apply A5|apply A4)<;>intro _
   all_goals rfl
  ·repeat' first|refine st ?_|(with_reducible first|apply A5|apply A4)<;>intro _
   all_goals rfl
 |cons e r=>
  have hd:d=.sl (E8 (e::r)):=by
   rcases hd with ⟨_,h⟩|h
   ·cases h
   ·exact h
  subst hd
  have hC:=B11 e
  have hg:(E8 (e::r))[((0:Int)).toNat]?=some e.ds:=rfl
  have hln:(E8 (e::r)).length=r.length+1:=by rw[A0b,L0]
  have hp:List.take (((E8 (e::r)).length:Int).toNat-((1:Int)).toNat) (List.drop ((1:Int)).toNat (E8 (e::r)))=E8 r:=by
   rw[hln]
   show List.take (r.length+1-1) (E8 r)=_
   rw[P2 (by rw[A0b];omega)]
  have hm:=A1f (e::r)
  simp only[L0] at hl
  have h1:=A0b r
  have hm1:=A1f r
  have hg0:=λi c=>@A5t r i c
  obtain⟨Es,hEs⟩:∃z,z=E8 (e::r):=⟨_,rfl⟩
  obtain⟨es,hes⟩:∃es,es=E8 r:=⟨_,rfl⟩
  rw[<- hEs] at hg hln hp hm ⊢
  rw[<- hes] at h1 hm1 hg0 hp
  clear hEs hes
  cases hb:O8 e.ch with
  |false=>
   rw[hb] at hC
   have e1:u7 (e::r)=P1:=by show(if O8 e.ch=true then e.cr else P1)=P1;rw[hb];rfl
   have e2:x3 (e::r)=false:=hb
   have e3:Q8 (e::r)=[]:=by unfold Q8;rw[e2];rfl
   rw[e1,e2,e3]
   clear e1 e2 e3 hb
   obtain⟨tm,tb,⟨⟨nm',cs,ks,fs,xs⟩,dc,dk,df,dx⟩,⟨k,cnm,to,⟨cn,ck,cl⟩,⟨vk,vn,vs⟩⟩⟩:=e
   refine A8m.go A6 rfl ?_
   repeat' first|refine st ?_|((with_reducible first|apply A9|apply A8);(·exact hC))|(with_reducible first|apply A5|apply A4)<;>intro _
   all_goals rfl
  |true=>
   rw[hb] at hC
   have e1:u7 (e::r)=e.cr:=by show(if O8 e.ch=true then e.cr else P1)=e.cr;rw[hb];rfl
   have e2:x3 (e::r)=true:=hb
   have e3:Q8 (e::r)=r.map En.ch:=by unfold Q8;rw[e2];rfl
   rw[e1,e2,e3]
   clear e1 e2 e3 hb
   obtain⟨R,hR⟩:∃R,R=I2 (r.map En.ch):=⟨_,rfl⟩
   rw[<- hR]
   obtain⟨tm,tb,⟨⟨nm',cs,ks,fs,xs⟩,dc,dk,df,dx⟩,⟨k,cnm,to,⟨cn,ck,cl⟩,⟨vk,vn,vs⟩⟩⟩:=e
   refine A8m.go A6 rfl ?_
   repeat' first|(rw[hp])|refine st ?_|((with_reducible first|apply A9|apply A8);(·exact hC))|(with_reducible first|apply A5|apply A4)<;>intro _
   refine r8 5 9 rfl rfl ?_
   refine P5 A6 C4x C3H (λ(i:Nat) (w:List (List D))=>[.arr 1 w.length,.d (eI i)]) (λi w=>[.cells [.d (.str []),.d .nil,.d .nil,.d .nil,.d .nil],.arr w 9 0 w.isEmpty]) (λi w=>i<=r.length/\w=I2 ((r.take i).map En.ch)) (λi w=>r.length-i) 0 [] rfl rfl rfl rfl (λ_ _ _=>⟨rfl,rfl⟩) rfl ⟨by omega,rfl⟩ ?_
   repeat' first|refine st ?_|(with_reducible first|apply A5|apply A4)<;>intro _
   intro i A ⟨g1,g2⟩
   have hAl:A.length=i:=by rw[g2,A2i,C7,P8];omega
   have hAm:∀e∈A,e.length=9:=by rw[g2];exact A5r _
   cases hx:r[i]? with
   |some y=>
    have hlt:=(B2.1 hx).1
    have hgy:=hg0 i y hx
    have hs:A++[A1K y.ch]=I2 ((r.take (i+1)).map En.ch):=by rw[g2,S0,hx];simp[I2]
    obtain⟨tm2,tb2,⟨⟨nm2,cs2,ks2,fs2,xs2⟩,dc2,dk2,df2,dx2⟩,⟨k2,cnm2,to2,⟨cn2,ck2,cl2⟩,⟨vk2,vn2,vs2⟩⟩⟩:=y
    clear g2 hR
    repeat' first|refine st ?_|(with_reducible first|apply A5|apply A4)<;>intro _
    exact⟨i+1,A++[_],rfl,rfl,by first|rfl|(simp;done),by omega,by omega,hs⟩
   |none=>
    have hge:=E4.1 hx
    rw[P2 hge,<- hR] at g2
    subst g2
    clear hR
    repeat' first|refine st ?_|(with_reducible first|apply A5|apply A4)<;>intro _
    all_goals first|rfl|(cases A<;>rfl)
end Go.Proofs
end
