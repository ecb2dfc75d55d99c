/- Texts of this claim, joined. No condition. -/
import Derived.Test.YtnhhopmldgpglaaGreatQ7
set_option linter.unusedSimpArgs false
set_option linter.unusedVariables false
set_option maxRecDepth 10000
set_option maxHeartbeats 4000000
section
namespace Go.Proofs
open Go.Bi
theorem B8k{α:Type}{x:α}:∀{l:List α}{i:Nat},l.Nodup->¬x∈l->(l.set i x).Nodup
 |[],_,_,_=>by simp
 |a::l,0,h,hx=>by
  rw[A29] at h
  rw[List.set_cons_zero,A29]
  exact⟨λhm=>hx (by simp[hm]),h.2⟩
 |a::l,i+1,h,hx=>by
  rw[A29] at h
  rw[List.set_cons_succ,A29]
  refine⟨λhm=>?_,B8k h.2 λhm=>hx (by simp[hm])⟩
  rcases A8x hm with hm|rfl
  ·exact h.1 hm
  ·exact hx (by simp)
theorem B8j{α β:Type}{f:α->β}:∀{l:List α},(∀a∈l,∀b∈l,f a=f b->a=b)->l.Nodup->(l.map f).Nodup
 |[],_,_=>by simp
 |a::l,hf,h=>by
  rw[A29] at h
  rw[Q4,A29]
  refine⟨λhm=>?_,B8j (λx hx y hy=>hf x (by simp[hx]) y (by simp[hy])) h.2⟩
  obtain⟨b,hb,e⟩:=F2.1 hm
  have:=hf b (by simp[hb]) a (by simp) e
  subst this
  exact h.1 hb
theorem B8F{f:Int->Int}:∀{l:List Int},(∀a∈l,∀b∈l,a<b->f a<f b)->l.Pairwise (·<·)->(l.map f).Pairwise (·<·)
 |[],_,_=>by simp
 |a::l,hf,h=>by
  rw[s9] at h
  rw[Q4,s9]
  refine⟨λb hb=>?_,B8F (λx hx y hy=>hf x (by simp[hx]) y (by simp[hy])) h.2⟩
  obtain⟨y,hy,rfl⟩:=F2.1 hb
  exact hf a (by simp) y (by simp[hy]) (h.1 y hy)
theorem C8J{i:Nat}{a b:Int}(ha:a≠i)(hb:b≠i)(h:a<b):B0 a i<B0 b i:=by unfold B0;split<;>split<;>omega
theorem C8I{i:Nat}{a b:Int}(ha:a≠i)(hb:b≠i)(h:B0 a i=B0 b i):a=b:=by unfold B0 at h;split at h<;>split at h<;>omega
theorem B62{i n:Nat}{a:Int}(hi:i<n)(ha:a≠i)(h0:0<=a)(h1:a<n):0<=B0 a i/\B0 a i<((n-1:Nat):Int):=by unfold B0;split<;>omega
theorem C9l(l:List Co)(i:Nat){n:Int}(h0:0<=n)(hne:n≠i):(l.eraseIdx i).getD (B0 n i).toNat ⟨[],0,false⟩=l.getD n.toNat ⟨[],0,false⟩:=by
 rw[G9,G9,List.getElem?_eraseIdx]
 unfold B0
 by_cases h:(i:Int)<n
 ·rw[if_pos h,if_neg (by omega)]
  congr 2
  omega
 ·rw[if_neg h,if_pos (by omega)]
theorem B78{t:Tb}(h:J0 t=0){nm:List UInt8}(hf:E8 nm t.cs<0):¬nm∈t.cs.map Co.nm:=by
 intro hm
 obtain⟨c,hc,rfl⟩:=F2.1 hm
 obtain⟨i,hi⟩:=A1E.1 hc
 rw[D0t (B9r h).2.1 hi] at hf
 omega
theorem D0q{t:Tb}{c:Ch}(h:E5 t c=0):Vd (G8 t c):=by
 obtain⟨q1,q2,q3,q4,q5⟩:=A3O h
 have hv:=A0t.1 q1
 have hcp:∀ks,(∀x∈t.xs,G7 ks x=G7 (kd t.cs) x)->∀x∈t.xs.map E9,L9 x<=24/\(G7 ks x).2=0/\((G7 ks x).1=3\/(G7 ks x).1=0):=λks hk x hx=>by
  obtain⟨a,ha,rfl⟩:=F2.1 hx
  rw[B6z,B6y,hk a ha]
  exact hv.xs a ha
 by_cases k1:c.k=1
 ·obtain⟨a1,a2,a3,a4,_⟩:=C8r (q4 k1)
  have e:G8 t c=⟨t.nm,t.cs++[c.co],t.ks,t.fs,t.xs.map E9⟩:=by unfold G8;rw[if_pos k1]
  rw[e]
  refine⟨hv.nm,by rw[Q3];simp,by rw[Q3];simp;omega,λx hx=>?_,?_,hv.k0,λk hk=>?_,hv.ka,hv.fl,λf hf=>?_,by rw[D0];exact hv.xl,?_⟩
  ·rcases P0.1 hx with hx|hx
   ·exact hv.co x hx
   ·cases j5.1 hx;exact⟨a2,a3⟩
  ·rw[s7,List.map_singleton,List.nodup_append]
   refine⟨hv.nd,by simp,λa ha b hb=>?_⟩
   cases j5.1 hb
   intro e
   subst e
   exact B78 q1 a4 ha
  ·obtain⟨b1,b2,b3⟩:=hv.ks k hk
   refine⟨b1,by rw[Q3];simp;omega,?_⟩
   rw[G9,M6 (by omega),<- G9]
   exact b3
  ·obtain⟨b1,b2,b3,b4⟩:=hv.fs f hf
   exact⟨b1,b2,λk hk=>by have:=b3 k hk;rw[Q3];simp;omega,b4⟩
  ·have ek:kd (t.cs++[c.co])=kd t.cs++[c.co.k]:=by simp[kd]
   dsimp only
   rw[ek]
   exact hcp _ λx hx=>C9g _ x (hv.xs x hx).2.1
 ·obtain⟨i,co,hi,hco,hcn,hus,h4,h3⟩:=A79 (q5 k1)
  have hil:=(B2.1 hco).1
  have hiN:(E8 c.nm t.cs).toNat=i:=by omega
  have hgd:t.cs.getD i ⟨[],0,false⟩=co:=by rw[G9,hco];rfl
  by_cases k2:c.k=2
  ·have e:G8 t c=⟨t.nm,t.cs.eraseIdx i,t.ks.map (λx=>B0 x i),t.fs.map (I4 i),t.xs.map (N8 i)⟩:=by unfold G8;rw[if_neg k1,if_pos k2,hiN]
   have hu:=hus (by omega)
   unfold Z5 at hu
   simp only[P0,not_or] at hu
   have u1:∀k∈t.ks,k≠i:=λk hk e=>hu.1.1 (e▸hk)
   have u2:∀f∈t.fs,∀k∈f.cs,k≠i:=λf hf k hk e=>hu.1.2 (A3s.2 ⟨f,hf,e▸hk⟩)
   have u3:∀x∈t.xs,¬(i:Int)∈K9 x:=λx hx hm=>hu.2 (A3s.2 ⟨x,hx,(A7b x i).2 hm⟩)
   have hlen:(t.cs.eraseIdx i).length=t.cs.length-1:=by rw[List.length_eraseIdx,if_pos hil]
   have hk2:∀k∈t.ks,0<=B0 k i/\B0 k i<(t.cs.eraseIdx i).length:=λk hk=>by
    obtain⟨b1,b2,b3⟩:=hv.ks k hk
    rw[hlen]
    exact B62 hil (u1 k hk) b1 b2
   have hl1:=hv.l2
   rw[e]
   refine⟨hv.nm,?_,by rw[hlen];omega,λx hx=>hv.co x (A8w hx),?_,λe=>hv.k0 (List.map_eq_nil_iff.1 e),λk hk=>?_,?_,by rw[D0];exact hv.fl,λf hf=>?_,by rw[D0];exact hv.xl,λx hx=>?_⟩
   ·obtain⟨k,hk⟩:=List.exists_mem_of_ne_nil _ hv.k0
    have:=hk2 k hk
    dsimp only
    omega
   ·dsimp only
    rw[A7y]
    exact hv.nd.sublist (List.eraseIdx_sublist ..)
   ·obtain⟨a,ha,rfl⟩:=F2.1 hk
    obtain⟨b1,b2,b3⟩:=hv.ks a ha
    refine⟨(hk2 a ha).1,(hk2 a ha).2,?_⟩
    dsimp only
    rw[C9l _ _ b1 (u1 a ha)]
    exact b3
   ·exact B8F (λa ha b hb hab=>C8J (u1 a ha) (u1 b hb) hab) hv.ka
   ·obtain⟨g,hg,rfl⟩:=F2.1 hf
    obtain⟨b1,b2,b3,b4⟩:=hv.fs g hg
    refine⟨b1,λe=>b2 (List.map_eq_nil_iff.1 e),λk hk=>?_,B8j (λa ha b hb e=>C8I (u2 g hg a ha) (u2 g hg b hb) e) b4⟩
    obtain⟨a,ha,rfl⟩:=F2.1 hk
    dsimp only
    rw[hlen]
    exact B62 hil (u2 g hg a ha) (b3 a ha).1 (b3 a ha).2
   ·obtain⟨a,ha,rfl⟩:=F2.1 hx
    have ek:kd (t.cs.eraseIdx i)=(kd t.cs).eraseIdx i:=A7y _ _ _
    dsimp only
    rw[ek,C9P,C9f (by rw[A5E];exact hil) a (hv.xs a ha).2.1 (u3 a ha)]
    exact hv.xs a ha
  ·have hset:∀n:Co,n.nl=co.nl->(L2 n.nm=true/\1<=n.k/\n.k<=3)->((t.cs.set i n).map Co.nm).Nodup->(∀x∈t.xs,G7 (kd (t.cs.set i n)) x=G7 (kd t.cs) x)->Vd ⟨t.nm,t.cs.set i n,t.ks,t.fs,t.xs.map E9⟩:=by
    intro n hn1 hn2 hn3 hn4
    refine⟨hv.nm,by rw[Y4];exact hv.l1,by rw[Y4];exact hv.l2,λx hx=>?_,hn3,hv.k0,λk hk=>?_,hv.ka,hv.fl,λf hf=>?_,by rw[D0];exact hv.xl,hcp _ hn4⟩
    ·rcases A8x hx with hx|rfl
     ·exact hv.co x hx
     ·exact hn2
    ·obtain⟨b1,b2,b3⟩:=hv.ks k hk
     refine⟨b1,by rw[Y4];exact b2,?_⟩
     by_cases hki:k.toNat=i
     ·dsimp only
      rw[G9,hki,A4J hil,j7,hn1]
      rw[hki,hgd] at b3
      exact b3
     ·dsimp only
      rw[G9,S7 (λe=>hki e.symm),<- G9]
      exact b3
    ·obtain⟨b1,b2,b3,b4⟩:=hv.fs f hf
     exact⟨b1,b2,λk hk=>by have:=b3 k hk;rw[Y4];exact this,b4⟩
   have hcm:=hv.co co (C2 hco)
   by_cases k3:c.k=3
   ·have e:G8 t c=⟨t.nm,t.cs.set i ⟨c.to,co.k,co.nl⟩,t.ks,t.fs,t.xs.map E9⟩:=by unfold G8;rw[if_neg k1,if_neg k2,if_pos k3,hiN,hgd]
    rw[e]
    refine hset ⟨c.to,co.k,co.nl⟩ rfl ⟨(h3 k3).1,hcm.2⟩ ?_ λx hx=>?_
    ·rw[W4]
     exact B8k hv.nd (B78 q1 (h3 k3).2)
    ·congr 1
     unfold kd
     rw[W4]
     refine A3p λj=>?_
     by_cases hj:i=j
     ·subst hj
      rw[A4J (by rw[D0];exact hil),G4,hco];rfl
     ·rw[S7 hj]
   ·have k4:c.k=4:=by omega
    have e:G8 t c=⟨t.nm,t.cs.set i ⟨co.nm,2,co.nl⟩,t.ks,t.fs,t.xs.map E9⟩:=by unfold G8;rw[if_neg k1,if_neg k2,if_neg k3,hiN,hgd]
    have hu:=hus (by omega)
    unfold Z5 at hu
    simp only[P0,not_or] at hu
    have u3:∀x∈t.xs,¬(i:Int)∈K9 x:=λx hx hm=>hu.2 (A3s.2 ⟨x,hx,(A7b x i).2 hm⟩)
    rw[e]
    refine hset ⟨co.nm,2,co.nl⟩ rfl ⟨hcm.1,(by decide:(1:Int)<=2),(by decide:(2:Int)<=3)⟩ ?_ λx hx=>?_
    ·have:(t.cs.set i ⟨co.nm,2,co.nl⟩).map Co.nm=t.cs.map Co.nm:=by
      rw[W4]
      refine A3p λj=>?_
      by_cases hj:i=j
      ·subst hj
       rw[A4J (by rw[D0];exact hil),G4,hco];rfl
      ·rw[S7 hj]
     rw[this]
     exact hv.nd
    ·have ek:kd (t.cs.set i ⟨co.nm,2,co.nl⟩)=(kd t.cs).set i 2:=by unfold kd;rw[W4]
     rw[ek]
     exact C9h 2 x (u3 x hx)
theorem A4v(t u:Tb)(dc dk df dx dc' dk' df' dx':D)(h:N4 t dc dk df dx)(h':N4 u dc' dk' df' dx')(e:nf t=nf u):Pure Tryz.prog A6N [eT t.nm dc dk df dx,eT u.nm dc' dk' df' dx'] (.d (.bool true)):=by
 obtain⟨nm,cs,ks,fs,xs⟩:=t
 obtain⟨nm',cs',ks',fs',xs'⟩:=u
 unfold nf at e
 injection e with e1 e2 e3 e4 e5
 dsimp only at e1 e2 e3 e4 e5
 subst e1;subst e2;subst e3
 have hI:=A8g ks h.hk dk dk' h.dk h'.dk
 have hfl:fs.length=fs'.length:=by rw[<- D0 (f:=L7),e4,D0]
 have hxl:xs.length=xs'.length:=by rw[<- D0 (f:=E9),e5,D0]
 have hX:=C13 xs xs' hxl h.hxs (λi x y hx hy=>by
  have e6:smE x y=true:=by
   refine C9v x y ?_
   have a1:(xs.map E9)[i]?=some (E9 x):=by rw[G4,hx];rfl
   have a2:(xs'.map E9)[i]?=some (E9 y):=by rw[G4,hy];rfl
   rw[e5,a2] at a1
   exact(Option.some.inj a1).symm
  have b1:x.bk<=2097152:=N7 (h.hxb x (C2 hx)) (by decide)
  have b2:y.bk<=2097152:=N7 (h'.hxb y (C2 hy)) (by decide)
  have:=C15 x (B7Q x b1) y (B7Q y b2)
  rw[e6] at this
  exact this) dx dx' h.dx h'.dx
 have hdc:=h.dc
 have hdc':=h'.dc
 have hdf:=h.df
 have hdf':=h'.df
 have hl:=h.hl
 have hfl0:=h.hfl
 have hfc:=h.hfc
 have hcl:=G5 cs
 have hcm:=I1 cs
 have hgc:=λi c=>@L5 cs i c
 have hf1:=c8 fs
 have hf2:=c8 fs'
 have hf3:=y7 fs
 have hf4:=y7 fs'
 have hgf:=λi c=>@A0i fs i c
 have hgf':=λi c=>@A0i fs' i c
 dsimp only at hdc hdc' hdf hdf' hl hfl0 hfc hI
 obtain⟨Cs,hC⟩:∃x,x=B3 cs:=⟨_,rfl⟩
 obtain⟨Fs,hFs⟩:∃x,x=F8 fs:=⟨_,rfl⟩
 obtain⟨Fs',hFs'⟩:∃x,x=F8 fs':=⟨_,rfl⟩
 rw[<- hC] at hdc hdc' hcl hcm hgc
 rw[<- hFs] at hdf hf1 hf3 hgf
 rw[<- hFs'] at hdf' hf2 hf4 hgf'
 have r0:nm=nm:=rfl
 clear h h'
 refine B1m.go A6 rfl ?_
 repeat' first|refine st ?_|((with_reducible apply D3);conv=>whnf)|((with_reducible first|apply A8|apply A7);(·first|exact hI|exact hX))|(with_reducible first|apply A5|apply A4)<;>intro _
 refine F3 A6 B4h B42 (λ(i:Nat)=>[.d (eI i)]) (λi=>[.cells [.d (.str nm),.d dc,.d dk,.d df,.d dx],.cells [.d (.str nm),.d dc',.d dk',.d df',.d dx']]) (λi=>i<=cs.length) (λi=>cs.length-i) 0 rfl rfl rfl rfl (λ_ _=>⟨rfl,rfl⟩) rfl (by omega) ?_
 repeat' first|refine st ?_|((with_reducible apply D3);conv=>whnf)|(with_reducible first|apply A5|apply A4)<;>intro _
 intro i h4
 cases hx:cs[i]? with
 |some x=>
  have hlt:=(B2.1 hx).1
  obtain⟨n1,k1,l1⟩:=x
  have hg:=hgc i _ hx
  have hg':Cs[((i:Nat):Int).toNat]?=_:=hgc i _ hx
  have r1:n1=n1:=rfl
  have r2:k1=k1:=rfl
  have r3:l1=l1:=rfl
  repeat' first|refine st ?_|((with_reducible apply D3);conv=>whnf)|(with_reducible first|apply A5|apply A4)<;>intro _
  all_goals first|exact⟨i+1,rfl,rfl,rfl,by omega,by omega⟩|(exfalso;simp_all;done)
 |none=>
  have hge:=D1.1 hx
  repeat' first|refine st ?_|((with_reducible apply D3);conv=>whnf)|(with_reducible first|apply A5|apply A4)<;>intro _
  refine F3 A6 B4i B43 (λ(i:Nat)=>[.d (eI i)]) (λi=>[.cells [.d (.str nm),.d dc,.d dk,.d df,.d dx],.cells [.d (.str nm),.d dc',.d dk',.d df',.d dx']]) (λi=>i<=fs.length) (λi=>fs.length-i) 0 rfl rfl rfl rfl (λ_ _=>⟨rfl,rfl⟩) rfl (by omega) ?_
  repeat' first|refine st ?_|((with_reducible apply D3);conv=>whnf)|(with_reducible first|apply A5|apply A4)<;>intro _
  intro j h5
  cases hy:fs[j]? with
  |some f=>
   have hlt:=(B2.1 hy).1
   obtain⟨g,hgg⟩:∃g,fs'[j]?=some g:=⟨_,C9 (by omega)⟩
   have e6:L7 f=L7 g:=by
    have a1:(fs.map L7)[j]?=some (L7 f):=by rw[G4,hy];rfl
    have a2:(fs'.map L7)[j]?=some (L7 g):=by rw[G4,hgg];rfl
    rw[e4,a2] at a1
    exact(Option.some.inj a1).symm
   have hfb:=(hfc f (C2 hy)).1
   obtain⟨f1,f2,f3⟩:=f
   obtain⟨g1,g2,g3⟩:=g
   unfold L7 at e6
   injection e6 with _ e7 e8
   dsimp only at e7 e8
   subst e7;subst e8
   have hJ:=A8g f2 hfb (Fo.mk f1 f2 f3).d (Fo.mk g1 f2 f3).d (Fo.sld _) (Fo.sld _)
   have hg:=hgf j _ hy
   have hg':Fs'[((j:Nat):Int).toNat]?=_:=hgf' j _ hgg
   have hg2:Fs[((j:Nat):Int).toNat]?=_:=hgf j _ hy
   unfold Fo.ds at hg hg' hg2
   obtain⟨d1,hd1⟩:∃d,d=(Fo.mk f1 f2 f3).d:=⟨_,rfl⟩
   obtain⟨d2,hd2⟩:∃d,d=(Fo.mk g1 f2 f3).d:=⟨_,rfl⟩
   rw[<- hd1] at hJ hg hg2
   rw[<- hd2] at hJ hg'
   have r1:f3=f3:=rfl
   have hlt':(j:Int)<Fs'.length:=by omega
   repeat' first|refine st ?_|((with_reducible apply D3);conv=>whnf)|((with_reducible first|apply A8|apply A7);(·exact hJ))|(with_reducible first|apply A5|apply A4)<;>intro _
   all_goals first|exact⟨j+1,rfl,rfl,rfl,by omega,by omega⟩|(exfalso;simp_all;done)
  |none=>
   have hge2:=D1.1 hy
   repeat' first|refine st ?_|((with_reducible apply D3);conv=>whnf)|(with_reducible first|apply A5|apply A4)<;>intro _
   all_goals rfl
structure TD where
 t:Tb
 dc:D
 dk:D
 df:D
 dx:D
abbrev TD.av(x:TD):AV:=eT x.t.nm x.dc x.dk x.df x.dx
structure TD.ok(x:TD):Prop where
 tok:N4 x.t x.dc x.dk x.df x.dx
 rg:x.t.Rg
def K4:TD:=⟨⟨[],[],[],[],[]⟩,.nil,.nil,.nil,.nil⟩
theorem w6:K4.ok:=⟨⟨by decide,by decide,by decide,by decide,by decide,λf hf=>by simp[K4] at hf,by decide,λe he=>by simp[K4] at he,A0S,A0S,A0S,A0S⟩,λe he=>by simp[K4] at he⟩
def slX(l:List Ex):D:=C0 (xL l).isEmpty (xL l)
theorem D33(l:List Ex):B5 (slX l) (xL l):=X5 λe=>w8.1 e
theorem C9B(l:List Fo):B5 (dF l) (F8 l):=X5 λe=>by
 cases l with
 |nil=>rfl
 |cons a r=>cases e
def TD.cp(x:TD):TD:=⟨⟨x.t.nm,x.t.cs,x.t.ks,x.t.fs,x.t.xs.map E9⟩,x.dc,x.dk,dF x.t.fs,slX (x.t.xs.map E9)⟩
theorem TD.cp_ok{x:TD}(h:x.ok):x.cp.ok:=by
 obtain⟨h,hr⟩:=h
 refine⟨⟨h.hn,h.hl,h.hls,h.hk,h.hfl,h.hfc,by show(x.t.xs.map E9).length<=_;rw[D0];exact h.hxs,λe he=>?_,h.dc,h.dk,C9B _,D33 _⟩,λe he=>?_⟩
 ·obtain⟨a,ha,rfl⟩:=F2.1 he
  exact N7 (A5m a) (h.hxb a ha)
 ·obtain⟨a,ha,rfl⟩:=F2.1 he
  exact A9y a (hr a ha)
theorem A44(x:TD):nf x.cp.t=nf x.t:=by
 unfold nf TD.cp
 dsimp only
 rw[A0p (h:=E9) λa ha=>A9x a]
theorem TD.cp_vd{x:TD}(h:J0 x.t=0):J0 x.cp.t=0:=by rw[<- A2B,A44,A2B];exact h
def TD.evo(x:TD)(c:Ch):TD:=⟨G8 x.t c,.sl (B3 (G8 x.t c).cs),C0 (A9 x.dk) (A0 (G8 x.t c).ks),dF (G8 x.t c).fs,slX (G8 x.t c).xs⟩
theorem TD.evo_ok{x:TD}(h:x.ok){c:Ch}(hc:J1 c)(hq:E5 x.t c=0):(x.evo c).ok:=by
 have hx:slX (G8 x.t c).xs=C0 (xL (x.t.xs.map E9)).isEmpty (xL (G8 x.t c).xs):=by
  unfold slX
  congr 1
  unfold G8
  split
  ·rfl
  ·split
   ·cases x.t.xs<;>rfl
   ·split<;>rfl
 have hb:(xL (x.t.xs.map E9)).isEmpty=true->x.t.xs=[]:=λe=>by
  cases hxs:x.t.xs with
  |nil=>rfl
  |cons a l=>rw[hxs] at e;cases e
 refine⟨?_,D0n h.rg c⟩
 unfold TD.evo
 dsimp only
 rw[hx]
 exact D0o h.tok hc (A0t.1 (A3O hq).1) _ hb
theorem C0K(x:TD)(h:x.ok)(c:Ch)(hc:J1 c)(hq:E5 x.t c=0):Pure Tryz.prog R7 [x.av,c.av] (.tup [(x.evo c).av,.d (eI 0)]):=by
 obtain⟨t,dc,dk,df,dx⟩:=x
 obtain⟨h,hr⟩:=h
 dsimp only at h hr hq
 obtain⟨q1,q2,q3,q4,q5⟩:=A3O hq
 have hv:=A0t.1 q1
 have hdc:=C9E h hv
 have hx:=C00 hr
 have hnm:(G8 t c).nm=t.nm:=by unfold G8;split;rfl;split;rfl;split<;>rfl
 have he:slX (G8 t c).xs=C0 (xL (t.xs.map (B8 0))).isEmpty (xL (G8 t c).xs):=by
  rw[hx]
  unfold slX
  congr 1
  unfold G8
  split
  ·rfl
  ·split
   ·cases t.xs<;>rfl
   ·split<;>rfl
 unfold TD.av TD.evo
 dsimp only
 rw[hnm,he]
 by_cases k1:c.k=1
 ·have e:G8 t c=⟨t.nm,t.cs++[c.co],t.ks,t.fs,t.xs.map E9⟩:=by unfold G8;rw[if_pos k1]
  rw[e,<- hx]
  rcases A5H hv.fl with hf|⟨a0,hf⟩|⟨a0,a1,hf⟩|⟨a0,a1,a2,hf⟩|⟨a0,a1,a2,a3,hf⟩
  ·exact C05 t dc dk df dx h c hc hq hf k1
  ·exact C09 t dc dk df dx h c hc hq a0 hf k1
  ·exact C0d t dc dk df dx h c hc hq a0 a1 hf k1
  ·exact C0h t dc dk df dx h c hc hq a0 a1 a2 hf k1
  ·exact C0l t dc dk df dx h c hc hq a0 a1 a2 a3 hf k1
 ·obtain⟨i,co,hi,hco,hcn,hus,_,_⟩:=A79 (q5 k1)
  have hil:=(B2.1 hco).1
  have hiN:(E8 c.nm t.cs).toNat=i:=by omega
  by_cases k2:c.k=2
  ·have e:G8 t c=⟨t.nm,t.cs.eraseIdx i,t.ks.map (λx=>B0 x i),t.fs.map (I4 i),t.xs.map (N8 i)⟩:=by unfold G8;rw[if_neg k1,if_pos k2,hiN]
   have hxd:(t.xs.map (B8 0)).map (E4 (I0 t.cs.length i))=t.xs.map (N8 i):=by
    rw[hx]
    exact A0p λa ha=>D3b i (A5E _) a (hv.xs a ha).2.1
   rw[e,<- hxd]
   have b1:∀k∈t.ks,0<=k/\k<=1048576:=λk hk=>by have:=hv.ks k hk;have:=hv.l2;omega
   have b2:∀g∈t.fs,∀k∈g.cs,0<=k/\k<=1048576:=λg hg k hk=>by have:=(hv.fs g hg).2.2.1 k hk;have:=hv.l2;omega
   have b3:∀e∈t.xs.map (B8 0),e.bk<=1048576:=λe he=>by
    rw[hx] at he
    obtain⟨a,ha,rfl⟩:=F2.1 he
    exact N7 (A5m a) (h.hxb a ha)
   rcases A5H hv.fl with hf|⟨a0,hf⟩|⟨a0,a1,hf⟩|⟨a0,a1,a2,hf⟩|⟨a0,a1,a2,a3,hf⟩
   ·exact C06 t dc dk df dx h c hc hq hf k2 i hi hil hdc b1 b2 b3
   ·exact C0a t dc dk df dx h c hc hq a0 hf k2 i hi hil hdc b1 b2 b3
   ·exact C0e t dc dk df dx h c hc hq a0 a1 hf k2 i hi hil hdc b1 b2 b3
   ·exact C0i t dc dk df dx h c hc hq a0 a1 a2 hf k2 i hi hil hdc b1 b2 b3
   ·exact C0m t dc dk df dx h c hc hq a0 a1 a2 a3 hf k2 i hi hil hdc b1 b2 b3
  ·by_cases k3:c.k=3
   ·have e:G8 t c=⟨t.nm,t.cs.set i ⟨c.to,co.k,co.nl⟩,t.ks,t.fs,t.xs.map E9⟩:=by unfold G8;rw[if_neg k1,if_neg k2,if_pos k3,hiN,B7w hco]
    rw[e,<- hx]
    rcases A5H hv.fl with hf|⟨a0,hf⟩|⟨a0,a1,hf⟩|⟨a0,a1,a2,hf⟩|⟨a0,a1,a2,a3,hf⟩
    ·exact C07 t dc dk df dx h c hc hq hf k3 i hi co hco hdc
    ·exact C0b t dc dk df dx h c hc hq a0 hf k3 i hi co hco hdc
    ·exact C0f t dc dk df dx h c hc hq a0 a1 hf k3 i hi co hco hdc
    ·exact C0j t dc dk df dx h c hc hq a0 a1 a2 hf k3 i hi co hco hdc
    ·exact C0n t dc dk df dx h c hc hq a0 a1 a2 a3 hf k3 i hi co hco hdc
   ·have k4:c.k=4:=by omega
    have e:G8 t c=⟨t.nm,t.cs.set i ⟨co.nm,2,co.nl⟩,t.ks,t.fs,t.xs.map E9⟩:=by unfold G8;rw[if_neg k1,if_neg k2,if_neg k3,hiN,B7w hco]
    rw[e,<- hx]
    rcases A5H hv.fl with hf|⟨a0,hf⟩|⟨a0,a1,hf⟩|⟨a0,a1,a2,hf⟩|⟨a0,a1,a2,a3,hf⟩
    ·exact C08 t dc dk df dx h c hc hq hf k4 i hi co hco hdc
    ·exact C0c t dc dk df dx h c hc hq a0 hf k4 i hi co hco hdc
    ·exact C0g t dc dk df dx h c hc hq a0 a1 hf k4 i hi co hco hdc
    ·exact C0k t dc dk df dx h c hc hq a0 a1 a2 hf k4 i hi co hco hdc
    ·exact C0o t dc dk df dx h c hc hq a0 a1 a2 a3 hf k4 i hi co hco hdc
theorem C0L(x:TD)(h:x.ok)(c:Ch)(hc:J1 c)(hq:E5 x.t c≠0):Pure Tryz.prog R7 [x.av,c.av] (.tup [K4.av,.d (eI (E5 x.t c))]):=
 C0p x.t x.dc x.dk x.df x.dx h.tok c hc hq
theorem C9J{os:List AO}{nm:List UInt8}{a b f x:Nat}{K X Cs:List (List D)}{rows:List (List AV)}{fs:List Fo}{cn kn xn nl:Bool}{cz kz xz cf kf xf lf:Nat}(hlf:lf=rows.length)
  (h1:os[a]?=some (.arr Cs cz cf cn)) (h2:os[b]?=some (.arr K kz kf kn)) (h3:os[f]?=some (.rarr rows 2 nl)) (h4:os[x]?=some (.arr X xz xf xn)) (hl:fs.length=rows.length)
  (hr:∀(i:Nat) e (g:Fo),rows[i]?=some e->fs[i]?=some g->∃q es fl,e=[.arr q es.length,.d (.str g.tb)]/\os[q]?=some (.arr es 1 0 fl)/\g.d=C0 fl es) :
  DA os (.agg [.d (.str nm),.arr a Cs.length,.arr b K.length,.rs f lf,.arr x X.length]) (eT nm (C0 cn Cs) (C0 kn K) (C0 nl (F8 fs)) (C0 xn X)):=by
 subst hlf
 have h:=V6 (nm:=nm) (e:=.nil) (.inl (.inr ⟨a,Cs,cz,cf,cn,rfl,h1,rfl⟩)) h2 h3 h4 hl hr
 rcases h with h|⟨cs,rs,e1,e2,e3,e4⟩
 ·rcases h with ⟨x,hx,_⟩|⟨_,_,hx,_⟩
  ·rcases hx with (hx|⟨_,_,_,_,_,hx,_⟩)|⟨_,_,_,_,_,hx,_⟩<;>cases hx
  ·cases hx
 ·cases e1;cases e2
  exact .inl (e4 0 _ _ rfl rfl)
theorem B0i:∀(k:Nat)(l:List Fi),(A37 k l).length=l.length
 |_,[]=>rfl
 |k,f::fs=>by rw[A37,N9,B0i (k+1) fs,N9]
theorem B91:∀(l:List Fi)(k i:Nat)(f:Fi),l[i]?=some f->(A37 k l)[i]?=some [.arr (k+i) f.es.length,.d (.str f.tb)]
 |[],_,i,f,h=>by simp at h
 |a::l,k,0,f,h=>by cases h;rfl
 |a::l,k,i+1,f,h=>by
  rw[A37,A0W,B91 l (k+1) i f (by simpa using h),show k+1+i=k+(i+1) by omega]
def Fi.of(g:Fo):Fi:=⟨g.d,A0 g.cs,A9 g.d,g.tb⟩
theorem B0T(x:TD)(h:x.ok)(hf4:x.t.fs.length<=4):Pure Tryz.prog A1I [x.av] x.cp.av:=by
 obtain⟨t,dc,dk,df,dx⟩:=x
 obtain⟨h,hr⟩:=h
 dsimp only at h hr hf4
 have hx:=C00 hr
 have hok:∀g∈t.fs,(Fi.of g).ok:=λg hg=>H5 _ (by rw[B6];have:=(h.hfc g hg).1;omega) (D2 _) g.d g.sld
 have hC:=V3 (B3 t.cs) (by rw[G5];have:=h.hl;omega) (I1 _) dc h.dc
 have hI:=H5 (A0 t.ks) (by rw[B6];have:=h.hk;omega) (D2 _) dk h.dk
 have key:∀(l:List Fi) (hl:l=t.fs.map Fi.of) (n:Nat) (hn:n=l.length) (tab out:List AV),DA (b9 tab out t.nm (B3 t.cs) (A0 t.ks) (A9 dc) (A9 dk) l (xL (t.xs.map (B8 0))) (xL (t.xs.map (B8 0))).isEmpty) (.agg (oB t.nm (B3 t.cs).length (A0 t.ks).length n (xL (t.xs.map (B8 0))).length))
   (eT t.nm (C0 (A9 dc) (B3 t.cs)) (C0 (A9 dk) (A0 t.ks)) (C0 l.isEmpty (F8 t.fs)) (C0 (xL (t.xs.map (B8 0))).isEmpty (xL (t.xs.map (B8 0))))):=by
  intro l hl n hn tab out
  refine C9J (rows:=A37 7 l) (fs:=t.fs) (by rw[B0i];exact hn) rfl rfl rfl rfl (by rw[B0i,hl,D0]) λi e g he hg=>?_
  have h1:l[i]?=some (Fi.of g):=by rw[hl,G4,hg];rfl
  rw[B91 l 7 i _ h1] at he
  cases he
  refine⟨7+i,A0 g.cs,A9 g.d,rfl,?_,(O8 g.sld).symm⟩
  unfold b9
  rw[R6 (by simp)]
  show(A9V l)[7+i-7]?=_
  unfold A9V
  rw[show 7+i-7=i by omega,G4,h1]
  rfl
 have fin:∀(l:List Fi),l=t.fs.map Fi.of->TD.av (TD.cp ⟨t,dc,dk,df,dx⟩)=eT t.nm (C0 (A9 dc) (B3 t.cs)) (C0 (A9 dk) (A0 t.ks)) (C0 l.isEmpty (F8 t.fs)) (C0 (xL (t.xs.map (B8 0))).isEmpty (xL (t.xs.map (B8 0)))):=by
  intro l hl
  rw[O8 h.dc,O8 h.dk,hx,hl]
  unfold TD.av TD.cp dF slX
  dsimp only
  have e:(t.fs.map Fi.of).isEmpty=t.fs.isEmpty:=by cases t.fs<;>rfl
  rw[e]
 have hdf:=h.df
 rcases A5H hf4 with hf|⟨a0,hf⟩|⟨a0,a1,hf⟩|⟨a0,a1,a2,hf⟩|⟨a0,a1,a2,a3,hf⟩
 ·have hd:B5 df []:=by rw[hf] at hdf;exact hdf
  refine B4.deepP (A4l t.nm dc dk df dx (B3 t.cs) (A0 t.ks) (A9 dc) (A9 dk) hC hI hd t.xs h.hxb h.hxs h.dx) ?_
  rintro r os ⟨rfl,rfl⟩
  rw[fin [] (by rw[hf];rfl)]
  exact key [] (by rw[hf];rfl) 0 rfl _ _
 all_goals
  have hd:df=.sl (R4 (t.fs.map Fi.of)):=by
   have e:R4 (t.fs.map Fi.of)=F8 t.fs:=by unfold R4 F8;rw[W3];rfl
   rw[e]
   rcases hdf with ⟨_,h2⟩|h2
   ·rw[hf] at h2;cases h2
   ·exact h2
  rw[hf] at hd
 ·refine B4.deepP (A4m t.nm dc dk df dx (B3 t.cs) (A0 t.ks) (A9 dc) (A9 dk) hC hI (Fi.of a0) (hok a0 (by rw[hf];simp)) hd t.xs h.hxb h.hxs h.dx) ?_
  rintro r os ⟨rfl,rfl⟩
  rw[fin [Fi.of a0] (by rw[hf];rfl)]
  exact key _ (by rw[hf];rfl) 1 rfl _ _
 ·refine B4.deepP (A4n t.nm dc dk df dx (B3 t.cs) (A0 t.ks) (A9 dc) (A9 dk) hC hI (Fi.of a0) (Fi.of a1) (hok a0 (by rw[hf];simp)) (hok a1 (by rw[hf];simp)) hd t.xs h.hxb h.hxs h.dx) ?_
  rintro r os ⟨rfl,rfl⟩
  rw[fin [Fi.of a0,Fi.of a1] (by rw[hf];rfl)]
  exact key _ (by rw[hf];rfl) 2 rfl _ _
 ·refine B4.deepP (A4o t.nm dc dk df dx (B3 t.cs) (A0 t.ks) (A9 dc) (A9 dk) hC hI (Fi.of a0) (Fi.of a1) (Fi.of a2) (hok a0 (by rw[hf];simp)) (hok a1 (by rw[hf];simp)) (hok a2 (by rw[hf];simp)) hd t.xs h.hxb h.hxs h.dx) ?_
  rintro r os ⟨rfl,rfl⟩
  rw[fin [Fi.of a0,Fi.of a1,Fi.of a2] (by rw[hf];rfl)]
  exact key _ (by rw[hf];rfl) 3 rfl _ _
 ·refine B4.deepP (A4p t.nm dc dk df dx (B3 t.cs) (A0 t.ks) (A9 dc) (A9 dk) hC hI (Fi.of a0) (Fi.of a1) (Fi.of a2) (Fi.of a3) (hok a0 (by rw[hf];simp)) (hok a1 (by rw[hf];simp)) (hok a2 (by rw[hf];simp)) (hok a3 (by rw[hf];simp)) hd t.xs h.hxb h.hxs h.dx) ?_
  rintro r os ⟨rfl,rfl⟩
  rw[fin [Fi.of a0,Fi.of a1,Fi.of a2,Fi.of a3] (by rw[hf];rfl)]
  exact key _ (by rw[hf];rfl) 4 rfl _ _
theorem B15(ks:List Int)(hk:ks.length<=1048576)(hb:∀k∈ks,0<=k/\k<=1048576)(i:Int)(d:D)(hd:B5 d (A0 ks)):Pure Tryz.prog B4M [.d d,.d (eI i)] (.d (.sl (A0 (ks.map λc=>B0 c i)))):=by
 refine C2r.go A6 rfl ?_
 have h1:=B6 ks
 obtain⟨R,hR⟩:∃R,R=A0 (ks.map λc=>B0 c i):=⟨_,rfl⟩
 rw[<- hR]
 repeat' first|refine st ?_|((with_reducible apply D3);conv=>whnf)|(with_reducible first|apply A5|apply A4)<;>intro _
 refine I8 A6 C5k C4e (λ(j:Nat) (es:List (List D))=>[.arr 0 es.length,.d (eI j)]) (λj es=>[.arr es 1 0 false]) (λj es=>j<=ks.length/\es=A0 ((ks.take j).map λc=>B0 c i)) (λj _=>ks.length-j) 0 [] rfl rfl rfl rfl (λ_ _ _=>⟨rfl,rfl⟩) rfl ⟨by omega,rfl⟩ ?_
 repeat' first|refine st ?_|((with_reducible apply D3);conv=>whnf)|(with_reducible first|apply A5|apply A4)<;>intro _
 intro j es ⟨h2,h3⟩
 have hes:es.length=j:=by rw[h3,B6,D0,N6];omega
 have hem:∀e∈es,e.length=1:=by rw[h3];exact D2 _
 cases hx:ks[j]? with
 |some c=>
  have hlt:=(B2.1 hx).1
  have hg:=J9 hx
  obtain⟨b1,b2⟩:=hb c (C2 hx)
  have hs:es++[[eI (B0 c i)]]=A0 ((ks.take (j+1)).map λc=>B0 c i):=by rw[h3,P5,hx];simp[A0]
  unfold B0 at hs
  by_cases hc:i<c
  ·rw[if_pos hc] at hs
   clear h3
   repeat' first|refine st ?_|((with_reducible apply D3);conv=>whnf)|(with_reducible first|apply A5|apply A4)<;>intro _
   exact⟨j+1,es++[[eI (c-1)]],rfl,rfl,rfl,by omega,by omega,hs⟩
  ·rw[if_neg hc] at hs
   clear h3
   repeat' first|refine st ?_|((with_reducible apply D3);conv=>whnf)|(with_reducible first|apply A5|apply A4)<;>intro _
   exact⟨j+1,es++[[eI c]],rfl,rfl,rfl,by omega,by omega,hs⟩
 |none=>
  have hge:=D1.1 hx
  rw[L0 hge,<- hR] at h3
  subst h3
  repeat' first|refine st ?_|((with_reducible apply D3);conv=>whnf)|(with_reducible first|apply A5|apply A4)<;>intro _
  all_goals rfl
theorem C1m(i:Nat):∀e:Ex,e.bk<=1048576->e.Rg->Pure Tryz.prog B4N [e.av,.d (eI i)] (N8 i e).av:=by
 refine Ex.ind λop n v nm nl args ih hb hr=>?_
 obtain⟨b1,b2,b3,b4⟩:=Ex.bk_bounds hb
 cases hr with
 |mk r1 r2 hra=>
 rw[A2j,Ex.av_mk]
 have h1:=I3 args
 have hm:=N5 args
 obtain⟨da,hda⟩:∃d,d=ng nl (xL args):=⟨_,rfl⟩
 have hsd:B5 da (xL args):=by rw[hda];exact i5
 rw[<- hda]
 have r0:v.k=v.k:=rfl
 have r1':v.s=v.s:=rfl
 have r2':nm=nm:=rfl
 have q1:IntKind.i64.min=-9223372036854775808:=rfl
 have q2:IntKind.i64.max=9223372036854775807:=rfl
 obtain⟨n',hn'⟩:∃n',n'=(if op=2 then B0 n i else n):=⟨_,rfl⟩
 rw[<- hn',Ex.av_mk,A7C]
 have key:(op=2/\(i:Int)<n/\n-1=n')\/(op=2/\¬(i:Int)<n/\n=n')\/(op≠2/\n=n'):=by
  by_cases h2:op=2
  ·rw[if_pos h2] at hn'
   unfold B0 at hn'
   by_cases h3:(i:Int)<n
   ·rw[if_pos h3] at hn';exact .inl ⟨h2,h3,hn'.symm⟩
   ·rw[if_neg h3] at hn';exact .inr (.inl ⟨h2,h3,hn'.symm⟩)
  ·rw[if_neg h2] at hn';exact .inr (.inr ⟨h2,hn'.symm⟩)
 clear hn'
 refine C2s.go A6 rfl ?_
 rcases key with ⟨g1,g2,rfl⟩|⟨g1,g2,rfl⟩|⟨g1,rfl⟩
 ·subst g1
  repeat' first|refine st ?_|((with_reducible apply D3);conv=>whnf)|(with_reducible first|apply A5|apply A4)<;>intro _
  refine A2E 2 6 7 rfl rfl rfl ?_
  refine I8 A6 B4j B44 (λ(j:Nat) (w:List (List D)×Bool)=>[.d (eI j)]) (λj w=>[.cells [.d (eI 2),.d (eI n),.d (eI v.k),.d (eI v.n),.d (.str v.s),.d (.str nm),.d da],.cells [.d (eI 0),.d (eI 0),.d (eI 0),.d (eI 0),.d (.str []),.d (.str []),.d .nil],.cells [.d (eI 2),.d (eI (n-1)),.d (eI v.k),.d (eI v.n),.d (.str v.s),.d (.str nm),.arr 3 w.1.length],.arr w.1 7 0 w.2]) (λj w=>j<=args.length/\w.1=Mt (N8 i) args j/\w.2=w.1.isEmpty) (λj w=>args.length-j) 0 ([],true) rfl rfl rfl rfl (λ_ _ _=>⟨rfl,rfl⟩) rfl ⟨by omega,rfl,rfl⟩ ?_
  repeat' first|refine st ?_|((with_reducible apply D3);conv=>whnf)|(with_reducible first|apply A5|apply A4)<;>intro _
  intro j w ⟨h4,h5,h6⟩
  obtain⟨A,b⟩:=w
  dsimp only at h5 h6 ⊢
  have hAl:A.length=j:=by rw[h5];exact x5 _ args j (by omega)
  have hAm:∀e∈A,e.length=7:=by rw[h5];exact x6 _ _ _
  cases hx:args[j]? with
  |some x=>
   have hlt:=(B2.1 hx).1
   have hs:=x7 (φ:=N8 i) hx
   have hg:=m4 hx
   have hi:=ih x (C2 hx) (b4 x (C2 hx)) (hra x (C2 hx))
   rw[<- h5] at hs
   obtain⟨z,hz⟩:∃z,z=N8 i x:=⟨_,rfl⟩
   rw[<- hz] at hs hi
   obtain⟨o1,n1,v1,m1,l1,a1⟩:=x
   obtain⟨o2,n2,v2,m2,l2,a2⟩:=z
   rw[Ex.ds_mk] at hg hs
   rw[Ex.av_mk,Ex.av_mk] at hi
   repeat' first|refine st ?_|((with_reducible apply D3);conv=>whnf)|((with_reducible first|apply A8|apply A7);(·exact hi))|(with_reducible first|apply A5|apply A4)<;>intro _
   exact⟨j+1,(A++[V2 o2 n2 v2 m2 (ng l2 (xL a2))],false),rfl,rfl,rfl,by omega,by omega,hs,by simp⟩
  |none=>
   have hge:=D1.1 hx
   rw[x4 hge] at h5
   rw[<- h5,<- h6]
   cases b with
   |true=>
    rw[if_pos rfl]
    repeat' first|refine st ?_|((with_reducible apply D3);conv=>whnf)|(with_reducible first|apply A5|apply A4)<;>intro _
    all_goals rfl
   |false=>
    rw[if_neg (by simp)]
    repeat' first|refine st ?_|((with_reducible apply D3);conv=>whnf)|(with_reducible first|apply A5|apply A4)<;>intro _
    all_goals rfl
 all_goals
  repeat' first|refine st ?_|((with_reducible apply D3);conv=>whnf)|(with_reducible first|apply A5|apply A4)<;>intro _
  refine A2E 2 6 7 rfl rfl rfl ?_
  refine I8 A6 B4j B44 (λ(j:Nat) (w:List (List D)×Bool)=>[.d (eI j)]) (λj w=>[.cells [.d (eI op),.d (eI n),.d (eI v.k),.d (eI v.n),.d (.str v.s),.d (.str nm),.d da],.cells [.d (eI 0),.d (eI 0),.d (eI 0),.d (eI 0),.d (.str []),.d (.str []),.d .nil],.cells [.d (eI op),.d (eI n),.d (eI v.k),.d (eI v.n),.d (.str v.s),.d (.str nm),.arr 3 w.1.length],.arr w.1 7 0 w.2]) (λj w=>j<=args.length/\w.1=Mt (N8 i) args j/\w.2=w.1.isEmpty) (λj w=>args.length-j) 0 ([],true) rfl rfl rfl rfl (λ_ _ _=>⟨rfl,rfl⟩) rfl ⟨by omega,rfl,rfl⟩ ?_
  repeat' first|refine st ?_|((with_reducible apply D3);conv=>whnf)|(with_reducible first|apply A5|apply A4)<;>intro _
  intro j w ⟨h4,h5,h6⟩
  obtain⟨A,b⟩:=w
  dsimp only at h5 h6 ⊢
  have hAl:A.length=j:=by rw[h5];exact x5 _ args j (by omega)
  have hAm:∀e∈A,e.length=7:=by rw[h5];exact x6 _ _ _
  cases hx:args[j]? with
  |some x=>
   have hlt:=(B2.1 hx).1
   have hs:=x7 (φ:=N8 i) hx
   have hg:=m4 hx
   have hi:=ih x (C2 hx) (b4 x (C2 hx)) (hra x (C2 hx))
   rw[<- h5] at hs
   obtain⟨z,hz⟩:∃z,z=N8 i x:=⟨_,rfl⟩
   rw[<- hz] at hs hi
   obtain⟨o1,n1,v1,m1,l1,a1⟩:=x
   obtain⟨o2,n2,v2,m2,l2,a2⟩:=z
   rw[Ex.ds_mk] at hg hs
   rw[Ex.av_mk,Ex.av_mk] at hi
   repeat' first|refine st ?_|((with_reducible apply D3);conv=>whnf)|((with_reducible first|apply A8|apply A7);(·exact hi))|(with_reducible first|apply A5|apply A4)<;>intro _
   exact⟨j+1,(A++[V2 o2 n2 v2 m2 (ng l2 (xL a2))],false),rfl,rfl,rfl,by omega,by omega,hs,by simp⟩
  |none=>
   have hge:=D1.1 hx
   rw[x4 hge] at h5
   rw[<- h5,<- h6]
   cases b with
   |true=>
    rw[if_pos rfl]
    repeat' first|refine st ?_|((with_reducible apply D3);conv=>whnf)|(with_reducible first|apply A5|apply A4)<;>intro _
    all_goals rfl
   |false=>
    rw[if_neg (by simp)]
    repeat' first|refine st ?_|((with_reducible apply D3);conv=>whnf)|(with_reducible first|apply A5|apply A4)<;>intro _
    all_goals rfl
def F0(l:List Fo):List (List D):=F8 (l.map L7)
theorem B1J(l:List Fo):(F0 l).length=l.length:=by unfold F0;rw[c8,D0]
theorem B1K(l:List Fo):∀e∈F0 l,e.length=2:=y7 _
theorem B1L{l:List Fo}{i:Nat}{f:Fo}(h:l[i]?=some f):F0 (l.take i)++[[.sl (A0 f.cs),.str f.tb]]=F0 (l.take (i+1)):=by
 unfold F0
 rw[P5,h]
 simp[F8,L7,Fo.ds,Fo.d,ng]
theorem B12(x:TD)(h:x.ok):B4 Tryz.prog A3u [x.av] [] (λr os=>r=.agg [.d (.str x.t.nm),.arr 3 (B3 x.t.cs).length,.arr 4 (A0 x.t.ks).length,.arr 5 (F0 x.t.fs).length,.arr 6 (xL (x.t.xs.map E9)).length]/\
  ∃a b c,os=[a,b,c,.arr (B3 x.t.cs) 3 0 (B3 x.t.cs).isEmpty,.arr (A0 x.t.ks) 1 0 (A0 x.t.ks).isEmpty,.arr (F0 x.t.fs) 2 0 (F0 x.t.fs).isEmpty,.arr (xL (x.t.xs.map E9)) 7 0 (xL (x.t.xs.map E9)).isEmpty]):=by
 obtain⟨⟨nm,cs,ks,fs,xs⟩,dc,dk,df,dx⟩:=x
 obtain⟨⟨h1,h2,h3,h4,h5,h6,h7,h8,h9,h10,h11,h12⟩,hr⟩:=h
 dsimp only at h1 h2 h3 h4 h5 h6 h7 h8 h9 h10 h11 h12 hr ⊢
 have c1:=G5 cs
 have c2:=I1 cs
 have k1:=B6 ks
 have k2:=D2 ks
 have f1:=c8 fs
 have f2:=y7 fs
 have f3:=λi f=>@A0i fs i f
 have x1:=I3 xs
 have x2:=N5 xs
 have x3:=m5 (args:=xs)
 obtain⟨Cs,hCs⟩:∃z,z=B3 cs:=⟨_,rfl⟩
 obtain⟨Ks,hKs⟩:∃z,z=A0 ks:=⟨_,rfl⟩
 obtain⟨Fs,hFs⟩:∃z,z=F8 fs:=⟨_,rfl⟩
 obtain⟨Xs,hXs⟩:∃z,z=xL xs:=⟨_,rfl⟩
 obtain⟨FR,hFR⟩:∃z,z=F0 fs:=⟨_,rfl⟩
 obtain⟨XR,hXR⟩:∃z,z=xL (xs.map E9):=⟨_,rfl⟩
 rw[<- hCs] at c1 c2 h9 ⊢
 rw[<- hKs] at k1 k2 h10 ⊢
 rw[<- hFs] at f1 f2 f3 h11
 rw[<- hXs] at x1 x2 x3 h12
 rw[<- hFR,<- hXR]
 have b1:(([]:List (List D)).length+Cs.length)*32<=140737488355328/\([]:List (List D)).length+Cs.length<=9223372036854775807:=by rw[X7];omega
 have b2:(([]:List (List D)).length+Ks.length)*8<=140737488355328/\([]:List (List D)).length+Ks.length<=9223372036854775807:=by rw[X7];omega
 refine C2e.goO A6 rfl ?_
 repeat' first|refine st ?_|(with_reducible first|apply A5|apply A4)<;>intro _
 refine A2E 2 3 2 rfl rfl rfl ?_
 refine I8 A6 C57 C41 (λ(i:Nat) (w:List (List D)×Bool)=>[.d (eI i)]) (λi w=>[.cells [.d (.str nm),.d dc,.d dk,.d df,.d dx],.cells [.d (.str []),.d .nil,.d .nil,.d .nil,.d .nil],.cells [.d (.str nm),.arr 3 Cs.length,.arr 4 Ks.length,.arr 5 w.1.length,.d .nil],.arr Cs 3 0 Cs.isEmpty,.arr Ks 1 0 Ks.isEmpty,.arr w.1 2 0 w.2]) (λi w=>i<=fs.length/\w.1=F0 (fs.take i)/\w.2=w.1.isEmpty) (λi w=>fs.length-i) 0 ([],true) rfl rfl rfl rfl (λ_ _ _=>⟨rfl,rfl⟩) rfl ⟨by omega,rfl,rfl⟩ ?_
 repeat' first|refine st ?_|(with_reducible first|apply A5|apply A4)<;>intro _
 intro i w ⟨g1,g2,g3⟩
 obtain⟨A,b⟩:=w
 dsimp only at g2 g3 ⊢
 have hAl:A.length=i:=by rw[g2,B1J,N6];omega
 have hAm:∀e∈A,e.length=2:=by rw[g2];exact B1K _
 cases hy:fs[i]? with
 |some f=>
  have hlt:=(B2.1 hy).1
  have hg:=f3 i f hy
  have hs:=B1L hy
  rw[<- g2] at hs
  have hfb:=(h6 f (C2 hy)).1
  have e1:=f.sld
  have e2:=B6 f.cs
  have e3:=D2 f.cs
  unfold Fo.ds at hg
  obtain⟨fd,hfd⟩:∃z,z=f.d:=⟨_,rfl⟩
  obtain⟨E,hE⟩:∃z,z=A0 f.cs:=⟨_,rfl⟩
  obtain⟨tb,htb⟩:∃z,z=f.tb:=⟨_,rfl⟩
  rw[<- hfd] at hg e1
  rw[<- htb] at hg hs
  rw[<- hE] at e1 e2 e3 hs
  have b3:(([]:List (List D)).length+E.length)*8<=140737488355328/\([]:List (List D)).length+E.length<=9223372036854775807:=by rw[X7];omega
  clear g2
  repeat' first|refine st ?_|(with_reducible first|apply A5|apply A4)<;>intro _
  exact⟨i+1,(A++[[.sl E,.str tb]],false),rfl,rfl,by first|rfl|(simp[CnD];done),by omega,by omega,hs,by simp⟩
 |none=>
  have hge:=D1.1 hy
  rw[L0 hge,<- hFR] at g2
  subst g2
  subst g3
  repeat' first|refine st ?_|(with_reducible first|apply A5|apply A4)<;>intro _
  refine A2E 2 4 7 rfl rfl rfl ?_
  refine I8 A6 C58 C42 (λ(i:Nat) (w:List (List D)×Bool)=>[.d (eI i)]) (λi w=>[.cells [.d (.str nm),.d dc,.d dk,.d df,.d dx],.cells [.d (.str []),.d .nil,.d .nil,.d .nil,.d .nil],.cells [.d (.str nm),.arr 3 Cs.length,.arr 4 Ks.length,.arr 5 A.length,.arr 6 w.1.length],.arr Cs 3 0 Cs.isEmpty,.arr Ks 1 0 Ks.isEmpty,.arr A 2 0 A.isEmpty,.arr w.1 7 0 w.2]) (λi w=>i<=xs.length/\w.1=Mt E9 xs i/\w.2=w.1.isEmpty) (λi w=>xs.length-i) 0 ([],true) rfl rfl rfl rfl (λ_ _ _=>⟨rfl,rfl⟩) rfl ⟨by omega,rfl,rfl⟩ ?_
  repeat' first|refine st ?_|(with_reducible first|apply A5|apply A4)<;>intro _
  intro q w ⟨g4,g5,g6⟩
  obtain⟨B,b⟩:=w
  dsimp only at g5 g6 ⊢
  have hBl:B.length=q:=by rw[g5];exact x5 _ xs q (by omega)
  have hBm:∀e∈B,e.length=7:=by rw[g5];exact x6 _ _ _
  cases hx:xs[q]? with
  |some y=>
   have hlt:=(B2.1 hx).1
   have hs:=x7 (φ:=E9) hx
   have hS:=C16 0 y (h8 y (C2 hx))
   rw[B9h y (hr y (C2 hx))] at hS
   rw[<- g5] at hs
   obtain⟨z,hz⟩:∃z,z=E9 y:=⟨_,rfl⟩
   rw[<- hz] at hs hS
   obtain⟨o1,n1,v1,m1,l1,a1⟩:=y
   obtain⟨o2,n2,v2,m2,l2,a2⟩:=z
   have hg:=x3 _ _ _ _ _ _ _ hx
   rw[Ex.ds_mk] at hs
   rw[Ex.av_mk,Ex.av_mk] at hS
   clear g5
   repeat' first|refine st ?_|((with_reducible first|apply A8|apply A7);(·exact hS))|(with_reducible first|apply A5|apply A4)<;>intro _
   exact⟨q+1,(B++[V2 o2 n2 v2 m2 (ng l2 (xL a2))],false),rfl,rfl,rfl,by omega,by omega,hs,by simp⟩
  |none=>
   have hge:=D1.1 hx
   rw[x4 hge,<- hXR] at g5
   subst g5
   subst g6
   repeat' first|refine st ?_|(with_reducible first|apply A5|apply A4)<;>intro _
   all_goals exact⟨rfl,_,_,_,rfl⟩
def eD(l:List (List D)):D:=C0 l.isEmpty l
theorem A1c(l:List (List D)):B5 (eD l) l:=X5 λe=>w8.1 e
def TD.cpR(x:TD):TD:=⟨⟨x.t.nm,x.t.cs,x.t.ks,x.t.fs.map L7,x.t.xs.map E9⟩,eD (B3 x.t.cs),eD (A0 x.t.ks),eD (F0 x.t.fs),eD (xL (x.t.xs.map E9))⟩
theorem TD.cpR_ok{x:TD}(h:x.ok):x.cpR.ok:=by
 obtain⟨h,hr⟩:=h
 refine⟨⟨h.hn,h.hl,h.hls,h.hk,by show(x.t.fs.map L7).length<=_;rw[D0];exact h.hfl,λf hf=>?_,by show(x.t.xs.map E9).length<=_;rw[D0];exact h.hxs,λe he=>?_,A1c _,A1c _,A1c _,A1c _⟩,λe he=>?_⟩
 ·obtain⟨g,hg,rfl⟩:=F2.1 hf
  exact h.hfc g hg
 ·obtain⟨a,ha,rfl⟩:=F2.1 he
  exact N7 (A5m a) (h.hxb a ha)
 ·obtain⟨a,ha,rfl⟩:=F2.1 he
  exact A9y a (hr a ha)
theorem B8f(x:TD):nf x.cpR.t=nf x.t:=B8g x.t
theorem A9z{os:List AO}{nm:List UInt8}{a b f x:Nat}{Cs K F X:List (List D)}{cn kn fn xn:Bool}{cz kz fz xz cf kf ff xf:Nat}
  (h1:os[a]?=some (.arr Cs cz cf cn)) (h2:os[b]?=some (.arr K kz kf kn)) (h3:os[f]?=some (.arr F fz ff fn)) (h4:os[x]?=some (.arr X xz xf xn)) :
  DG os (.agg [.d (.str nm),.arr a Cs.length,.arr b K.length,.arr f F.length,.arr x X.length]) (eT nm (C0 cn Cs) (C0 kn K) (C0 fn F) (C0 xn X)):=by
 refine .inr ⟨_,[.str nm,C0 cn Cs,C0 kn K,C0 fn F,C0 xn X],rfl,rfl,rfl,λj c y hc hy=>?_⟩
 match j,hc,hy with
 |0,hc,hy=>cases hc;cases hy;exact .inl (.inl rfl)
 |1,hc,hy=>cases hc;cases hy;exact .inl (.inr ⟨a,Cs,cz,cf,cn,rfl,h1,rfl⟩)
 |2,hc,hy=>cases hc;cases hy;exact .inl (.inr ⟨b,K,kz,kf,kn,rfl,h2,rfl⟩)
 |3,hc,hy=>cases hc;cases hy;exact .inl (.inr ⟨f,F,fz,ff,fn,rfl,h3,rfl⟩)
 |4,hc,hy=>cases hc;cases hy;exact .inl (.inr ⟨x,X,xz,xf,xn,rfl,h4,rfl⟩)
 |j+5,hc,hy=>simp at hc
theorem A6x(x:TD)(h:x.ok):Pure Tryz.prog A3u [x.av] x.cpR.av:=by
 refine B4.deepP (B12 x h) ?_
 rintro r os ⟨rfl,a,b,c,rfl⟩
 exact .inl (A9z rfl rfl rfl rfl)
def FD(i:Nat)(l:List Fo):List (List D):=F0 (l.map (I4 i))
theorem C3t(i:Nat){l:List Fo}{j:Nat}{f:Fo}(h:l[j]?=some f):FD i (l.take j)++[[.sl (A0 (f.cs.map λc=>B0 c i)),.str f.tb]]=FD i (l.take (j+1)):=by
 have h1:=B1L (l:=l.map (I4 i)) (i:=j) (f:=I4 i f) (by rw[G4,h];rfl)
 rw[<- List.map_take,<- List.map_take] at h1
 exact h1
theorem C3s(i:Nat)(l:List Fo):(FD i l).length=l.length:=by unfold FD;rw[B1J,D0]
theorem D0i{α:Type}(l:List α)(i:Nat):l.take i++l.drop (i+1)=l.eraseIdx i:=(List.eraseIdx_eq_take_drop_succ ..).symm
def TD.wo(x:TD)(i:Nat):TD:=⟨⟨x.t.nm,x.t.cs.eraseIdx i,x.t.ks.map (λc=>B0 c i),(x.t.fs.map (I4 i)).map L7,x.t.xs.map (N8 i)⟩,eD (B3 (x.t.cs.eraseIdx i)),.sl (A0 (x.t.ks.map λc=>B0 c i)),eD (FD i x.t.fs),eD (xL (x.t.xs.map (N8 i)))⟩
theorem C1q(x:TD)(h:x.ok)(i:Nat)(hi:i<x.t.cs.length)(hkb:∀k∈x.t.ks,0<=k/\k<=1048576)(hfb:∀g∈x.t.fs,∀k∈g.cs,0<=k/\k<=1048576) :
  B4 Tryz.prog A6P [x.av,.d (eI i)] [] (λr os=>∃T:List (List D),T=B3 (x.t.cs.eraseIdx i)/\r=.agg [.d (.str x.t.nm),.arr 3 T.length,.d (.sl (A0 (x.t.ks.map λc=>B0 c i))),.arr 4 (FD i x.t.fs).length,.arr 5 (xL (x.t.xs.map (N8 i))).length]/\
  ∃a b c fl,fl=T.isEmpty/\os=[a,b,c,.arr T 3 0 fl,.arr (FD i x.t.fs) 2 0 (FD i x.t.fs).isEmpty,.arr (xL (x.t.xs.map (N8 i))) 7 0 (xL (x.t.xs.map (N8 i))).isEmpty]):=by
 obtain⟨⟨nm,cs,ks,fs,xs⟩,dc,dk,df,dx⟩:=x
 obtain⟨⟨h1,h2,h3,h4,h5,h6,h7,h8,h9,h10,h11,h12⟩,hr⟩:=h
 dsimp only at h1 h2 h3 h4 h5 h6 h7 h8 h9 h10 h11 h12 hr hi hkb hfb ⊢
 have hT:(B3 cs).take i++(B3 cs).drop (i+1)=B3 (cs.eraseIdx i):=by rw[A3L,D0i]
 have hK:=B15 ks h4 hkb i dk h10
 have c1:=G5 cs
 have c2:=I1 cs
 have f1:=c8 fs
 have f2:=y7 fs
 have f3:=λi f=>@A0i fs i f
 have x1:=I3 xs
 have x2:=N5 xs
 have x3:=m5 (args:=xs)
 have hdc:dc=.sl (B3 cs):=by
  rcases h9 with ⟨_,h⟩|h
  ·rw[h] at c1;simp at c1;omega
  ·exact h
 obtain⟨T,hT0⟩:∃T,T=B3 (cs.eraseIdx i):=⟨_,rfl⟩
 rw[<- hT0] at hT
 obtain⟨Cs,hCs⟩:∃z,z=B3 cs:=⟨_,rfl⟩
 obtain⟨Fs,hFs⟩:∃z,z=F8 fs:=⟨_,rfl⟩
 obtain⟨Xs,hXs⟩:∃z,z=xL xs:=⟨_,rfl⟩
 obtain⟨FR,hFR⟩:∃z,z=FD i fs:=⟨_,rfl⟩
 obtain⟨XR,hXR⟩:∃z,z=xL (xs.map (N8 i)):=⟨_,rfl⟩
 obtain⟨KR,hKR⟩:∃z,z=A0 (ks.map λc=>B0 c i):=⟨_,rfl⟩
 rw[<- hCs] at c1 c2 hdc hT
 rw[<- hFs] at f1 f2 f3 h11
 rw[<- hXs] at x1 x2 x3 h12
 rw[<- hKR] at hK ⊢
 rw[<- hFR,<- hXR]
 subst hdc
 obtain⟨T1,hT1⟩:∃z,z=Cs.take i:=⟨_,rfl⟩
 obtain⟨T2,hT2⟩:∃z,z=Cs.drop (i+1):=⟨_,rfl⟩
 have t1:List.take ((i:Int).toNat-((0:Nat):Int).toNat) (List.drop ((0:Nat):Int).toNat Cs)=T1:=by rw[hT1];rfl
 have t2:List.take ((Cs.length:Int).toNat-((i:Int)+1).toNat) (List.drop ((i:Int)+1).toNat Cs)=T2:=by
  rw[hT2]
  exact L0 (by rw[A1D];omega)
 have cm1:∀e∈T1,e.length=3:=λe he=>c2 e (A1F (hT1▸he))
 have cm2:∀e∈T2,e.length=3:=λe he=>c2 e (A6I (hT2▸he))
 have l1:T1.length<=1048576:=by rw[hT1];exact N7 (List.length_take_le ..) (by omega)
 have l2:T2.length<=1048576:=by rw[hT2,A1D];omega
 rw[<- hT1,<- hT2] at hT
 have hfl:(bif T2.isEmpty then T1.isEmpty else false)=T.isEmpty:=by rw[<- hT];cases T1<;>cases T2<;>rfl
 have b1:(([]:List (List D)).length+T1.length)*32<=140737488355328/\([]:List (List D)).length+T1.length<=9223372036854775807:=by rw[X7];omega
 have b2:(T1.length+T2.length)*32<=140737488355328/\T1.length+T2.length<=9223372036854775807:=by omega
 refine C2u.goO A6 rfl ?_
 repeat' first|refine st ?_|((with_reducible first|apply A8|apply A7);(·exact hK))|(with_reducible first|apply A5|apply A4)<;>intro _
 rw[t1]
 repeat' first|refine st ?_|(with_reducible first|apply A5|apply A4)<;>intro _
 rw[t2]
 repeat' first|refine st ?_|(with_reducible first|apply A5|apply A4)<;>intro _
 rw[hT]
 refine A2E 2 3 2 rfl rfl rfl ?_
 refine I8 A6 C5n C4h (λ(j:Nat) (w:List (List D)×Bool)=>[.d (eI j)]) (λj w=>[.cells [.d (.str nm),.d (.sl Cs),.d dk,.d df,.d dx],.cells [.d (.str []),.d .nil,.d .nil,.d .nil,.d .nil],.cells [.d (.str nm),.arr 3 T.length,.d (.sl KR),.arr 4 w.1.length,.d .nil],.arr T 3 0 (bif T2.isEmpty then T1.isEmpty else false),.arr w.1 2 0 w.2]) (λj w=>j<=fs.length/\w.1=FD i (fs.take j)/\w.2=w.1.isEmpty) (λj w=>fs.length-j) 0 ([],true) rfl rfl rfl rfl (λ_ _ _=>⟨rfl,rfl⟩) rfl ⟨by omega,rfl,rfl⟩ ?_
 repeat' first|refine st ?_|(with_reducible first|apply A5|apply A4)<;>intro _
 intro j w ⟨g1,g2,g3⟩
 obtain⟨A,b⟩:=w
 dsimp only at g2 g3 ⊢
 have hAl:A.length=j:=by rw[g2,C3s,N6];omega
 have hAm:∀e∈A,e.length=2:=by rw[g2];exact B1K _
 cases hy:fs[j]? with
 |some f=>
  have hlt:=(B2.1 hy).1
  have hg:=f3 j f hy
  have hs:=C3t i hy
  rw[<- g2] at hs
  have hfm:=C2 hy
  have hL:=B15 f.cs (h6 f hfm).1 (hfb f hfm) i f.d f.sld
  unfold Fo.ds at hg
  obtain⟨fd,hfd⟩:∃z,z=f.d:=⟨_,rfl⟩
  obtain⟨E,hE⟩:∃z,z=A0 (f.cs.map λc=>B0 c i):=⟨_,rfl⟩
  obtain⟨tb,htb⟩:∃z,z=f.tb:=⟨_,rfl⟩
  rw[<- hfd] at hg hL
  rw[<- htb] at hg hs
  rw[<- hE] at hL hs
  clear g2
  repeat' first|refine st ?_|((with_reducible first|apply A8|apply A7);(·exact hL))|(with_reducible first|apply A5|apply A4)<;>intro _
  exact⟨j+1,(A++[[.sl E,.str tb]],false),rfl,rfl,by first|rfl|(simp[CnD];done),by omega,by omega,hs,by simp⟩
 |none=>
  have hge:=D1.1 hy
  rw[L0 hge,<- hFR] at g2
  subst g2
  subst g3
  repeat' first|refine st ?_|(with_reducible first|apply A5|apply A4)<;>intro _
  refine A2E 2 4 7 rfl rfl rfl ?_
  refine I8 A6 C5o C4i (λ(j:Nat) (w:List (List D)×Bool)=>[.d (eI j)]) (λj w=>[.cells [.d (.str nm),.d (.sl Cs),.d dk,.d df,.d dx],.cells [.d (.str []),.d .nil,.d .nil,.d .nil,.d .nil],.cells [.d (.str nm),.arr 3 T.length,.d (.sl KR),.arr 4 A.length,.arr 5 w.1.length],.arr T 3 0 (bif T2.isEmpty then T1.isEmpty else false),.arr A 2 0 A.isEmpty,.arr w.1 7 0 w.2]) (λj w=>j<=xs.length/\w.1=Mt (N8 i) xs j/\w.2=w.1.isEmpty) (λj w=>xs.length-j) 0 ([],true) rfl rfl rfl rfl (λ_ _ _=>⟨rfl,rfl⟩) rfl ⟨by omega,rfl,rfl⟩ ?_
  repeat' first|refine st ?_|(with_reducible first|apply A5|apply A4)<;>intro _
  intro q w ⟨g4,g5,g6⟩
  obtain⟨B,b⟩:=w
  dsimp only at g5 g6 ⊢
  have hBl:B.length=q:=by rw[g5];exact x5 _ xs q (by omega)
  have hBm:∀e∈B,e.length=7:=by rw[g5];exact x6 _ _ _
  cases hx:xs[q]? with
  |some y=>
   have hlt:=(B2.1 hx).1
   have hs:=x7 (φ:=N8 i) hx
   have hS:=C1m i y (h8 y (C2 hx)) (hr y (C2 hx))
   rw[<- g5] at hs
   obtain⟨z,hz⟩:∃z,z=N8 i y:=⟨_,rfl⟩
   rw[<- hz] at hs hS
   obtain⟨o1,n1,v1,m1,l1,a1⟩:=y
   obtain⟨o2,n2,v2,m2,l2,a2⟩:=z
   have hg:=x3 _ _ _ _ _ _ _ hx
   rw[Ex.ds_mk] at hs
   rw[Ex.av_mk,Ex.av_mk] at hS
   clear g5
   repeat' first|refine st ?_|((with_reducible first|apply A8|apply A7);(·exact hS))|(with_reducible first|apply A5|apply A4)<;>intro _
   exact⟨q+1,(B++[V2 o2 n2 v2 m2 (ng l2 (xL a2))],false),rfl,rfl,rfl,by omega,by omega,hs,by simp⟩
  |none=>
   have hge:=D1.1 hx
   rw[x4 hge,<- hXR] at g5
   subst g5
   subst g6
   repeat' first|refine st ?_|(with_reducible first|apply A5|apply A4)<;>intro _
   all_goals exact⟨T,hT0,rfl,_,_,_,_,hfl,rfl⟩
theorem C9K{os:List AO}{nm:List UInt8}{a f x:Nat}{Cs F X:List (List D)}{k:D}{cn fn xn:Bool}{cz fz xz cf ff xf:Nat}
  (h1:os[a]?=some (.arr Cs cz cf cn)) (h3:os[f]?=some (.arr F fz ff fn)) (h4:os[x]?=some (.arr X xz xf xn)) :
  DG os (.agg [.d (.str nm),.arr a Cs.length,.d k,.arr f F.length,.arr x X.length]) (eT nm (C0 cn Cs) k (C0 fn F) (C0 xn X)):=by
 refine .inr ⟨_,[.str nm,C0 cn Cs,k,C0 fn F,C0 xn X],rfl,rfl,rfl,λj c y hc hy=>?_⟩
 match j,hc,hy with
 |0,hc,hy=>cases hc;cases hy;exact .inl (.inl rfl)
 |1,hc,hy=>cases hc;cases hy;exact .inl (.inr ⟨a,Cs,cz,cf,cn,rfl,h1,rfl⟩)
 |2,hc,hy=>cases hc;cases hy;exact .inl (.inl rfl)
 |3,hc,hy=>cases hc;cases hy;exact .inl (.inr ⟨f,F,fz,ff,fn,rfl,h3,rfl⟩)
 |4,hc,hy=>cases hc;cases hy;exact .inl (.inr ⟨x,X,xz,xf,xn,rfl,h4,rfl⟩)
 |j+5,hc,hy=>simp at hc
theorem C1p(x:TD)(h:x.ok)(i:Nat)(hi:i<x.t.cs.length)(hkb:∀k∈x.t.ks,0<=k/\k<=1048576)(hfb:∀g∈x.t.fs,∀k∈g.cs,0<=k/\k<=1048576):Pure Tryz.prog A6P [x.av,.d (eI i)] (x.wo i).av:=by
 refine B4.deepP (C1q x h i hi hkb hfb) ?_
 rintro r os ⟨T,hT,rfl,a,b,c,fl,hfl,rfl⟩
 subst hT
 subst hfl
 exact .inl (C9K rfl rfl rfl)
abbrev A78(c:Ch):List D:=[eI c.k,.str c.nm,.str c.to,.str c.co.nm,eI c.co.k,.bool c.co.nl,eI c.df.k,eI c.df.n,.str c.df.s]
def P8(l:List Ch):List (List D):=l.map A78
theorem A5p(l:List Ch):(P8 l).length=l.length:=by simp[P8]
theorem B6G{l:List Ch}{i:Nat}{c:Ch}(h:l[i]?=some c):(P8 l)[i]?=some (A78 c):=by simp[P8,h]
theorem A7d(l:List Ch):∀e∈P8 l,e.length=9:=by
 intro e he
 obtain⟨x,_,rfl⟩:=F2.1 he
 rfl
def TD.run(x:TD)(i:Nat):List Ch->TD×Nat×Int
 |[]=>(x,i,0)
 |c::r=>if E5 x.t c=0 then TD.run (x.evo c) (i+1) r else (K4,i,E5 x.t c)
def TD.runs(x:TD)(l:List Ch):TD×Nat×Int:=if J0 x.t=0 then TD.run x.cp 0 l else (K4,0,J0 x.t)
theorem D2M{x:TD}{l:List Ch}{i:Nat}{c:Ch}(h:l[i]?=some c):TD.run x i (l.drop i)=if E5 x.t c=0 then TD.run (x.evo c) (i+1) (l.drop (i+1)) else (K4,i,E5 x.t c):=by
 obtain⟨hlt,he⟩:=B2.1 h
 rw[V5 hlt,he];rfl
theorem C0M(x:TD)(h:x.ok)(l:List Ch)(hl:l.length<=1048576)(hls:∀c∈l,J1 c)(d:D)(hd:B5 d (P8 l)) :
  Pure Tryz.prog A8T [x.av,.d d] (.tup [(x.runs l).1.av,.d (eI ((x.runs l).2.1:Nat)),.d (eI (x.runs l).2.2)]):=by
 have hT:=A8n x.t x.dc x.dk x.df x.dx h.tok
 obtain⟨R,hR⟩:∃R,R=x.runs l:=⟨_,rfl⟩
 rw[<- hR]
 unfold TD.runs at hR
 have h1:=A5p l
 have hm:=A7d l
 have hg0:=λi c=>@B6G l i c
 obtain⟨es,hes⟩:∃es,es=P8 l:=⟨_,rfl⟩
 rw[<- hes] at h1 hm hd hg0
 by_cases hq:J0 x.t=0
 rotate_left
 ·rw[if_neg hq] at hR
  subst hR
  obtain⟨q,hqq⟩:∃q,q=J0 x.t:=⟨_,rfl⟩
  rw[<- hqq] at hT hq ⊢
  refine B1x.go A6 rfl ?_
  repeat' first|refine st ?_|((with_reducible apply D3);conv=>whnf)|((with_reducible first|apply A8|apply A7);(·exact hT))|(with_reducible first|apply A5|apply A4)<;>intro _
  all_goals rfl
 ·rw[if_pos hq] at hR
  rw[hq] at hT
  have hC:=B0T x h (A0t.1 hq).fl
  have hok:=TD.cp_ok h
  obtain⟨y,hy⟩:∃y,y=x.cp:=⟨_,rfl⟩
  rw[<- hy] at hC hR hok
  clear hy
  obtain⟨⟨nm,cs,ks,fs,xs⟩,dc,dk,df,dx⟩:=x
  have hC:Bi.Pure Tryz.prog A1I [eT nm dc dk df dx] (eT y.t.nm y.dc y.dk y.df y.dx):=hC
  have hT:Bi.Pure Tryz.prog A8Z [eT nm dc dk df dx] (.d (eI 0)):=hT
  refine B1x.go A6 rfl ?_
  repeat' first|refine st ?_|((with_reducible apply D3);conv=>whnf)|((with_reducible first|apply A8|apply A7);(·first|exact hT|exact hC))|(with_reducible first|apply A5|apply A4)<;>intro _
  refine I8 A6 C5H C4B (λ(i:Nat) (w:TD)=>[.d (eI i)]) (λi w=>[.cells [.d (.str nm),.d dc,.d dk,.d df,.d dx],.cells [.d (.str []),.d .nil,.d .nil,.d .nil,.d .nil],.cells [.d (.str w.t.nm),.d w.dc,.d w.dk,.d w.df,.d w.dx]]) (λi w=>i<=l.length/\w.ok/\R=TD.run w i (l.drop i)) (λi w=>l.length-i) 0 y rfl rfl rfl rfl (λ_ _ _=>⟨rfl,rfl⟩) rfl ⟨by omega,hok,hR⟩ ?_
  repeat' first|refine st ?_|((with_reducible apply D3);conv=>whnf)|(with_reducible first|apply A5|apply A4)<;>intro _
  intro i w ⟨h4,h5,h6⟩
  cases hx:l[i]? with
  |some c=>
   have hlt:=(B2.1 hx).1
   have hcok:=hls c (C2 hx)
   have hg:=hg0 i c hx
   rw[D2M hx] at h6
   by_cases he:E5 w.t c=0
   ·rw[if_pos he] at h6
    have hA:=C0K w h5 c hcok he
    have hok2:=TD.evo_ok h5 hcok he
    obtain⟨z,hz⟩:∃z,z=w.evo c:=⟨_,rfl⟩
    rw[<- hz] at hA h6 hok2
    obtain⟨ck,cnm,to,⟨cn,cck,cl⟩,⟨vk,vn,vs⟩⟩:=c
    have hA:Bi.Pure Tryz.prog R7 [eT w.t.nm w.dc w.dk w.df w.dx,chD ck cnm to cn cck cl vk vn vs] (.tup [eT z.t.nm z.dc z.dk z.df z.dx,.d (eI 0)]):=hA
    clear hR
    repeat' first|refine st ?_|((with_reducible apply D3);conv=>whnf)|((with_reducible first|apply A8|apply A7);(·exact hA))|(with_reducible first|apply A5|apply A4)<;>intro _
    exact⟨i+1,z,rfl,rfl,rfl,by omega,by omega,hok2,h6⟩
   ·rw[if_neg he] at h6
    have hA:=C0L w h5 c hcok he
    subst h6
    obtain⟨q,hqq⟩:∃q,q=E5 w.t c:=⟨_,rfl⟩
    rw[<- hqq] at hA he ⊢
    obtain⟨ck,cnm,to,⟨cn,cck,cl⟩,⟨vk,vn,vs⟩⟩:=c
    have hA:Bi.Pure Tryz.prog R7 [eT w.t.nm w.dc w.dk w.df w.dx,chD ck cnm to cn cck cl vk vn vs] (.tup [eT [] .nil .nil .nil .nil,.d (eI q)]):=hA
    clear hR
    repeat' first|refine st ?_|((with_reducible apply D3);conv=>whnf)|((with_reducible first|apply A8|apply A7);(·exact hA))|(with_reducible first|apply A5|apply A4)<;>intro _
    all_goals rfl
  |none=>
   have hge:=D1.1 hx
   rw[A4H hge] at h6
   have hil:i=l.length:=by omega
   subst h6
   clear hR
   repeat' first|refine st ?_|((with_reducible apply D3);conv=>whnf)|(with_reducible first|apply A5|apply A4)<;>intro _
   all_goals (first|rfl|(simp only[TD.run,hil,h1];done)|(rw[h1,<- hil];rfl))
theorem D2v(x:TD)(h:x.ok)(c:Ch)(hc:J1 c)(hq:E5 x.t c≠0):Pure Tryz.prog A4Y [x.av,c.av] (.tup [K4.av,.d (eI (E5 x.t c))]):=by
 have hC:=A8h x.t x.dc x.dk x.df x.dx h.tok c hc
 obtain⟨q,hqq⟩:∃q,q=E5 x.t c:=⟨_,rfl⟩
 rw[<- hqq] at hC hq ⊢
 obtain⟨⟨nm,cs,ks,fs,xs⟩,dc,dk,df,dx⟩:=x
 obtain⟨k,cnm,to,⟨cn,ck,cl⟩,⟨vk,vn,vs⟩⟩:=c
 refine A4z.go A6 rfl ?_
 repeat' first|refine st ?_|((with_reducible first|apply A8|apply A7);(·exact hC))|(with_reducible first|apply A5|apply A4)<;>intro _
 all_goals rfl
def TD.evoR(x:TD)(c:Ch):TD:=
 if c.k=2 then x.wo (E8 c.nm x.t.cs).toNat
 else ⟨⟨x.t.nm,(G8 x.t c).cs,x.t.ks,x.t.fs.map L7,x.t.xs.map E9⟩,.sl (B3 (G8 x.t c).cs),eD (A0 x.t.ks),eD (F0 x.t.fs),eD (xL (x.t.xs.map E9))⟩
theorem D1r{x:TD}{c:Ch}(hk:1<=c.k/\c.k<=4):nf (x.evoR c).t=nf (G8 x.t c):=by
 have e1:(x.t.fs.map L7).map L7=x.t.fs.map L7:=by rw[W3];rfl
 have e3 (i:Nat):((x.t.fs.map (I4 i)).map L7).map L7=(x.t.fs.map (I4 i)).map L7:=by rw[W3,W3,W3];rfl
 unfold TD.evoR
 by_cases k2:c.k=2
 ·rw[if_pos k2]
  unfold G8
  rw[if_neg (by omega),if_pos k2]
  unfold TD.wo nf
  dsimp only
  rw[e3]
 ·rw[if_neg k2]
  unfold G8
  rw[if_neg k2]
  by_cases k1:c.k=1
  ·rw[if_pos k1];unfold nf;dsimp only;rw[e1]
  ·rw[if_neg k1]
   by_cases k3:c.k=3
   ·rw[if_pos k3];unfold nf;dsimp only;rw[e1]
   ·rw[if_neg k3];unfold nf;dsimp only;rw[e1]
theorem TD.evoR_ok{x:TD}(h:x.ok){c:Ch}(hc:J1 c)(hq:E5 x.t c=0):(x.evoR c).ok:=by
 obtain⟨q1,q2,_⟩:=A3O hq
 have h1:=TD.evo_ok h hc hq
 have h2:=TD.cpR_ok h
 unfold TD.evoR
 by_cases k2:c.k=2
 ·rw[if_pos k2]
  have e:G8 x.t c=⟨x.t.nm,x.t.cs.eraseIdx (E8 c.nm x.t.cs).toNat,x.t.ks.map (λy=>B0 y (E8 c.nm x.t.cs).toNat),x.t.fs.map (I4 (E8 c.nm x.t.cs).toNat),x.t.xs.map (N8 (E8 c.nm x.t.cs).toNat)⟩:=by unfold G8;rw[if_neg (by omega),if_pos k2]
  obtain⟨⟨a1,a2,a3,a4,a5,a6,a7,a8,a9,a10,a11,a12⟩,hr⟩:=h1
  have hr:(G8 x.t c).Rg:=hr
  have a2:(G8 x.t c).cs.length<=1048576:=a2
  have a3:∀c'∈(G8 x.t c).cs,c'.nm.length<=1048576:=a3
  have a4:(G8 x.t c).ks.length<=1048576:=a4
  have a5:(G8 x.t c).fs.length<=1048576:=a5
  have a6:∀f∈(G8 x.t c).fs,f.cs.length<=1048576/\f.tb.length<=1048576:=a6
  have a7:(G8 x.t c).xs.length<=1048576:=a7
  have a8:∀e∈(G8 x.t c).xs,e.bk<=1048576:=a8
  rw[e] at hr a2 a3 a4 a5 a6 a7 a8
  refine⟨⟨h.tok.hn,a2,a3,a4,?_,λf hf=>?_,a7,a8,A1c _,L4,A1c _,A1c _⟩,hr⟩
  ·show((x.t.fs.map _).map L7).length<=_
   rw[D0];exact a5
  ·obtain⟨g,hg,rfl⟩:=F2.1 hf
   exact a6 g hg
 ·rw[if_neg k2]
  exact⟨⟨h.tok.hn,h1.tok.hl,h1.tok.hls,h.tok.hk,h2.tok.hfl,h2.tok.hfc,h2.tok.hxs,h2.tok.hxb,L4,A1c _,A1c _,A1c _⟩,h2.rg⟩
theorem C1k(x:TD)(h:x.ok)(c:Ch)(hc:J1 c)(hq:E5 x.t c=0):Pure Tryz.prog A4Y [x.av,c.av] (.tup [(x.evoR c).av,.d (eI 0)]):=by
 obtain⟨q1,q2,q3,q4,q5⟩:=A3O hq
 have hv:=A0t.1 q1
 have hC:=A8h x.t x.dc x.dk x.df x.dx h.tok c hc
 rw[hq] at hC
 have hF:=A4t x.t.nm x.t.cs h.tok.hl x.dc x.dk x.df x.dx h.tok.dc c.nm
 have hne:(B3 x.t.cs).isEmpty=false:=by
  have:=hv.l1
  cases hcs:x.t.cs with
  |nil=>rw[hcs] at this;simp at this
  |cons a l=>rfl
 have hl:=hv.l2
 have hcl:=G5 x.t.cs
 have hcm:=I1 x.t.cs
 by_cases k2:c.k=2
 ·obtain⟨i,co,hi,hco,hcn,hus,_,_⟩:=A79 (q5 (by omega))
  have hil:=(B2.1 hco).1
  have hR:=A6x x h
  have hW:=C1p x h i hil (λk hk=>by have:=hv.ks k hk;omega) (λg hg k hk=>by have:=(hv.fs g hg).2.2.1 k hk;omega)
  have e:x.evoR c=x.wo i:=by unfold TD.evoR;rw[if_pos k2,hi];rfl
  rw[e]
  rw[hi] at hF
  obtain⟨y,hy⟩:∃y,y=x.wo i:=⟨_,rfl⟩
  obtain⟨z,hz⟩:∃y,y=x.cpR:=⟨_,rfl⟩
  rw[<- hy] at hW ⊢
  rw[<- hz] at hR
  clear hy hz hcl hcm hne
  obtain⟨⟨nm,cs,ks,fs,xs⟩,dc,dk,df,dx⟩:=x
  obtain⟨k,cnm,to,⟨cn,ck,cl⟩,⟨vk,vn,vs⟩⟩:=c
  dsimp only at k2
  subst k2
  have hR:Bi.Pure Tryz.prog A3u [eT nm dc dk df dx] (eT z.t.nm z.dc z.dk z.df z.dx):=hR
  have hW:Bi.Pure Tryz.prog A6P [eT nm dc dk df dx,.d (eI i)] (eT y.t.nm y.dc y.dk y.df y.dx):=hW
  have hF:Bi.Pure Tryz.prog A4W [eT nm dc dk df dx,.d (.str cnm)] (.d (eI i)):=hF
  refine A4z.go A6 rfl ?_
  repeat' first|refine st ?_|((with_reducible first|apply A8|apply A7);(·first|exact hC|exact hR|exact hF|exact hW))|(with_reducible first|apply A5|apply A4)<;>intro _
  all_goals rfl
 ·have e:x.evoR c=⟨⟨x.t.nm,(G8 x.t c).cs,x.t.ks,x.t.fs.map L7,x.t.xs.map E9⟩,.sl (B3 (G8 x.t c).cs),eD (A0 x.t.ks),eD (F0 x.t.fs),eD (xL (x.t.xs.map E9))⟩:=by unfold TD.evoR;rw[if_neg k2]
  rw[e]
  have hR:=B12 x h
  rw[hne] at hR
  by_cases k1:c.k=1
  ·have e2:(G8 x.t c).cs=x.t.cs++[c.co]:=by unfold G8;rw[if_pos k1]
   have e3:B3 (x.t.cs++[c.co])=B3 x.t.cs++[c.co.ds]:=by simp[B3]
   unfold TD.av
   dsimp only
   rw[e2,e3]
   obtain⟨f,hf⟩:∃f,f=E8 c.nm x.t.cs:=⟨_,rfl⟩
   rw[<- hf] at hF
   generalize B3 x.t.cs=Cs at hR hcl hcm ⊢
   generalize A0 x.t.ks=Ks at hR ⊢
   generalize F0 x.t.fs=Fs at hR ⊢
   generalize xL (x.t.xs.map E9)=Xs at hR ⊢
   obtain⟨⟨nm,cs,ks,fs,xs⟩,dc,dk,df,dx⟩:=x
   obtain⟨k,cnm,to,⟨cn,ck,cl⟩,⟨vk,vn,vs⟩⟩:=c
   dsimp only at k1 hF hcl hl
   subst k1
   refine B4.deepP (Q:=λr os=>r=.tup [.agg [.d (.str nm),.arr 6 (Cs++[[.str cn,eI ck,.bool cl]]).length,.arr 7 Ks.length,.arr 8 Fs.length,.arr 9 Xs.length],.d (eI 0)]/\os[6]?=some (.arr (Cs++[[.str cn,eI ck,.bool cl]]) 3 0 false)/\os[7]?=some (.arr Ks 1 0 Ks.isEmpty)/\os[8]?=some (.arr Fs 2 0 Fs.isEmpty)/\os[9]?=some (.arr Xs 7 0 Xs.isEmpty)) ?_ ?_
   ·refine A4z.goO2 A6 rfl ?_
    repeat' first|refine st ?_|((with_reducible apply I7);(· exact hR);(rintro _ _ ⟨rfl,a,b,c,rfl⟩))|((with_reducible first|apply A8|apply A7);(·first|exact hC|exact hF))|(with_reducible first|apply A5|apply A4)<;>intro _
    exact⟨rfl,rfl,rfl,rfl,rfl⟩
   ·rintro r os ⟨rfl,h1,h2,h3,h4⟩
    refine .inr ⟨_,[_,.d (eI 0)],rfl,rfl,rfl,λj c x hc hx=>?_⟩
    match j,hc,hx with
    |0,hc,hx=>cases hc;cases hx;exact A9z h1 h2 h3 h4
    |1,hc,hx=>cases hc;cases hx;exact .inl ⟨eI 0,.inl (.inl rfl),rfl⟩
    |j+2,hc,hx=>simp at hc
  ·obtain⟨i,co,hi,hco,hcn,hus,_,_⟩:=A79 (q5 (by omega))
   have hil:=(B2.1 hco).1
   have hiN:(E8 c.nm x.t.cs).toNat=i:=by omega
   have hgd:x.t.cs.getD i ⟨[],0,false⟩=co:=by rw[G9,hco];rfl
   rw[hi] at hF
   have hg:(B3 x.t.cs)[((i:Nat):Int).toNat]?=some [.str co.nm,eI co.k,.bool co.nl]:=L5 hco
   have hg2:(B3 x.t.cs)[i]?=some [.str co.nm,eI co.k,.bool co.nl]:=L5 hco
   have hilt:i<(B3 x.t.cs).length:=by rw[hcl];exact hil
   have key:∃N:Co,(G8 x.t c).cs=x.t.cs.set i N/\((c.k=3/\N=⟨c.to,co.k,co.nl⟩)\/(c.k=4/\N=⟨co.nm,2,co.nl⟩)):=by
    by_cases k3:c.k=3
    ·exact⟨⟨c.to,co.k,co.nl⟩,by unfold G8;rw[if_neg k1,if_neg k2,if_pos k3,hiN,hgd],.inl ⟨k3,rfl⟩⟩
    ·exact⟨⟨co.nm,2,co.nl⟩,by unfold G8;rw[if_neg k1,if_neg k2,if_neg k3,hiN,hgd],.inr ⟨by omega,rfl⟩⟩
   obtain⟨N,e2,e4⟩:=key
   have e3:B3 (x.t.cs.set i N)=(B3 x.t.cs).set i N.ds:=by unfold B3;rw[W4]
   unfold TD.av
   dsimp only
   rw[e2,e3]
   generalize B3 x.t.cs=Cs at hR hcl hcm hg hg2 hilt ⊢
   generalize A0 x.t.ks=Ks at hR ⊢
   generalize F0 x.t.fs=Fs at hR ⊢
   generalize xL (x.t.xs.map E9)=Xs at hR ⊢
   obtain⟨⟨nm,cs,ks,fs,xs⟩,dc,dk,df,dx⟩:=x
   obtain⟨k,cnm,to,⟨cn,ck,cl⟩,⟨vk,vn,vs⟩⟩:=c
   dsimp only at hF hcl hl e4
   refine B4.deepP (Q:=λr os=>r=.tup [.agg [.d (.str nm),.arr 6 (Cs.set i N.ds).length,.arr 7 Ks.length,.arr 8 Fs.length,.arr 9 Xs.length],.d (eI 0)]/\os[6]?=some (.arr (Cs.set i N.ds) 3 0 false)/\os[7]?=some (.arr Ks 1 0 Ks.isEmpty)/\os[8]?=some (.arr Fs 2 0 Fs.isEmpty)/\os[9]?=some (.arr Xs 7 0 Xs.isEmpty)) ?_ ?_
   ·rw[Y4]
    rcases e4 with ⟨k3,rfl⟩|⟨k4,rfl⟩
    ·subst k3
     refine A4z.goO2 A6 rfl ?_
     repeat' first|refine st ?_|((with_reducible apply I7);(· exact hR);(rintro _ _ ⟨rfl,a,b,c,rfl⟩))|((with_reducible first|apply A8|apply A7);(·first|exact hC|exact hF))|(with_reducible first|apply A5|apply A4)<;>intro _
     exact⟨rfl,rfl,rfl,rfl,rfl⟩
    ·subst k4
     refine A4z.goO2 A6 rfl ?_
     repeat' first|refine st ?_|((with_reducible apply I7);(· exact hR);(rintro _ _ ⟨rfl,a,b,c,rfl⟩))|((with_reducible first|apply A8|apply A7);(·first|exact hC|exact hF))|(with_reducible first|apply A5|apply A4)<;>intro _
     exact⟨rfl,rfl,rfl,rfl,rfl⟩
   ·rintro r os ⟨rfl,h1,h2,h3,h4⟩
    refine .inr ⟨_,[_,.d (eI 0)],rfl,rfl,rfl,λj c x hc hx=>?_⟩
    match j,hc,hx with
    |0,hc,hx=>cases hc;cases hx;exact A9z h1 h2 h3 h4
    |1,hc,hx=>cases hc;cases hx;exact .inl ⟨eI 0,.inl (.inl rfl),rfl⟩
    |j+2,hc,hx=>simp at hc
def TD.runR(x:TD)(i:Nat):List Ch->TD×Nat×Int
 |[]=>(x,i,0)
 |c::r=>if E5 x.t c=0 then TD.runR (x.evoR c) (i+1) r else (K4,i,E5 x.t c)
def TD.runsR(x:TD)(l:List Ch):TD×Nat×Int:=if J0 x.t=0 then TD.runR x.cpR 0 l else (K4,0,J0 x.t)
theorem D2J{x:TD}{l:List Ch}{i:Nat}{c:Ch}(h:l[i]?=some c):TD.runR x i (l.drop i)=if E5 x.t c=0 then TD.runR (x.evoR c) (i+1) (l.drop (i+1)) else (K4,i,E5 x.t c):=by
 obtain⟨hlt,he⟩:=B2.1 h
 rw[V5 hlt,he];rfl
theorem B93:∀(l:List Ch)(x y:TD)(i:Nat),nf x.t=nf y.t->(TD.run x i l).2=(TD.runR y i l).2/\nf (TD.run x i l).1.t=nf (TD.runR y i l).1.t
 |[],x,y,i,h=>⟨rfl,h⟩
 |c::r,x,y,i,h=>by
  have h1:E5 x.t c=E5 y.t c:=by rw[<- A2o,h,A2o]
  by_cases hq:E5 x.t c=0
  ·have e1:TD.run x i (c::r)=TD.run (x.evo c) (i+1) r:=by rw[TD.run,if_pos hq]
   have e2:TD.runR y i (c::r)=TD.runR (y.evoR c) (i+1) r:=by rw[TD.runR,if_pos (by rw[<- h1];exact hq)]
   rw[e1,e2]
   refine B93 r (x.evo c) (y.evoR c) (i+1) ?_
   rw[D1r (A3O hq).2.1,<- A7B y.t,<- h,A7B]
   rfl
  ·have e1:TD.run x i (c::r)=(K4,i,E5 x.t c):=by rw[TD.run,if_neg hq]
   have e2:TD.runR y i (c::r)=(K4,i,E5 y.t c):=by rw[TD.runR,if_neg (by rw[<- h1];exact hq)]
   rw[e1,e2,h1]
   exact⟨rfl,rfl⟩
theorem A48(x:TD)(l:List Ch):(x.runs l).2=(x.runsR l).2/\nf (x.runs l).1.t=nf (x.runsR l).1.t:=by
 unfold TD.runs TD.runsR
 by_cases hq:J0 x.t=0
 ·rw[if_pos hq,if_pos hq]
  exact B93 l x.cp x.cpR 0 (by rw[A44,B8f])
 ·rw[if_neg hq,if_neg hq]
  exact⟨rfl,rfl⟩
theorem B94:∀(l:List Ch)(x:TD)(i:Nat),x.ok->(∀c∈l,J1 c)->(TD.runR x i l).1.ok
 |[],x,i,h,_=>h
 |c::r,x,i,h,hc=>by
  unfold TD.runR
  split
  ·rename_i hq
   exact B94 r _ _ (TD.evoR_ok h (hc c (by simp)) hq) λd hd=>hc d (by simp[hd])
  ·exact w6
theorem B9d{x:TD}{l:List Ch}(h:x.ok)(hc:∀c∈l,J1 c):(x.runsR l).1.ok:=by
 unfold TD.runsR
 split
 ·exact B94 l _ _ (TD.cpR_ok h) hc
 ·exact w6
theorem B99:∀(l:List Ch)(x:TD)(i:Nat),x.ok->(∀c∈l,J1 c)->(TD.run x i l).1.ok
 |[],x,i,h,_=>h
 |c::r,x,i,h,hc=>by
  unfold TD.run
  split
  ·rename_i hq
   exact B99 r _ _ (TD.evo_ok h (hc c (by simp)) hq) λd hd=>hc d (by simp[hd])
  ·exact w6
theorem D2T{x:TD}{l:List Ch}(h:x.ok)(hc:∀c∈l,J1 c):(x.runs l).1.ok:=by
 unfold TD.runs
 split
 ·exact B99 l _ _ (TD.cp_ok h) hc
 ·exact w6
theorem B14(x:TD)(h:x.ok)(l:List Ch)(hl:l.length<=1048576)(hls:∀c∈l,J1 c)(d:D)(hd:B5 d (P8 l)) :
  Pure Tryz.prog A6O [x.av,.d d] (.tup [(x.runsR l).1.av,.d (eI ((x.runsR l).2.1:Nat)),.d (eI (x.runsR l).2.2)]):=by
 have hT:=A6w x.t x.dc x.dk x.df x.dx h.tok
 obtain⟨R,hR⟩:∃R,R=x.runsR l:=⟨_,rfl⟩
 rw[<- hR]
 unfold TD.runsR at hR
 have h1:=A5p l
 have hm:=A7d l
 have hg0:=λi c=>@B6G l i c
 obtain⟨es,hes⟩:∃es,es=P8 l:=⟨_,rfl⟩
 rw[<- hes] at h1 hm hd hg0
 by_cases hq:J0 x.t=0
 rotate_left
 ·rw[if_neg hq] at hR
  subst hR
  obtain⟨q,hqq⟩:∃q,q=J0 x.t:=⟨_,rfl⟩
  rw[<- hqq] at hT hq ⊢
  refine B1n.go A6 rfl ?_
  repeat' first|refine st ?_|((with_reducible apply D3);conv=>whnf)|((with_reducible first|apply A8|apply A7);(·exact hT))|(with_reducible first|apply A5|apply A4)<;>intro _
  all_goals rfl
 ·rw[if_pos hq] at hR
  rw[hq] at hT
  have hC:=A6x x h
  have hok:=TD.cpR_ok h
  obtain⟨y,hy⟩:∃y,y=x.cpR:=⟨_,rfl⟩
  rw[<- hy] at hC hR hok
  clear hy
  obtain⟨⟨nm,cs,ks,fs,xs⟩,dc,dk,df,dx⟩:=x
  have hC:Bi.Pure Tryz.prog A3u [eT nm dc dk df dx] (eT y.t.nm y.dc y.dk y.df y.dx):=hC
  have hT:Bi.Pure Tryz.prog A4V [eT nm dc dk df dx] (.d (eI 0)):=hT
  refine B1n.go A6 rfl ?_
  repeat' first|refine st ?_|((with_reducible apply D3);conv=>whnf)|((with_reducible first|apply A8|apply A7);(·first|exact hT|exact hC))|(with_reducible first|apply A5|apply A4)<;>intro _
  refine I8 A6 C5i C4c (λ(i:Nat) (w:TD)=>[.d (eI i)]) (λi w=>[.cells [.d (.str nm),.d dc,.d dk,.d df,.d dx],.cells [.d (.str []),.d .nil,.d .nil,.d .nil,.d .nil],.cells [.d (.str w.t.nm),.d w.dc,.d w.dk,.d w.df,.d w.dx]]) (λi w=>i<=l.length/\w.ok/\R=TD.runR w i (l.drop i)) (λi w=>l.length-i) 0 y rfl rfl rfl rfl (λ_ _ _=>⟨rfl,rfl⟩) rfl ⟨by omega,hok,hR⟩ ?_
  repeat' first|refine st ?_|((with_reducible apply D3);conv=>whnf)|(with_reducible first|apply A5|apply A4)<;>intro _
  intro i w ⟨h4,h5,h6⟩
  cases hx:l[i]? with
  |some c=>
   have hlt:=(B2.1 hx).1
   have hcok:=hls c (C2 hx)
   have hg:=hg0 i c hx
   rw[D2J hx] at h6
   by_cases he:E5 w.t c=0
   ·rw[if_pos he] at h6
    have hA:=C1k w h5 c hcok he
    have hok2:=TD.evoR_ok h5 hcok he
    obtain⟨z,hz⟩:∃z,z=w.evoR c:=⟨_,rfl⟩
    rw[<- hz] at hA h6 hok2
    obtain⟨ck,cnm,to,⟨cn,cck,cl⟩,⟨vk,vn,vs⟩⟩:=c
    have hA:Bi.Pure Tryz.prog A4Y [eT w.t.nm w.dc w.dk w.df w.dx,chD ck cnm to cn cck cl vk vn vs] (.tup [eT z.t.nm z.dc z.dk z.df z.dx,.d (eI 0)]):=hA
    clear hR
    repeat' first|refine st ?_|((with_reducible apply D3);conv=>whnf)|((with_reducible first|apply A8|apply A7);(·exact hA))|(with_reducible first|apply A5|apply A4)<;>intro _
    exact⟨i+1,z,rfl,rfl,rfl,by omega,by omega,hok2,h6⟩
   ·rw[if_neg he] at h6
    have hA:=D2v w h5 c hcok he
    subst h6
    obtain⟨q,hqq⟩:∃q,q=E5 w.t c:=⟨_,rfl⟩
    rw[<- hqq] at hA he ⊢
    obtain⟨ck,cnm,to,⟨cn,cck,cl⟩,⟨vk,vn,vs⟩⟩:=c
    have hA:Bi.Pure Tryz.prog A4Y [eT w.t.nm w.dc w.dk w.df w.dx,chD ck cnm to cn cck cl vk vn vs] (.tup [eT [] .nil .nil .nil .nil,.d (eI q)]):=hA
    clear hR
    repeat' first|refine st ?_|((with_reducible apply D3);conv=>whnf)|((with_reducible first|apply A8|apply A7);(·exact hA))|(with_reducible first|apply A5|apply A4)<;>intro _
    all_goals rfl
  |none=>
   have hge:=D1.1 hx
   rw[A4H hge] at h6
   have hil:i=l.length:=by omega
   subst h6
   clear hR
   repeat' first|refine st ?_|((with_reducible apply D3);conv=>whnf)|(with_reducible first|apply A5|apply A4)<;>intro _
   all_goals (first|rfl|(simp only[TD.runR,hil,h1];done)|(rw[h1,<- hil];rfl))
structure En where
 tm:Int
 tb:List UInt8
 cr:TD
 ch:Ch
abbrev En.ds(e:En):List D:=[eI e.tm,.str e.tb,.str e.cr.t.nm,e.cr.dc,e.cr.dk,e.cr.df,e.cr.dx,eI e.ch.k,.str e.ch.nm,.str e.ch.to,.str e.ch.co.nm,eI e.ch.co.k,.bool e.ch.co.nl,eI e.ch.df.k,eI e.ch.df.n,.str e.ch.df.s]
abbrev En.av(e:En):AV:=.agg [.d (eI e.tm),.d (.str e.tb),.d (.str e.cr.t.nm),.d e.cr.dc,.d e.cr.dk,.d e.cr.df,.d e.cr.dx,.d (eI e.ch.k),.d (.str e.ch.nm),.d (.str e.ch.to),.d (.str e.ch.co.nm),.d (eI e.ch.co.k),.d (.bool e.ch.co.nl),.d (eI e.ch.df.k),.d (eI e.ch.df.n),.d (.str e.ch.df.s)]
structure En.ok(e:En):Prop where
 cr:e.cr.ok
 ch:J1 e.ch
 tb:e.tb.length<=1048576
def C4(l:List En):List (List D):=l.map En.ds
theorem Q6(l:List En):(C4 l).length=l.length:=by simp[C4]
theorem k7{l:List En}{i:Nat}{e:En}(h:l[i]?=some e):(C4 l)[i]?=some e.ds:=by simp[C4,h]
theorem U1(l:List En):∀e∈C4 l,e.length=16:=by
 intro e he
 obtain⟨x,_,rfl⟩:=F2.1 he
 rfl
theorem A7e(l:List En)(i:Nat):(C4 l).take i=C4 (l.take i):=by simp[C4]
def H9(c:Ch):Bool:=decide (c.k=0)&&(decide (c.nm=[])&&(decide (c.to=[])&&(decide (c.co.nm=[])&&(decide (c.co.k=0)&&(!c.co.nl&&(decide (c.df.k=0)&&(decide (c.df.n=0)&&decide (c.df.s=[]))))))))
theorem A8d(e:En):Pure Tryz.prog B55 [e.av] (.d (.bool (H9 e.ch))):=by
 obtain⟨tm,tb,⟨⟨nm,cs,ks,fs,xs⟩,dc,dk,df,dx⟩,⟨k,cnm,to,⟨cn,ck,cl⟩,⟨vk,vn,vs⟩⟩⟩:=e
 unfold H9
 dsimp only
 refine C2L.go A6 rfl ?_
 repeat' first|refine st ?_|(with_reducible first|apply A5|apply A4)<;>intro _
 all_goals first|rfl|(simp_all;done)
theorem A6z(e:En):Pure Tryz.prog A8M [e.av] (.d (.bool (H9 e.ch))):=by
 obtain⟨tm,tb,⟨⟨nm,cs,ks,fs,xs⟩,dc,dk,df,dx⟩,⟨k,cnm,to,⟨cn,ck,cl⟩,⟨vk,vn,vs⟩⟩⟩:=e
 unfold H9
 dsimp only
 refine C2D.go A6 rfl ?_
 repeat' first|refine st ?_|(with_reducible first|apply A5|apply A4)<;>intro _
 all_goals first|rfl|(simp_all;done)
abbrev bnE(f:FuncId)(at':Int)(nm:List UInt8):D:=.lit (.func (.func f) ⟨[.agg ⟨[.int .i64 at',.string ⟨⟨nm⟩⟩]⟩]⟩ ⟨[]⟩)
def k8(at':Int)(e:En):Bool:=decide (e.tm<=at')
def Q1(at':Int)(nm:List UInt8)(e:En):Bool:=decide (e.tm<=at')&&decide (e.tb=nm)
theorem B1e(at':Int)(nm:List UInt8)(e:En):Pure Tryz.prog A8R [.agg [.d (eI at'),.d (.str nm)],e.av] (.d (.bool (k8 at' e))):=by
 obtain⟨tm,tb,⟨⟨nm',cs,ks,fs,xs⟩,dc,dk,df,dx⟩,⟨k,cnm,to,⟨cn,ck,cl⟩,⟨vk,vn,vs⟩⟩⟩:=e
 unfold k8
 dsimp only
 refine C2N.go A6 rfl ?_
 repeat' first|refine st ?_|(with_reducible first|apply A5|apply A4)<;>intro _
 all_goals first|rfl|(simp_all;done)
theorem B1f(at':Int)(nm:List UInt8)(e:En):Pure Tryz.prog A6R [.agg [.d (eI at'),.d (.str nm)],e.av] (.d (.bool (Q1 at' nm e))):=by
 have hE:=B1e at' nm e
 obtain⟨tm,tb,⟨⟨nm',cs,ks,fs,xs⟩,dc,dk,df,dx⟩,⟨k,cnm,to,⟨cn,ck,cl⟩,⟨vk,vn,vs⟩⟩⟩:=e
 unfold Q1
 unfold k8 at hE
 dsimp only at hE ⊢
 refine C2O.go A6 rfl ?_
 cases hb:decide (tm<=at') with
 |false=>
  rw[hb] at hE
  repeat' first|refine st ?_|((with_reducible first|apply A8|apply A7);(·exact hE))|(with_reducible first|apply A5|apply A4)<;>intro _
  all_goals first|rfl|(simp_all;done)
 |true=>
  rw[hb] at hE
  repeat' first|refine st ?_|((with_reducible first|apply A8|apply A7);(·exact hE))|(with_reducible first|apply A5|apply A4)<;>intro _
  all_goals first|rfl|(simp_all;done)
theorem A5v{p:En->Bool}{l:List En}{i:Nat}{e:En}(h:l[i]?=some e):(l.take (i+1)).filter p=(l.take i).filter p++if p e then [e] else []:=by
 rw[P5,h,A1A]
 congr 1
 show List.filter p [e]=_
 cases hp:p e<;>simp[A3q,hp]
theorem A8e(f:FuncId)(at':Int)(nm:List UInt8)(p:En->Bool)(hf:∀e,Pure Tryz.prog f [.agg [.d (eI at'),.d (.str nm)],e.av] (.d (.bool (p e))))(l:List En)(hl:l.length<=1048576)(d:D)(hd:B5 d (C4 l)) :
  Pure Tryz.prog B57 [.d d,.d (bnE f at' nm)] (.d (C0 (C4 (l.filter p)).isEmpty (C4 (l.filter p)))):=by
 obtain⟨R,hR⟩:∃R,R=C4 (l.filter p):=⟨_,rfl⟩
 rw[<- hR]
 have h1:=Q6 l
 have hm:=U1 l
 have hg0:=λi c=>@k7 l i c
 obtain⟨es,hes⟩:∃es,es=C4 l:=⟨_,rfl⟩
 rw[<- hes] at h1 hm hd hg0
 refine C2M.go A6 rfl ?_
 repeat' first|refine st ?_|(with_reducible first|apply A5|apply A4)<;>intro _
 refine s0 5 16 rfl rfl ?_
 refine I8 A6 C5F C4z (λ(i:Nat) (w:List (List D))=>[.arr 0 w.length,.d (eI i)]) (λi w=>[.arr w 16 0 w.isEmpty]) (λi w=>i<=l.length/\w=C4 ((l.take i).filter p)) (λi w=>l.length-i) 0 [] rfl rfl rfl rfl (λ_ _ _=>⟨rfl,rfl⟩) rfl ⟨by omega,rfl⟩ ?_
 repeat' first|refine st ?_|(with_reducible first|apply A5|apply A4)<;>intro _
 intro i A ⟨g1,g2⟩
 have hAl:A.length<=i:=by
  rw[g2,Q6]
  exact N7 (j4 ..) (by rw[N6];omega)
 have hAm:∀e∈A,e.length=16:=by rw[g2];exact U1 _
 cases hx:l[i]? with
 |some e=>
  have hlt:=(B2.1 hx).1
  have hg:=hg0 i e hx
  have hF:=hf e
  have hs:C4 ((l.take (i+1)).filter p)=A++(if p e then [e.ds] else []):=by
   rw[A5v hx,g2]
   unfold C4
   rw[s7]
   congr 1
   split<;>rfl
  cases hp:p e with
  |true=>
   rw[hp] at hF hs
   obtain⟨tm,tb,⟨⟨nm',cs,ks,fs,xs⟩,dc,dk,df,dx⟩,⟨k,cnm,to,⟨cn,ck,cl⟩,⟨vk,vn,vs⟩⟩⟩:=e
   clear g2 hR hp
   repeat' first|refine st ?_|((with_reducible first|apply A8|apply A7);(·exact hF))|(with_reducible first|apply A5|apply A4)<;>intro _
   exact⟨i+1,A++[_],rfl,rfl,by first|rfl|(simp;done),by omega,by omega,hs.symm⟩
  |false=>
   rw[hp] at hF hs
   obtain⟨tm,tb,⟨⟨nm',cs,ks,fs,xs⟩,dc,dk,df,dx⟩,⟨k,cnm,to,⟨cn,ck,cl⟩,⟨vk,vn,vs⟩⟩⟩:=e
   clear g2 hR hp
   repeat' first|refine st ?_|((with_reducible first|apply A8|apply A7);(·exact hF))|(with_reducible first|apply A5|apply A4)<;>intro _
   exact⟨i+1,A,rfl,rfl,rfl,by omega,by omega,by rw[hs];simp⟩
 |none=>
  have hge:=D1.1 hx
  rw[L0 hge,<- hR] at g2
  subst g2
  clear hR
  repeat' first|refine st ?_|(with_reducible first|apply A5|apply A4)<;>intro _
  all_goals first|rfl|(cases A<;>rfl)
def u6:List En->Bool
 |[]=>false
 |e::_=>H9 e.ch
def u7:List En->TD
 |[]=>K4
 |e::_=>if H9 e.ch then e.cr else K4
def Q7(l:List En):List Ch:=if u6 l then l.tail.map En.ch else []
theorem B0R(l:List En)(hl:l.length<=1048576)(d:D)(hd:B5 d (C4 l)) :
  Pure Tryz.prog B56 [.d d] (.tup [(u7 l).av,.d (C0 (P8 (Q7 l)).isEmpty (P8 (Q7 l))),.d (.bool (u6 l))]):=by
 cases l with
 |nil=>
  have hd:B5 d []:=hd
  refine A8v.go A6 rfl ?_
  have h0:([]:List (List D)).length=0:=rfl
  rcases hd with ⟨rfl,_⟩|rfl
  ·repeat' first|refine st ?_|(with_reducible first|apply A5|apply A4)<;>intro _
   all_goals rfl
  ·repeat' first|refine st ?_|(with_reducible first|apply A5|apply A4)<;>intro _
   all_goals rfl
 |cons e r=>
  have hd:d=.sl (C4 (e::r)):=by
   rcases hd with ⟨_,h⟩|h
   ·cases h
   ·exact h
  subst hd
  have hC:=A8d e
  have hg:(C4 (e::r))[((0:Int)).toNat]?=some e.ds:=rfl
  have hln:(C4 (e::r)).length=r.length+1:=by rw[Q6,N9]
  have hp:List.take (((C4 (e::r)).length:Int).toNat-((1:Int)).toNat) (List.drop ((1:Int)).toNat (C4 (e::r)))=C4 r:=by
   rw[hln]
   show List.take (r.length+1-1) (C4 r)=_
   rw[L0 (by rw[Q6];omega)]
  have hm:=U1 (e::r)
  simp only[N9] at hl
  have h1:=Q6 r
  have hm1:=U1 r
  have hg0:=λi c=>@k7 r i c
  obtain⟨Es,hEs⟩:∃z,z=C4 (e::r):=⟨_,rfl⟩
  obtain⟨es,hes⟩:∃es,es=C4 r:=⟨_,rfl⟩
  rw[<- hEs] at hg hln hp hm ⊢
  rw[<- hes] at h1 hm1 hg0 hp
  clear hEs hes
  cases hb:H9 e.ch with
  |false=>
   rw[hb] at hC
   have e1:u7 (e::r)=K4:=by show(if H9 e.ch=true then e.cr else K4)=K4;rw[hb];rfl
   have e2:u6 (e::r)=false:=hb
   have e3:Q7 (e::r)=[]:=by unfold Q7;rw[e2];rfl
   rw[e1,e2,e3]
   clear e1 e2 e3 hb
   obtain⟨tm,tb,⟨⟨nm',cs,ks,fs,xs⟩,dc,dk,df,dx⟩,⟨k,cnm,to,⟨cn,ck,cl⟩,⟨vk,vn,vs⟩⟩⟩:=e
   refine A8v.go A6 rfl ?_
   repeat' first|refine st ?_|((with_reducible first|apply A8|apply A7);(·exact hC))|(with_reducible first|apply A5|apply A4)<;>intro _
   all_goals rfl
  |true=>
   rw[hb] at hC
   have e1:u7 (e::r)=e.cr:=by show(if H9 e.ch=true then e.cr else K4)=e.cr;rw[hb];rfl
   have e2:u6 (e::r)=true:=hb
   have e3:Q7 (e::r)=r.map En.ch:=by unfold Q7;rw[e2];rfl
   rw[e1,e2,e3]
   clear e1 e2 e3 hb
   obtain⟨R,hR⟩:∃R,R=P8 (r.map En.ch):=⟨_,rfl⟩
   rw[<- hR]
   obtain⟨tm,tb,⟨⟨nm',cs,ks,fs,xs⟩,dc,dk,df,dx⟩,⟨k,cnm,to,⟨cn,ck,cl⟩,⟨vk,vn,vs⟩⟩⟩:=e
   refine A8v.go A6 rfl ?_
   repeat' first|(rw[hp])|refine st ?_|((with_reducible first|apply A8|apply A7);(·exact hC))|(with_reducible first|apply A5|apply A4)<;>intro _
   refine s0 5 9 rfl rfl ?_
   refine I8 A6 C5E C4y (λ(i:Nat) (w:List (List D))=>[.arr 1 w.length,.d (eI i)]) (λi w=>[.cells [.d (.str []),.d .nil,.d .nil,.d .nil,.d .nil],.arr w 9 0 w.isEmpty]) (λi w=>i<=r.length/\w=P8 ((r.take i).map En.ch)) (λi w=>r.length-i) 0 [] rfl rfl rfl rfl (λ_ _ _=>⟨rfl,rfl⟩) rfl ⟨by omega,rfl⟩ ?_
   repeat' first|refine st ?_|(with_reducible first|apply A5|apply A4)<;>intro _
   intro i A ⟨g1,g2⟩
   have hAl:A.length=i:=by rw[g2,A5p,D0,N6];omega
   have hAm:∀e∈A,e.length=9:=by rw[g2];exact A7d _
   cases hx:r[i]? with
   |some y=>
    have hlt:=(B2.1 hx).1
    have hgy:=hg0 i y hx
    have hs:A++[A78 y.ch]=P8 ((r.take (i+1)).map En.ch):=by rw[g2,P5,hx];simp[P8]
    obtain⟨tm2,tb2,⟨⟨nm2,cs2,ks2,fs2,xs2⟩,dc2,dk2,df2,dx2⟩,⟨k2,cnm2,to2,⟨cn2,ck2,cl2⟩,⟨vk2,vn2,vs2⟩⟩⟩:=y
    clear g2 hR
    repeat' first|refine st ?_|(with_reducible first|apply A5|apply A4)<;>intro _
    exact⟨i+1,A++[_],rfl,rfl,by first|rfl|(simp;done),by omega,by omega,hs⟩
   |none=>
    have hge:=D1.1 hx
    rw[L0 hge,<- hR] at g2
    subst g2
    clear hR
    repeat' first|refine st ?_|(with_reducible first|apply A5|apply A4)<;>intro _
    all_goals first|rfl|(cases A<;>rfl)
end Go.Proofs
end
