/- Texts of this claim, joined. No condition. -/
import Derived.Test.YtnhhopmldgpglaaGreatDoorQ5
set_option linter.unusedSimpArgs false
set_option linter.unusedVariables false
set_option maxRecDepth 10000
set_option maxHeartbeats 4000000
section
namespace Go.Proofs
open Go.Bi
def Tb.Rg(t:Tb):Prop:=∀e∈t.xs,e.Rg
def M9(f:Fo):Fo:=⟨false,f.cs,f.tb⟩
def nf(t:Tb):Tb:=⟨t.nm,t.cs,t.ks,t.fs.map M9,t.xs.map F6⟩
theorem B7J(t:Tb):nf (nf t)=nf t:=by
 unfold nf
 congr 1
 ·rw[V4];rfl
 ·exact A0k λa ha=>A9t a
theorem B6U(n:Nat):∀l:List Fo,V6 n (l.map M9)=V6 n l
 |[]=>rfl
 |f::r=>by rw[R6,V6,V6,B6U n r];rfl
theorem C82(ks:List Int)(e:Ex):A08 ks (F6 e)=A08 ks e:=by unfold A08 A1b;rw[B60,B5Z]
theorem B5I(ks:List Int):∀l:List Ex,t7 ks (l.map F6)=t7 ks l
 |[]=>rfl
 |f::r=>by rw[R6,t7,t7,B5I ks r,C82]
theorem A4m(t:Tb):H8 (nf t)=H8 t:=by
 unfold H8 A1d A1a nf
 dsimp only
 rw[C7,C7,B6U,B5I]
theorem D2s(t:Tb):y0 (nf t)=y0 t:=by
 unfold y0 A2B A7X nf
 dsimp only
 rw[A7h,A7h,A7i (f:=λa=>(M9 a).cs) (g:=Fo.cs) λa _=>rfl,A7i (f:=λa=>Q1 (F6 a)) (g:=Q1) λa _=>C8n a]
theorem A2m(t:Tb)(c:Ch):D7 (nf t) c=D7 t c:=by
 unfold D7
 rw[A4m]
 unfold A3O
 rw[D2s]
 rfl
def F3(t:Tb)(c:Ch):Tb:=
 if c.k=1 then ⟨t.nm,t.cs++[c.co],t.ks,t.fs,t.xs.map F6⟩
 else if c.k=2 then ⟨t.nm,t.cs.eraseIdx (D8 c.nm t.cs).toNat,t.ks.map (λx=>B0 x (D8 c.nm t.cs).toNat),t.fs.map (I0 (D8 c.nm t.cs).toNat),t.xs.map (T8 (D8 c.nm t.cs).toNat)⟩
 else if c.k=3 then ⟨t.nm,t.cs.set (D8 c.nm t.cs).toNat ⟨c.to,(t.cs.getD (D8 c.nm t.cs).toNat ⟨[],0,false⟩).k,(t.cs.getD (D8 c.nm t.cs).toNat ⟨[],0,false⟩).nl⟩,t.ks,t.fs,t.xs.map F6⟩
 else ⟨t.nm,t.cs.set (D8 c.nm t.cs).toNat ⟨(t.cs.getD (D8 c.nm t.cs).toNat ⟨[],0,false⟩).nm,2,(t.cs.getD (D8 c.nm t.cs).toNat ⟨[],0,false⟩).nl⟩,t.ks,t.fs,t.xs.map F6⟩
theorem A4b(t:Tb)(c:Ch):nf (F3 (nf t) c)=nf (F3 t c):=by
 have e1:(t.fs.map M9).map M9=t.fs.map M9:=by rw[V4];rfl
 have e2:((t.xs.map F6).map F6).map F6=(t.xs.map F6).map F6:=A0k λa ha=>A9t a
 have e3 (i:Nat):((t.fs.map M9).map (I0 i)).map M9=(t.fs.map (I0 i)).map M9:=by rw[V4,V4,V4];rfl
 have e4 (i:Nat):((t.xs.map F6).map (T8 i))=t.xs.map (T8 i):=A0k λa ha=>C8G i a
 unfold F3
 split
 ·unfold nf;dsimp only;rw[e1,e2]
 ·split
  ·unfold nf;dsimp only;rw[e3,e4]
  ·split
   ·unfold nf;dsimp only;rw[e1,e2]
   ·unfold nf;dsimp only;rw[e1,e2]
theorem C99{t:Tb}(h:t.Rg)(c:Ch):(F3 t c).Rg:=by
 have h1:∀e∈t.xs.map F6,e.Rg:=λe he=>by
  obtain⟨a,ha,rfl⟩:=E6.1 he
  exact A9u a (h a ha)
 unfold F3
 split
 ·exact h1
 ·split
  ·intro e he
   obtain⟨a,ha,rfl⟩:=E6.1 he
   exact C8I _ a (h a ha)
  ·split<;>exact h1
theorem A0d{t:Tb}{c:Ch}(h:D7 t c=0):H8 t=0/\(1<=c.k/\c.k<=4)/\A3f c=false/\(c.k=1->A2c t c=0)/\(c.k≠1->A3O t c=0):=by
 unfold D7 at h
 by_cases h1:H8 t=0
 ·rw[if_neg (by simpa using h1)] at h
  by_cases h2:1<=c.k/\c.k<=4
  ·rw[if_neg (by simpa using h2)] at h
   cases h3:A3f c with
   |true=>rw[h3,if_pos rfl] at h;cases h
   |false=>
    rw[h3,if_neg (by decide)] at h
    exact⟨h1,h2,rfl,λhk=>by rw[if_pos hk] at h;exact h,λhk=>by rw[if_neg hk] at h;exact h⟩
  ·rw[if_pos h2] at h;cases h
 ·rw[if_pos h1] at h;exact absurd h h1
theorem B5d{t:Tb}{c:Ch}(h:A2c t c=0):t.cs.length<12/\L6 c.co.nm=true/\(1<=c.co.k/\c.co.k<=3)/\D8 c.co.nm t.cs<0/\N6 c.df=true/\(c.df.k=0->c.co.nl=true)/\(c.df.k≠0->c.df.k=c.co.k):=by
 unfold A2c at h
 repeat' split at h
 all_goals first|(cases h;done)|skip
 rename_i h1 h2 h3 h4 h5 h6 h7
 refine⟨by omega,by simpa using h2,by omega,by omega,by simpa using h5,λe=>?_,λe=>?_⟩
 ·cases hh:c.co.nl with
  |true=>rfl
  |false=>exact absurd ⟨e,hh⟩ h6
 ·by_cases hh:c.df.k=c.co.k
  ·exact hh
  ·exact absurd ⟨e,hh⟩ h7
theorem A1L{t:Tb}{c:Ch}(h:A3O t c=0):∃(i:Nat)(co:Co),D8 c.nm t.cs=i/\t.cs[i]?=some co/\co.nm=c.nm/\(c.k≠3->¬(i:Int)∈y0 t)/\(c.k=4->co.k≠2)/\(c.k=3->L6 c.to=true/\D8 c.to t.cs<0):=by
 unfold A3O at h
 by_cases h0:D8 c.nm t.cs<0
 ·rw[if_pos h0] at h;cases h
 rw[if_neg h0] at h
 obtain⟨co,hc,hn⟩:=B6A (nm:=c.nm) (l:=t.cs) (by omega)
 have hi:D8 c.nm t.cs=((D8 c.nm t.cs).toNat:Int):=by omega
 by_cases h1:c.k≠3/\0<(y0 t).count (D8 c.nm t.cs)
 ·rw[if_pos h1] at h;cases h
 rw[if_neg h1] at h
 by_cases h2:c.k=4/\A0D t (D8 c.nm t.cs)=2
 ·rw[if_pos h2] at h;cases h
 rw[if_neg h2] at h
 by_cases h3:c.k=3/\L6 c.to=false
 ·rw[if_pos h3] at h;cases h
 rw[if_neg h3] at h
 by_cases h4:c.k=3/\0<=D8 c.to t.cs
 ·rw[if_pos h4] at h;cases h
 refine⟨_,co,hi,hc,hn,λhk hm=>h1 ⟨hk,?_⟩,λhk hh=>h2 ⟨hk,?_⟩,λhk=>⟨?_,?_⟩⟩
 ·rw[hi];exact List.count_pos_iff.2 hm
 ·unfold A0D;rw[hc];exact hh
 ·cases hh:L6 c.to with
  |true=>rfl
  |false=>exact absurd ⟨hk,hh⟩ h3
 ·by_cases hh:D8 c.to t.cs<0
  ·exact hh
  ·exact absurd ⟨hk,by omega⟩ h4
structure Vd(t:Tb):Prop where
 nm:L6 t.nm=true
 l1:1<=t.cs.length
 l2:t.cs.length<=12
 co:∀c∈t.cs,L6 c.nm=true/\1<=c.k/\c.k<=3
 nd:(t.cs.map Co.nm).Nodup
 k0:t.ks≠[]
 ks:∀k∈t.ks,0<=k/\k<t.cs.length/\(t.cs.getD k.toNat ⟨[],0,false⟩).nl=false
 ka:t.ks.Pairwise (·<·)
 fl:t.fs.length<=4
 fs:∀f∈t.fs,L6 f.tb=true/\f.cs≠[]/\(∀c∈f.cs,0<=c/\c<t.cs.length)/\f.cs.Nodup
 xl:t.xs.length<=4
 xs:∀x∈t.xs,L5 x<=24/\(F8 (kd t.cs) x).2=0/\((F8 (kd t.cs) x).1=3\/(F8 (kd t.cs) x).1=0)
theorem A9r:∀{l:List Co}{seen:List (List UInt8)},n5 seen l=0↔(∀c∈l,L6 c.nm=true/\1<=c.k/\c.k<=3)/\(l.map Co.nm).Nodup/\∀c∈l,¬c.nm∈seen
 |[],seen=>by simp[n5]
 |a::r,seen=>by
  unfold n5
  by_cases h1:L6 a.nm=true
  ·rw[if_pos h1]
   by_cases h2:1<=a.k/\a.k<=3
   ·rw[if_pos h2]
    by_cases h3:a.nm∈seen
    ·rw[if_pos h3]
     constructor
     ·intro h;cases h
     ·intro h;exact absurd h3 (h.2.2 a (by simp))
    ·rw[if_neg h3,A9r]
     simp only[L4,R6,A28,R3,m8,or_false,not_or]
     constructor
     ·rintro⟨g1,g2,g3⟩
      refine⟨λc hc=>?_,⟨λhm=>?_,g2⟩,λc hc=>?_⟩
      ·rcases hc with rfl|hc
       ·exact⟨h1,h2.1,h2.2⟩
       ·exact g1 c hc
      ·obtain⟨c,hc,e⟩:=E6.1 hm
       exact(g3 c hc).2 e
      ·rcases hc with rfl|hc
       ·exact h3
       ·exact(g3 c hc).1
     ·rintro⟨g1,⟨g2,g3⟩,g4⟩
      exact⟨λc hc=>g1 c (.inr hc),g3,λc hc=>⟨g4 c (.inr hc),λe=>g2 (E6.2 ⟨c,hc,e⟩)⟩⟩
   ·rw[if_neg h2]
    constructor
    ·intro h;cases h
    ·intro h;exact absurd (h.1 a (by simp)).2 h2
  ·rw[if_neg h1]
   constructor
   ·intro h;cases h
   ·intro h;exact absurd (h.1 a (by simp)).1 h1
theorem A9Z{l:List Co}:∀{ks:List Int}{p:Option Int},Z9 l p ks=0↔(∀k∈ks,0<=k/\k<l.length/\(l.getD k.toNat ⟨[],0,false⟩).nl=false)/\ks.Pairwise (·<·)/\∀q,p=some q->∀k∈ks,q<k
 |[],p=>by simp[Z9]
 |a::r,p=>by
  have ih:=A9Z (l:=l) (ks:=r) (p:=some a)
  unfold Z9
  by_cases h1:0<=a/\a<l.length
  ·rw[if_pos h1]
   have key:(if (l.getD a.toNat ⟨[],0,false⟩).nl=true then 12 else Z9 l (some a) r)=0↔(l.getD a.toNat ⟨[],0,false⟩).nl=false/\Z9 l (some a) r=0:=by
    cases hh:(l.getD a.toNat ⟨[],0,false⟩).nl with
    |true=>simp
    |false=>simp
   cases p with
   |none=>
    dsimp only
    rw[key,ih]
    simp only[L4,List.pairwise_cons,forall_eq_or_imp]
    constructor
    ·rintro⟨g1,g2,g3,g4⟩
     exact⟨⟨⟨h1.1,h1.2,g1⟩,g2⟩,⟨g4 a rfl,g3⟩,λq hq=>by cases hq⟩
    ·rintro⟨⟨g1,g2⟩,⟨g3,g4⟩,g5⟩
     exact⟨g1.2.2,g2,g4,λq hq k hk=>by cases hq;exact g3 k hk⟩
   |some q=>
    dsimp only
    by_cases h2:a<=q
    ·rw[if_pos h2]
     constructor
     ·intro h;cases h
     ·intro h
      have:=h.2.2 q rfl a (by simp)
      omega
    ·rw[if_neg h2,key,ih]
     simp only[L4,List.pairwise_cons,forall_eq_or_imp]
     constructor
     ·rintro⟨g1,g2,g3,g4⟩
      refine⟨⟨⟨h1.1,h1.2,g1⟩,g2⟩,⟨g4 a rfl,g3⟩,λq' hq=>?_⟩
      cases hq
      exact⟨by omega,λk hk=>by have:=g4 a rfl k hk;omega⟩
     ·rintro⟨⟨g1,g2⟩,⟨g3,g4⟩,g5⟩
      exact⟨g1.2.2,g2,g4,λq' hq k hk=>by cases hq;exact g3 k hk⟩
  ·rw[if_neg h1]
   constructor
   ·intro h;cases h
   ·intro h;exact absurd ⟨(h.1 a (by simp)).1,(h.1 a (by simp)).2.1⟩ h1
theorem B6r{n:Nat}:∀{l seen:List Int},n7 n seen l=0↔(∀c∈l,0<=c/\c<n)/\l.Nodup/\∀c∈l,¬c∈seen
 |[],seen=>by simp[n7]
 |a::r,seen=>by
  unfold n7
  by_cases h:(0<=a/\a<n)/\¬a∈seen
  ·rw[if_pos h,B6r]
   simp only[L4,A28,R3,m8,or_false,not_or,forall_eq_or_imp]
   constructor
   ·rintro⟨g1,g2,g3⟩
    exact⟨⟨h.1,g1⟩,⟨λhm=>(g3 a hm).2 rfl,g2⟩,h.2,λc hc=>(g3 c hc).1⟩
   ·rintro⟨⟨g1,g2⟩,⟨g3,g4⟩,g5,g6⟩
    exact⟨g2,g4,λc hc=>⟨g6 c hc,λe=>g3 (e▸hc)⟩⟩
  ·rw[if_neg h]
   constructor
   ·intro h;cases h
   ·intro hh;exact absurd ⟨hh.1 a (by simp),hh.2.2 a (by simp)⟩ h
theorem A9Q{n:Nat}:∀{l:List Fo},V6 n l=0↔∀f∈l,L6 f.tb=true/\f.cs≠[]/\(∀c∈f.cs,0<=c/\c<n)/\f.cs.Nodup
 |[]=>by simp[V6]
 |f::r=>by
  have h1:A0e n f=0↔L6 f.tb=true/\f.cs≠[]/\(∀c∈f.cs,0<=c/\c<n)/\f.cs.Nodup:=by
   unfold A0e
   by_cases g1:L6 f.tb=true
   ·rw[if_pos g1]
    by_cases g2:f.cs.length=0
    ·rw[if_pos g2]
     constructor
     ·intro h;cases h
     ·intro h;exact absurd (A2K.1 g2) h.2.1
    ·rw[if_neg g2,B6r]
     constructor
     ·rintro⟨a,b,_⟩;exact⟨g1,λe=>g2 (by rw[e];rfl),a,b⟩
     ·rintro⟨_,_,a,b⟩;exact⟨a,b,by simp⟩
   ·rw[if_neg g1]
    constructor
    ·intro h;cases h
    ·intro h;exact absurd h.1 g1
  unfold V6
  simp only[L4,forall_eq_or_imp]
  rw[<- h1,<- A9Q (l:=r)]
  by_cases h2:A0e n f=0
  ·rw[if_pos h2];simp[h2]
  ·rw[if_neg h2];simp[h2]
theorem C83{ks:List Int}{x:Ex}:A08 ks x=0↔L5 x<=24/\(F8 ks x).2=0/\((F8 ks x).1=3\/(F8 ks x).1=0):=by
 unfold A08 A1b
 by_cases h1:24<L5 x
 ·rw[if_pos h1]
  constructor
  ·intro h;simp at h
  ·intro h;omega
 ·rw[if_neg h1]
  by_cases h2:(F8 ks x).2=0
  ·rw[if_pos h2]
   by_cases h3:(F8 ks x).1=3\/(F8 ks x).1=0
   ·rw[if_pos h3];simp[h2,h3];omega
   ·rw[if_neg h3];simp[h3]
  ·rw[if_neg h2];simp[h2]
theorem A9j{ks:List Int}:∀{l:List Ex},t7 ks l=0↔∀x∈l,L5 x<=24/\(F8 ks x).2=0/\((F8 ks x).1=3\/(F8 ks x).1=0)
 |[]=>by simp[t7]
 |f::r=>by
  unfold t7
  simp only[L4,forall_eq_or_imp]
  rw[<- C83,<- A9j (l:=r)]
  by_cases h2:A08 ks f=0
  ·rw[if_pos h2];simp[h2]
  ·rw[if_neg h2];simp[h2]
theorem m5{t:Tb}:H8 t=0↔Vd t:=by
 constructor
 ·intro h
  obtain⟨h1,h2,h3,h4⟩:=B8Q h
  obtain⟨l1,l2,h5⟩:=B5T h2
  obtain⟨c1,c2,_⟩:=A9r.1 h5
  unfold A0g at h3
  have k0:t.ks.length≠0:=by intro e;rw[if_pos e] at h3;cases h3
  rw[if_neg k0] at h3
  obtain⟨k1,k2,_⟩:=A9Z.1 h3
  unfold A1d at h4
  have f0:t.fs.length<=4:=by
   by_cases e:t.fs.length<=4
   ·exact e
   ·rw[if_neg e] at h4;cases h4
  rw[if_pos f0] at h4
  by_cases f1:V6 t.cs.length t.fs=0
  ·rw[if_pos f1] at h4
   unfold A1a at h4
   have x0:t.xs.length<=4:=by
    by_cases e:t.xs.length<=4
    ·exact e
    ·rw[if_neg e] at h4;cases h4
   rw[if_pos x0] at h4
   exact⟨h1,l1,l2,c1,c2,λe=>k0 (by rw[e];rfl),k1,k2,f0,A9Q.1 f1,x0,A9j.1 h4⟩
  ·rw[if_neg f1] at h4;exact absurd h4 f1
 ·intro h
  have h2:u4 t.cs=0:=by
   unfold u4
   rw[if_pos ⟨h.l1,h.l2⟩]
   exact A9r.2 ⟨h.co,h.nd,by simp⟩
  have h3:A0g t.cs t.ks=0:=by
   unfold A0g
   rw[if_neg (λe=>h.k0 (A2K.1 e))]
   exact A9Z.2 ⟨h.ks,h.ka,λq hq=>by cases hq⟩
  have h4:A1d t=0:=by
   unfold A1d A1a
   rw[if_pos h.fl,if_pos (A9Q.2 h.fs),if_pos h.xl]
   exact A9j.2 h.xs
  unfold H8
  rw[if_pos h.nm,if_pos h2,if_pos h3,h4]
end Go.Proofs
end
section
set_option maxHeartbeats 8000000
namespace Go.Proofs
open Go.Bi
theorem B9z(t:Tb)(dc dk df dx:D)(h:O0 t dc dk df dx)(c:Ch)(hc:I1 c)(hq:D7 t c=0)(hfs:t.fs=[])(hk:c.k=1) :
  Pure Tryz.prog Q6 [eT t.nm dc dk df dx,c.av] (.tup [eT t.nm (.sl (B3 (t.cs++[c.co]))) (B9 (A7 dk) (A0 t.ks)) (dF t.fs) (B9 (xL (t.xs.map (C0 0))).isEmpty (xL (t.xs.map (C0 0)))),.d (eI 0)]):=by
 have hC:=U3 t dc dk df dx h c hc
 rw[hq] at hC
 have hF:=S6 t.nm t.cs h.hl dc dk df dx h.dc c.nm
 have hl:=h.hl
 have hdf:=h.df
 have hfc:=h.hfc
 rw[hfs] at hdf hfc
 have hK:=A4x t.nm dc dk df dx (B3 t.cs) (A0 t.ks) (A7 dc) (A7 dk) (V0 _ (by rw[G8];omega) (I3 _) dc h.dc) (G7 _ (by rw[B6];have:=h.hk;omega) (D4 _) dk h.dk) hdf t.xs h.hxb h.hxs h.dx
 have hcl:=G8 t.cs
 have e1:B3 (t.cs++[c.co])=B3 t.cs++[c.co.ds]:=by simp[B3]
 rw[e1]
 obtain⟨k,nm,to,⟨cn,ck,cl⟩,⟨vk,vn,vs⟩⟩:=c
 dsimp only at hk
 subst hk
 obtain⟨f,hf⟩:∃f,f=D8 nm t.cs:=⟨_,rfl⟩
 have hF:Bi.Pure Tryz.prog U5 [eT t.nm dc dk df dx,.d (.str nm)] (.d (eI f)):=by rw[hf];exact hF
 rw[show dF t.fs=B9 true (H9 []) by rw[hfs];rfl]
 generalize B3 t.cs=Cs at hK hcl ⊢
 generalize A0 t.ks=Ks at hK hcl ⊢
 generalize xL (t.xs.map (C0 0))=Xs at hK hcl ⊢
 generalize A7 dk=b2 at hK hcl ⊢
 generalize A7 dc=b1 at hK hcl ⊢
 refine B4.deepP (Q:=λr os=>r=.tup [.agg [.d (.str t.nm),.arr 5 (Cs++[[.str cn,eI ck,.bool cl]]).length,.arr 6 Ks.length,.rs 8 0,.arr 9 Xs.length],.d (eI 0)]/\os[5]?=some (.arr (Cs++[[.str cn,eI ck,.bool cl]]) 3 0 false)/\os[6]?=some (.arr Ks 1 0 b2)/\os[8]?=some (.rarr [] 2 true)/\os[9]?=some (.arr Xs 7 0 Xs.isEmpty)) ?_ ?_
 ·refine V1.goO2 A6 rfl ?_
  repeat' first|refine st ?_|((with_reducible first|apply A9|apply A8);(·first|exact hC|exact hF))|((with_reducible first|apply I6|apply D5);(·exact hK);(try rintro _ _ ⟨rfl,rfl⟩))|((with_reducible apply I7);(·exact hK))|((with_reducible apply H6);refine st ?_;(with_reducible apply I5);(·exact rfl);refine st ?_;(with_reducible apply D5);(·exact hK);(try rintro _ _ ⟨rfl,rfl⟩))|(with_reducible first|apply A5|apply A4)<;>intro _
  exact⟨rfl,rfl,rfl,rfl,rfl⟩
 ·rintro r os ⟨rfl,hx0,hx1,hx2,hx3⟩
  refine V5 (rows:=[]) (fs:=[]) (.inl (.inr ⟨5,_,3,0,false,rfl,hx0,rfl⟩)) hx1 hx2 hx3 rfl (λi e g he hg=>?_)
  match i,he,hg with
  |i+0,he,hg=>simp at he
theorem B9B(t:Tb)(dc dk df dx:D)(h:O0 t dc dk df dx)(c:Ch)(hc:I1 c)(hq:D7 t c=0)(hfs:t.fs=[])(hk:c.k=3)(i:Nat)(hi:D8 c.nm t.cs=i)(co:Co)(hco:t.cs[i]?=some co)(hdc:dc=.sl (B3 t.cs)) :
  Pure Tryz.prog Q6 [eT t.nm dc dk df dx,c.av] (.tup [eT t.nm (.sl (B3 (t.cs.set i ⟨c.to,co.k,co.nl⟩))) (B9 (A7 dk) (A0 t.ks)) (dF t.fs) (B9 (xL (t.xs.map (C0 0))).isEmpty (xL (t.xs.map (C0 0)))),.d (eI 0)]):=by
 have hC:=U3 t dc dk df dx h c hc
 rw[hq] at hC
 have hF:=S6 t.nm t.cs h.hl dc dk df dx h.dc c.nm
 have hl:=h.hl
 have hdf:=h.df
 have hfc:=h.hfc
 rw[hfs] at hdf hfc
 rw[hi] at hF
 have hK:=A4x t.nm dc dk df dx (B3 t.cs) (A0 t.ks) (A7 dc) (A7 dk) (V0 _ (by rw[G8];omega) (I3 _) dc h.dc) (G7 _ (by rw[B6];have:=h.hk;omega) (D4 _) dk h.dk) hdf t.xs h.hxb h.hxs h.dx
 have hcl:=G8 t.cs
 rw[show A7 dc=false by rw[hdc];rfl] at hK
 have hg:(B3 t.cs)[((i:Nat):Int).toNat]?=some [.str co.nm,eI co.k,.bool co.nl]:=M8 hco
 have hg2:(B3 t.cs)[i]?=some [.str co.nm,eI co.k,.bool co.nl]:=M8 hco
 have hmm:=I3 t.cs
 have hilt:i<(B3 t.cs).length:=by rw[hcl];exact(B2.1 hco).1
 have e1:B3 (t.cs.set i ⟨c.to,co.k,co.nl⟩)=(B3 t.cs).set i [.str c.to,eI co.k,.bool co.nl]:=by unfold B3;rw[X5]
 rw[e1]
 obtain⟨k,nm,to,⟨cn,ck,cl⟩,⟨vk,vn,vs⟩⟩:=c
 dsimp only at hk
 subst hk
 have hF:Bi.Pure Tryz.prog U5 [eT t.nm dc dk df dx,.d (.str nm)] (.d (eI i)):=hF
 rw[show dF t.fs=B9 true (H9 []) by rw[hfs];rfl]
 generalize B3 t.cs=Cs at hK hcl hg hg2 hmm hilt ⊢
 generalize A0 t.ks=Ks at hK hcl hg hg2 hmm hilt ⊢
 generalize xL (t.xs.map (C0 0))=Xs at hK hcl hg hg2 hmm hilt ⊢
 generalize A7 dk=b2 at hK hcl hg hg2 hmm hilt ⊢
 refine B4.deepP (Q:=λr os=>r=.tup [.agg [.d (.str t.nm),.arr 5 (Cs.set i [.str to,eI co.k,.bool co.nl]).length,.arr 6 Ks.length,.rs 8 0,.arr 9 Xs.length],.d (eI 0)]/\os[5]?=some (.arr (Cs.set i [.str to,eI co.k,.bool co.nl]) 3 0 false)/\os[6]?=some (.arr Ks 1 0 b2)/\os[8]?=some (.rarr [] 2 true)/\os[9]?=some (.arr Xs 7 0 Xs.isEmpty)) ?_ ?_
 ·refine V1.goO2 A6 rfl ?_
  rw[V3]
  repeat' first|refine st ?_|((with_reducible first|apply A9|apply A8);(·first|exact hC|exact hF))|((with_reducible first|apply I6|apply D5);(·exact hK);(try rintro _ _ ⟨rfl,rfl⟩))|((with_reducible apply I7);(·exact hK))|((with_reducible apply H6);refine st ?_;(with_reducible apply I5);(·exact rfl);refine st ?_;(with_reducible apply D5);(·exact hK);(try rintro _ _ ⟨rfl,rfl⟩))|(with_reducible first|apply A5|apply A4)<;>intro _
  exact⟨rfl,rfl,rfl,rfl,rfl⟩
 ·rintro r os ⟨rfl,hx0,hx1,hx2,hx3⟩
  refine V5 (rows:=[]) (fs:=[]) (.inl (.inr ⟨5,_,3,0,false,rfl,hx0,rfl⟩)) hx1 hx2 hx3 rfl (λi e g he hg=>?_)
  match i,he,hg with
  |i+0,he,hg=>simp at he
theorem B9C(t:Tb)(dc dk df dx:D)(h:O0 t dc dk df dx)(c:Ch)(hc:I1 c)(hq:D7 t c=0)(hfs:t.fs=[])(hk:c.k=4)(i:Nat)(hi:D8 c.nm t.cs=i)(co:Co)(hco:t.cs[i]?=some co)(hdc:dc=.sl (B3 t.cs)) :
  Pure Tryz.prog Q6 [eT t.nm dc dk df dx,c.av] (.tup [eT t.nm (.sl (B3 (t.cs.set i ⟨co.nm,2,co.nl⟩))) (B9 (A7 dk) (A0 t.ks)) (dF t.fs) (B9 (xL (t.xs.map (C0 0))).isEmpty (xL (t.xs.map (C0 0)))),.d (eI 0)]):=by
 have hC:=U3 t dc dk df dx h c hc
 rw[hq] at hC
 have hF:=S6 t.nm t.cs h.hl dc dk df dx h.dc c.nm
 have hl:=h.hl
 have hdf:=h.df
 have hfc:=h.hfc
 rw[hfs] at hdf hfc
 rw[hi] at hF
 have hK:=A4x t.nm dc dk df dx (B3 t.cs) (A0 t.ks) (A7 dc) (A7 dk) (V0 _ (by rw[G8];omega) (I3 _) dc h.dc) (G7 _ (by rw[B6];have:=h.hk;omega) (D4 _) dk h.dk) hdf t.xs h.hxb h.hxs h.dx
 have hcl:=G8 t.cs
 rw[show A7 dc=false by rw[hdc];rfl] at hK
 have hg:(B3 t.cs)[((i:Nat):Int).toNat]?=some [.str co.nm,eI co.k,.bool co.nl]:=M8 hco
 have hg2:(B3 t.cs)[i]?=some [.str co.nm,eI co.k,.bool co.nl]:=M8 hco
 have hmm:=I3 t.cs
 have hilt:i<(B3 t.cs).length:=by rw[hcl];exact(B2.1 hco).1
 have e1:B3 (t.cs.set i ⟨co.nm,2,co.nl⟩)=(B3 t.cs).set i [.str co.nm,eI 2,.bool co.nl]:=by unfold B3;rw[X5]
 rw[e1]
 obtain⟨k,nm,to,⟨cn,ck,cl⟩,⟨vk,vn,vs⟩⟩:=c
 dsimp only at hk
 subst hk
 have hF:Bi.Pure Tryz.prog U5 [eT t.nm dc dk df dx,.d (.str nm)] (.d (eI i)):=hF
 rw[show dF t.fs=B9 true (H9 []) by rw[hfs];rfl]
 generalize B3 t.cs=Cs at hK hcl hg hg2 hmm hilt ⊢
 generalize A0 t.ks=Ks at hK hcl hg hg2 hmm hilt ⊢
 generalize xL (t.xs.map (C0 0))=Xs at hK hcl hg hg2 hmm hilt ⊢
 generalize A7 dk=b2 at hK hcl hg hg2 hmm hilt ⊢
 refine B4.deepP (Q:=λr os=>r=.tup [.agg [.d (.str t.nm),.arr 5 (Cs.set i [.str co.nm,eI 2,.bool co.nl]).length,.arr 6 Ks.length,.rs 8 0,.arr 9 Xs.length],.d (eI 0)]/\os[5]?=some (.arr (Cs.set i [.str co.nm,eI 2,.bool co.nl]) 3 0 false)/\os[6]?=some (.arr Ks 1 0 b2)/\os[8]?=some (.rarr [] 2 true)/\os[9]?=some (.arr Xs 7 0 Xs.isEmpty)) ?_ ?_
 ·refine V1.goO2 A6 rfl ?_
  rw[V3]
  repeat' first|refine st ?_|((with_reducible first|apply A9|apply A8);(·first|exact hC|exact hF))|((with_reducible first|apply I6|apply D5);(·exact hK);(try rintro _ _ ⟨rfl,rfl⟩))|((with_reducible apply I7);(·exact hK))|((with_reducible apply H6);refine st ?_;(with_reducible apply I5);(·exact rfl);refine st ?_;(with_reducible apply D5);(·exact hK);(try rintro _ _ ⟨rfl,rfl⟩))|(with_reducible first|apply A5|apply A4)<;>intro _
  exact⟨rfl,rfl,rfl,rfl,rfl⟩
 ·rintro r os ⟨rfl,hx0,hx1,hx2,hx3⟩
  refine V5 (rows:=[]) (fs:=[]) (.inl (.inr ⟨5,_,3,0,false,rfl,hx0,rfl⟩)) hx1 hx2 hx3 rfl (λi e g he hg=>?_)
  match i,he,hg with
  |i+0,he,hg=>simp at he
theorem B9A(t:Tb)(dc dk df dx:D)(h:O0 t dc dk df dx)(c:Ch)(hc:I1 c)(hq:D7 t c=0)(hfs:t.fs=[])(hk:c.k=2)(i:Nat)(hi:D8 c.nm t.cs=i)(hil:i<t.cs.length)(hdc:dc=.sl (B3 t.cs))(hkb:∀k∈t.ks,0<=k/\k<=1048576)(hfb:∀g∈t.fs,∀k∈g.cs,0<=k/\k<=1048576)(hxb:∀e∈t.xs.map (C0 0),e.bk<=1048576) :
  Pure Tryz.prog Q6 [eT t.nm dc dk df dx,c.av] (.tup [eT t.nm (.sl (B3 (t.cs.eraseIdx i))) (B9 (A7 dk) (A0 (t.ks.map λc=>B0 c i))) (dF (t.fs.map (I0 i))) (B9 (xL (t.xs.map (C0 0))).isEmpty (xL ((t.xs.map (C0 0)).map (E3 (H5 t.cs.length i))))),.d (eI 0)]):=by
 have hC:=U3 t dc dk df dx h c hc
 rw[hq] at hC
 have hF:=S6 t.nm t.cs h.hl dc dk df dx h.dc c.nm
 have hl:=h.hl
 have hdf:=h.df
 have hfc:=h.hfc
 rw[hfs] at hdf hfc
 rw[hi] at hF
 have hK:=A4x t.nm dc dk df dx (B3 t.cs) (A0 t.ks) (A7 dc) (A7 dk) (V0 _ (by rw[G8];omega) (I3 _) dc h.dc) (G7 _ (by rw[B6];have:=h.hk;omega) (D4 _) dk h.dk) hdf t.xs h.hxb h.hxs h.dx
 have hcl:=G8 t.cs
 rw[show A7 dc=false by rw[hdc];rfl] at hK
 have hkN:A7 dk=true->t.ks=[]:=λhh=>by
  have:=l4 h.dk hh
  cases hks:t.ks with
  |nil=>rfl
  |cons a l=>rw[hks] at this;cases this
 have hxN:(xL (t.xs.map (C0 0))).isEmpty=true->t.xs.map (C0 0)=[]:=by
  intro hh
  cases hx:t.xs.map (C0 0) with
  |nil=>rfl
  |cons a l=>rw[hx] at hh;cases hh
 have hD:=λT0 T1 T2 T3 T4 T7=>C07 T0 T1 T2 T3 T4 T7 t.nm (B3 t.cs) (I3 _) i (by rw[hcl];exact hil) (by rw[hcl];exact hl) t.ks hkb h.hk (A7 dk) hkN (t.xs.map (C0 0)) (by rw[C7];exact h.hxs) hxb _ hxN 
 rw[hcl] at hD
 have hkl2:(A0 (t.ks.map λc=>B0 c i)).length=(A0 t.ks).length:=by rw[B6,B6,C7]
 have hxl2:(xL ((t.xs.map (C0 0)).map (E3 (H5 t.cs.length i)))).length=(xL (t.xs.map (C0 0))).length:=by rw[I8,I8,C7]
 have e1:B3 (t.cs.eraseIdx i)=(B3 t.cs).eraseIdx i:=A5s _ _
 rw[e1]
 obtain⟨k,nm,to,⟨cn,ck,cl⟩,⟨vk,vn,vs⟩⟩:=c
 dsimp only at hk
 subst hk
 have hF:Bi.Pure Tryz.prog U5 [eT t.nm dc dk df dx,.d (.str nm)] (.d (eI i)):=hF
 rw[show dF (t.fs.map (I0 i))=B9 true (H9 []) by rw[hfs];rfl]
 rw[hcl] at hK
 generalize A0 (t.ks.map λc=>B0 c i)=K2 at hK hcl hkl2 hxl2 hD ⊢
 generalize xL ((t.xs.map (C0 0)).map (E3 (H5 t.cs.length i)))=X2 at hK hcl hkl2 hxl2 hD ⊢
 generalize (B3 t.cs).eraseIdx i=E2 at hK hcl hkl2 hxl2 hD ⊢
 generalize B3 t.cs=Cs at hK hcl hkl2 hxl2 hD ⊢
 generalize A0 t.ks=Ks at hK hcl hkl2 hxl2 hD ⊢
 generalize xL (t.xs.map (C0 0))=Xs at hK hcl hkl2 hxl2 hD ⊢
 generalize A7 dk=b2 at hK hcl hkl2 hxl2 hD ⊢
 refine B4.deepP (Q:=λr os=>r=.tup [.agg [.d (.str t.nm),.d (.sl E2),.arr 6 K2.length,.rs 8 0,.arr 9 X2.length],.d (eI 0)]/\os[6]?=some (.arr K2 1 0 b2)/\os[8]?=some (.rarr [] 2 true)/\os[9]?=some (.arr X2 7 0 Xs.isEmpty)) ?_ ?_
 ·rw[hkl2,hxl2]
  refine V1.goO2 A6 rfl ?_
  repeat' first|refine st ?_|((with_reducible first|apply A9|apply A8);(·first|exact hC|exact hF))|((with_reducible first|apply I6|apply D5);(·first|exact hK|exact hD _ _ _ _ _ _);(try rintro _ _ ⟨rfl,rfl⟩))|((with_reducible apply I7);(·first|exact hK|exact hD _ _ _ _ _ _))|((with_reducible apply H6);refine st ?_;(with_reducible apply I5);(·exact rfl);refine st ?_;(with_reducible apply D5);(·first|exact hK|exact hD _ _ _ _ _ _);(try rintro _ _ ⟨rfl,rfl⟩))|(with_reducible first|apply A5|apply A4)<;>intro _
  exact⟨rfl,rfl,rfl,rfl⟩
 ·rintro r os ⟨rfl,hx0,hx1,hx2⟩
  refine V5 (rows:=[]) (fs:=[]) (.inl (.inl rfl)) hx0 hx1 hx2 rfl (λi e g he hg=>?_)
  match i,he,hg with
  |i+0,he,hg=>simp at he
end Go.Proofs
end
section
set_option maxHeartbeats 8000000
namespace Go.Proofs
open Go.Bi
theorem C08(nm:List UInt8)(es:List (List D))(hm:∀e∈es,e.length=3)(i:Nat)(hi:i<es.length)(hel:es.length<=1048576)(ks:List Int)(hkb:∀k∈ks,0<=k/\k<=1048576)(hkl:ks.length<=1048576)(kn:Bool)(hkn:kn=true->ks=[])(xs:List Ex)(hxl:xs.length<=1048576)(hxb:∀e∈xs,e.bk<=1048576)(xn:Bool)(hxn:xn=true->xs=[])(c0:List Int)(b0:Bool)(t0:List UInt8)(hc0:c0.length<=1048576)(hcb0:∀k∈c0,0<=k/\k<=1048576)(hn0:b0=true->c0=[]) :
  B4 Tryz.prog A0r [.ptr 0 0,.d (eI i)] [.cells [.d (.str nm),.arr 1 es.length,.arr 2 (A0 ks).length,.rs 3 1,.arr 4 (xL xs).length],.arr es 3 0 false,.arr (A0 ks) 1 0 kn,.rarr [[.arr 5 (A0 c0).length,.d (.str t0)]] 2 false,.arr (xL xs) 7 0 xn,.arr (A0 c0) 1 0 b0]
   (λr os=>r=.tup []/\os=[.cells [.d (.str nm),.d (.sl (es.eraseIdx i)),.arr 2 (A0 ks).length,.rs 3 1,.arr 4 (xL xs).length],.arr (es.eraseIdx i++[L7]) 3 (es.length-1) false,.arr (A0 (ks.map λc=>B0 c i)) 1 0 kn,.rarr [[.arr 5 (A0 c0).length,.d (.str t0)]] 2 false,.arr (xL (xs.map (E3 (H5 es.length i)))) 7 0 xn,.arr (A0 (c0.map λc=>B0 c i)) 1 0 b0]):=by
 have hD:=fun {os:List AO} (ho:os[1]?=some (.arr es 3 0 false))=>A4F es hm i hi ho
 refine A4J.goX A6 rfl ?_
 repeat' first|refine st ?_|(with_reducible first|apply A5|apply A4)<;>intro _
 refine r8 4 7 rfl rfl ?_
 repeat' first|refine st ?_|(with_reducible first|apply A5|apply A4)<;>intro _
 refine P5 A6 A4U A4P (λ(k:Nat) (A:List (List D))=>[.arr 6 A.length,.d (eI k)]) (λk A=>[.cells [.d (.str nm),.arr 1 es.length,.arr 2 (A0 ks).length,.rs 3 1,.arr 4 (xL xs).length],.arr es 3 0 false,.arr (A0 ks) 1 0 kn,.rarr [[.arr 5 (A0 c0).length,.d (.str t0)]] 2 false,.arr (xL xs) 7 0 xn,.arr (A0 c0) 1 0 b0,.arr A 7 0 A.isEmpty]) (λk A=>k<=es.length/\A=xL (H5 k i)) (λk A=>es.length-k) 0 [] rfl rfl rfl rfl (λ_ _ _=>⟨rfl,rfl⟩) rfl ⟨by omega,by simp[H5,xL]⟩ ?_
 repeat' first|refine st ?_|(with_reducible first|apply A5|apply A4)<;>intro _
 intro k A ⟨h4,h5⟩
 have hAl:A.length=k:=by rw[h5,I8,A0Q]
 have hAm:∀e∈A,e.length=7:=by rw[h5];exact P0 _
 by_cases hlt:k<es.length
 ·have hB:=W0 k i (by omega) (by omega)
  have hs:=A5U k i
  rw[<- h5] at hs
  obtain⟨b,hb⟩:∃b,b=B0 k i:=⟨_,rfl⟩
  rw[<- hb] at hB hs
  clear h5
  repeat' first|refine st ?_|((with_reducible first|apply A9|apply A8);(·exact hB))|(with_reducible first|apply A5|apply A4)<;>intro _
  refine⟨k+1,A++[[.int .i64 2,eI b,.int .i64 0,.int .i64 0,.str [],.str [],.nil]],?_,rfl,?_,by omega,by omega,hs⟩
  ·rfl
  ·rw[show(A++[[.int .i64 2,eI b,.int .i64 0,.int .i64 0,.str [],.str [],.nil]]).isEmpty=false by simp]
   first|rfl|skip
 ·have hke:k=es.length:=by omega
  rw[hke] at h5
  have hDc:=hD (os:=[.cells [.d (.str nm),.arr 1 es.length,.arr 2 (A0 ks).length,.rs 3 1,.arr 4 (xL xs).length],.arr es 3 0 false,.arr (A0 ks) 1 0 kn,.rarr [[.arr 5 (A0 c0).length,.d (.str t0)]] 2 false,.arr (xL xs) 7 0 xn,.arr (A0 c0) 1 0 b0,.arr A 7 0 A.isEmpty]) rfl
  obtain⟨es',hes'⟩:∃e,e=es.eraseIdx i:=⟨_,rfl⟩
  rw[<- hes'] at hDc ⊢
  obtain⟨M0,hM0⟩:∃L,L=H5 es.length i:=⟨_,rfl⟩
  have hMl:M0.length<=1048576:=by rw[hM0,A0Q];exact hel
  rw[<- hM0] at h5 ⊢
  obtain⟨N0,hN0⟩:∃K,K=A0 (c0.map λc=>B0 c i):=⟨_,rfl⟩
  rw[<- hN0]
  repeat' first|(with_reducible apply H6)|refine st ?_|((with_reducible first|apply I6|apply D5);(·exact hDc);(try rintro _ _ ⟨rfl,rfl⟩))|((with_reducible apply I7);(·exact hDc))|((with_reducible apply H6);refine st ?_;(with_reducible apply I5);(·exact rfl);refine st ?_;(with_reducible apply D5);(·exact hDc);(try rintro _ _ ⟨rfl,rfl⟩))|(with_reducible first|apply A5|apply A4)<;>intro _
  refine G6 A6 A4V A4Q (λ(j:Nat)=>[.d (eI j)]) (λj=>[.cells [.d (.str nm),.d (.sl es'),.arr 2 (A0 ks).length,.rs 3 1,.arr 4 (xL xs).length],.arr (es'++[L7]) 3 (es.length-1) false,.arr (A0 (D3 ks (λc=>B0 c i) j)) 1 0 kn,.rarr [[.arr 5 (A0 c0).length,.d (.str t0)]] 2 false,.arr (xL xs) 7 0 xn,.arr (A0 c0) 1 0 b0,.arr A 7 0 A.isEmpty]) (λj=>j<=ks.length) (λj=>ks.length-j) 0 rfl rfl rfl (by rw[o8];rfl) (λ_ _=>⟨rfl,rfl⟩) rfl (by omega) ?_
  repeat' first|refine st ?_|(with_reducible first|apply A5|apply A4)<;>intro _
  intro j h6
  have hKl:=o6 ks (λc=>B0 c i) j h6
  cases hy:ks[j]? with
  |some c=>
   obtain⟨hlt2,he2⟩:=B2.1 hy
   have hkf:kn=false:=by
    cases kn with
    |false=>rfl
    |true=>rw[hkn rfl] at hlt2;simp at hlt2
   subst hkf
   have hg:=O2 (o5 (λc=>B0 c i) hy)
   have hset:=o7 (λc=>B0 c i) hy
   obtain⟨cb1,cb2⟩:=hkb c (C3 hy)
   have hB:=W0 c i (by omega) (by omega)
   have hks:=B6 ks
   obtain⟨y,hyy⟩:∃y,y=B0 c i:=⟨_,rfl⟩
   rw[<- hyy] at hB hset
   have hset2:(A0 (D3 ks (λc=>B0 c i) j)).set j [eI y]=A0 (D3 ks (λc=>B0 c i) (j+1)):=by rw[n6,hset]
   have hml:=B6 (D3 ks (λc=>B0 c i) j)
   have hmm2:=D4 (D3 ks (λc=>B0 c i) j)
   obtain⟨X,hX⟩:∃X,X=A0 (D3 ks (λc=>B0 c i) j):=⟨_,rfl⟩
   rw[<- hX] at hg hset2 hml hmm2 ⊢
   repeat' first|refine st ?_|((with_reducible first|apply A9|apply A8);(·exact hB))|(with_reducible first|apply A5|apply A4)<;>intro _
   refine⟨j+1,rfl,rfl,?_,by omega,by omega⟩
   rw[show((j:Int)).toNat=j from K8 j,hset2]
  |none=>
   have hge:=E4.1 hy
   have hjk:j=ks.length:=by omega
   subst hjk
   rw[o4]
   have hks:=B6 ks
   obtain⟨K',hK'⟩:∃K,K=A0 (ks.map λc=>B0 c i):=⟨_,rfl⟩
   rw[<- hK']
   repeat' first|refine st ?_|(with_reducible first|apply A5|apply A4)<;>intro _
   refine A1A 2 ?_
   refine Q3 A6 ?_
   repeat' first|refine st ?_|(with_reducible first|apply A5|apply A4)<;>intro _
   refine G6 A6 A15 A14 (λ(j:Nat)=>[.d (eI j)]) (λj=>[.cells [.d (.str nm),.d (.sl es'),.arr 2 (A0 ks).length,.rs 3 1,.arr 4 (xL xs).length],.arr (es'++[L7]) 3 (es.length-1) false,.arr K' 1 0 kn,.rarr [[.arr 5 (A0 c0).length,.d (.str t0)]] 2 false,.arr (xL xs) 7 0 xn,.arr (A0 (D3 c0 (λc=>B0 c i) j)) 1 0 b0,.arr A 7 0 A.isEmpty,.cells [.arr 5 (A0 c0).length,.d (.str t0)]]) (λj=>j<=c0.length) (λj=>c0.length-j) 0 rfl rfl rfl (by rw[o8];rfl) (λ_ _=>⟨rfl,rfl⟩) rfl (by omega) ?_
   repeat' first|refine st ?_|(with_reducible first|apply A5|apply A4)<;>intro _
   intro j h6
   have hKl:=o6 c0 (λc=>B0 c i) j h6
   cases hy:c0[j]? with
   |some c=>
    obtain⟨hlt2,he2⟩:=B2.1 hy
    have hkf:b0=false:=by
     cases b0 with
     |false=>rfl
     |true=>rw[hn0 rfl] at hlt2;simp at hlt2
    subst hkf
    have hg:=O2 (o5 (λc=>B0 c i) hy)
    have hset:=o7 (λc=>B0 c i) hy
    obtain⟨cb1,cb2⟩:=hcb0 c (C3 hy)
    have hB:=W0 c i (by omega) (by omega)
    have hks:=B6 c0
    obtain⟨y,hyy⟩:∃y,y=B0 c i:=⟨_,rfl⟩
    rw[<- hyy] at hB hset
    have hset2:(A0 (D3 c0 (λc=>B0 c i) j)).set j [eI y]=A0 (D3 c0 (λc=>B0 c i) (j+1)):=by rw[n6,hset]
    have hml:=B6 (D3 c0 (λc=>B0 c i) j)
    have hmm2:=D4 (D3 c0 (λc=>B0 c i) j)
    obtain⟨X,hX⟩:∃X,X=A0 (D3 c0 (λc=>B0 c i) j):=⟨_,rfl⟩
    rw[<- hX] at hg hset2 hml hmm2 ⊢
    repeat' first|refine st ?_|((with_reducible first|apply A9|apply A8);(·exact hB))|(with_reducible first|apply A5|apply A4)<;>intro _
    refine⟨j+1,rfl,rfl,?_,by omega,by omega⟩
    rw[show((j:Int)).toNat=j from K8 j,hset2]
   |none=>
    have hge:=E4.1 hy
    have hjk:j=c0.length:=by omega
    subst hjk
    rw[o4]
    have hks:=B6 c0
    rw[<- hN0]
    repeat' first|refine st ?_|(with_reducible first|apply A5|apply A4)<;>intro _
    refine Q3 A6 ?_
    repeat' first|refine st ?_|(with_reducible first|apply A5|apply A4)<;>intro _
    have hAe:A.isEmpty=false:=by cases A with
     |nil=>simp at hAl;omega
     |cons a l=>rfl
    rw[hAe]
    have hXl:=I8 xs
    refine A6m 4 (id:=6) (len:=A.length) (sz:=7) (frz:=0) (nl:=false) (es:=A) rfl rfl rfl ?_
    rw[if_neg (by decide:¬(false=true))]
    repeat' first|refine st ?_|(with_reducible first|apply A5|apply A4)<;>intro _
    refine G6 A6 A4W A4R (λ(q:Nat)=>[.d (eI q)]) (λq=>[.cells [.d (.str nm),.d (.sl es'),.arr 2 (A0 ks).length,.rs 3 1,.arr 4 (xL xs).length],.arr (es'++[L7]) 3 (es.length-1) false,.arr K' 1 0 kn,.rarr [[.arr 5 (A0 c0).length,.d (.str t0)]] 2 false,.arr (xL (L2 xs (E3 M0) q)) 7 0 xn,.arr N0 1 0 b0,.arr A 7 A.length false,.cells [.arr 5 (A0 c0).length,.d (.str t0)]]) (λq=>q<=xs.length) (λq=>xs.length-q) 0 rfl rfl rfl (by rw[A5S];rfl) (λ_ _=>⟨rfl,rfl⟩) rfl (by omega) ?_
    repeat' first|refine st ?_|(with_reducible first|apply A5|apply A4)<;>intro _
    intro q h7
    have hMb:∀a∈M0,a.bk<=1048576:=by
     intro a ha
     rw[hM0] at ha
     obtain⟨b,_,rfl⟩:=E6.1 ha
     unfold mvE Ex.bk
     rw[Ex.ds_mk]
     exact P9 rfl
    have hXql:=A5Q xs (E3 M0) q h7
    cases hx:xs[q]? with
    |some x=>
     obtain⟨hlt3,he3⟩:=B2.1 hx
     have hxf:xn=false:=by
      cases xn with
      |false=>rfl
      |true=>rw[hxn rfl] at hlt3;simp at hlt3
     subst hxf
     have hg:=A5P (E3 M0) hx
     have hset:=A5R (E3 M0) hx
     have hS:=A4D M0 hMl hMb (.sl A) (by rw[h5];exact O7) x (hxb x (C3 hx))
     have hq1:=I8 (L2 xs (E3 M0) q)
     have hq2:=P0 (L2 xs (E3 M0) q)
     obtain⟨z,hz⟩:∃z,z=E3 M0 x:=⟨_,rfl⟩
     rw[<- hz] at hS hset
     have hset2:(xL (L2 xs (E3 M0) q)).set q z.ds=xL (L2 xs (E3 M0) (q+1)):=by rw[<- hset];unfold xL;rw[X5]
     obtain⟨o1,n1,v1,m1,l1,a1⟩:=x
     obtain⟨o2,n2,v2,m2,l2,a2⟩:=z
     have hg:=y9 _ _ _ _ _ _ _ hg
     rw[Ex.av_mk,Ex.av_mk] at hS
     rw[Ex.ds_mk] at hset2
     obtain⟨X,hX⟩:∃X,X=xL (L2 xs (E3 M0) q):=⟨_,rfl⟩
     rw[<- hX] at hg hset2 hq1 hq2 ⊢
     repeat' first|refine st ?_|((with_reducible first|apply A9|apply A8);(·exact hS))|(with_reducible first|apply A5|apply A4)<;>intro _
     refine⟨q+1,rfl,rfl,?_,by omega,by omega⟩
     rw[show((q:Int)).toNat=q from K8 q,hset2]
    |none=>
     have hge:=E4.1 hx
     have hqk:q=xs.length:=by omega
     subst hqk
     rw[A5O]
     repeat' first|refine st ?_|(with_reducible first|apply A5|apply A4)<;>intro _
     exact⟨rfl,rfl⟩
theorem C09(T0 T1 T2 T3 T4 T7:AO)(nm:List UInt8)(es:List (List D))(hm:∀e∈es,e.length=3)(i:Nat)(hi:i<es.length)(hel:es.length<=1048576)(ks:List Int)(hkb:∀k∈ks,0<=k/\k<=1048576)(hkl:ks.length<=1048576)(kn:Bool)(hkn:kn=true->ks=[])(xs:List Ex)(hxl:xs.length<=1048576)(hxb:∀e∈xs,e.bk<=1048576)(xn:Bool)(hxn:xn=true->xs=[])(c0:List Int)(b0:Bool)(t0:List UInt8)(hc0:c0.length<=1048576)(hcb0:∀k∈c0,0<=k/\k<=1048576)(hn0:b0=true->c0=[]) :
  B4 Tryz.prog A0r [.ptr 11 0,.d (eI i)] [T0,T1,T2,T3,T4,.arr es 3 0 false,.arr (A0 ks) 1 0 kn,T7,.rarr [[.arr 10 (A0 c0).length,.d (.str t0)]] 2 false,.arr (xL xs) 7 0 xn,.arr (A0 c0) 1 0 b0,.cells [.d (.str nm),.arr 5 es.length,.arr 6 (A0 ks).length,.rs 8 1,.arr 9 (xL xs).length]]
   (λr os=>r=.tup []/\os=[T0,T1,T2,T3,T4,.arr (es.eraseIdx i++[L7]) 3 (es.length-1) false,.arr (A0 (ks.map λc=>B0 c i)) 1 0 kn,T7,.rarr [[.arr 10 (A0 c0).length,.d (.str t0)]] 2 false,.arr (xL (xs.map (E3 (H5 es.length i)))) 7 0 xn,.arr (A0 (c0.map λc=>B0 c i)) 1 0 b0,.cells [.d (.str nm),.d (.sl (es.eraseIdx i)),.arr 6 (A0 ks).length,.rs 8 1,.arr 9 (xL xs).length]]):=by
 have:=B4.frame (K:=λr os=>r=.tup []/\os=[T0,T1,T2,T3,T4,.arr (es.eraseIdx i++[L7]) 3 (es.length-1) false,.arr (A0 (ks.map λc=>B0 c i)) 1 0 kn,T7,.rarr [[.arr 10 (A0 c0).length,.d (.str t0)]] 2 false,.arr (xL (xs.map (E3 (H5 es.length i)))) 7 0 xn,.arr (A0 (c0.map λc=>B0 c i)) 1 0 b0,.cells [.d (.str nm),.d (.sl (es.eraseIdx i)),.arr 6 (A0 ks).length,.rs 8 1,.arr 9 (xL xs).length]]) (C08 nm es hm i hi hel ks hkb hkl kn hkn xs hxl hxb xn hxn c0 b0 t0 hc0 hcb0 hn0) [11,5,6,8,9,10]
  [T0,T1,T2,T3,T4,.arr es 3 0 false,.arr (A0 ks) 1 0 kn,T7,.rarr [[.arr 10 (A0 c0).length,.d (.str t0)]] 2 false,.arr (xL xs) 7 0 xn,.arr (A0 c0) 1 0 b0,.cells [.d (.str nm),.arr 5 es.length,.arr 6 (A0 ks).length,.rs 8 1,.arr 9 (xL xs).length]] rfl (by decide) (λi o h=>by
   match i,h with
   |0,h=>cases h;rfl
   |1,h=>cases h;rfl
   |2,h=>cases h;rfl
   |3,h=>cases h;rfl
   |4,h=>cases h;rfl
   |5,h=>cases h;rfl
   |i+6,h=>simp at h) (λa ha=>by
    simp only[L4,m8,or_false] at ha
    rcases ha with rfl|rfl<;>simp[AV.bnd2,AV.bnd1]) (λo ho=>by
    simp only[L4,m8,or_false] at ho
    rcases ho with rfl|rfl|rfl|rfl|rfl|rfl
    ·exact M3 rfl
    ·exact M3 rfl
    ·exact M3 rfl
    ·exact M3 rfl
    ·exact M3 rfl
    ·exact M3 rfl
    ) (by
   rintro r bs' ⟨rfl,rfl⟩
   exact⟨rfl,rfl⟩)
 exact this
end Go.Proofs
end
section
set_option maxHeartbeats 8000000
namespace Go.Proofs
open Go.Bi
theorem B9D(t:Tb)(dc dk df dx:D)(h:O0 t dc dk df dx)(c:Ch)(hc:I1 c)(hq:D7 t c=0)(g0:Fo)(hfs:t.fs=[g0])(hk:c.k=1) :
  Pure Tryz.prog Q6 [eT t.nm dc dk df dx,c.av] (.tup [eT t.nm (.sl (B3 (t.cs++[c.co]))) (B9 (A7 dk) (A0 t.ks)) (dF t.fs) (B9 (xL (t.xs.map (C0 0))).isEmpty (xL (t.xs.map (C0 0)))),.d (eI 0)]):=by
 have hC:=U3 t dc dk df dx h c hc
 rw[hq] at hC
 have hF:=S6 t.nm t.cs h.hl dc dk df dx h.dc c.nm
 have hl:=h.hl
 have hdf:=h.df
 have hfc:=h.hfc
 rw[hfs] at hdf hfc
 have hdf2:df=.sl (R4 [⟨g0.d,A0 g0.cs,A7 g0.d,g0.tb⟩]):=by
  rcases hdf with ⟨_,h2⟩|h2
  ·cases h2
  ·exact h2
 have hf0:(Fi.mk g0.d (A0 g0.cs) (A7 g0.d) g0.tb).ok:=G7 _ (by rw[B6];have:=(hfc g0 (by simp)).1;omega) (D4 _) g0.d g0.sld
 have hK:=A4y t.nm dc dk df dx (B3 t.cs) (A0 t.ks) (A7 dc) (A7 dk) (V0 _ (by rw[G8];omega) (I3 _) dc h.dc) (G7 _ (by rw[B6];have:=h.hk;omega) (D4 _) dk h.dk) _ hf0 hdf2 t.xs h.hxb h.hxs h.dx
 have hcl:=G8 t.cs
 have q0:g0.d=B9 (A7 g0.d) (A0 g0.cs):=(O4 g0.sld).symm
 have e1:B3 (t.cs++[c.co])=B3 t.cs++[c.co.ds]:=by simp[B3]
 rw[e1]
 obtain⟨k,nm,to,⟨cn,ck,cl⟩,⟨vk,vn,vs⟩⟩:=c
 dsimp only at hk
 subst hk
 obtain⟨f,hf⟩:∃f,f=D8 nm t.cs:=⟨_,rfl⟩
 have hF:Bi.Pure Tryz.prog U5 [eT t.nm dc dk df dx,.d (.str nm)] (.d (eI f)):=by rw[hf];exact hF
 rw[show dF t.fs=B9 false (H9 [g0]) by rw[hfs];rfl]
 generalize B3 t.cs=Cs at hK hcl q0 ⊢
 generalize A0 t.ks=Ks at hK hcl q0 ⊢
 generalize xL (t.xs.map (C0 0))=Xs at hK hcl q0 ⊢
 generalize A7 dk=b2 at hK hcl q0 ⊢
 generalize A7 dc=b1 at hK hcl q0 ⊢
 generalize A0 g0.cs=G0 at hK hcl q0 ⊢
 generalize A7 g0.d=n0 at hK hcl q0 ⊢
 obtain⟨u0,hu0⟩:∃x,x=g0.tb:=⟨_,rfl⟩
 rw[<- hu0] at hK
 refine B4.deepP (Q:=λr os=>r=.tup [.agg [.d (.str t.nm),.arr 5 (Cs++[[.str cn,eI ck,.bool cl]]).length,.arr 6 Ks.length,.rs 8 1,.arr 9 Xs.length],.d (eI 0)]/\os[5]?=some (.arr (Cs++[[.str cn,eI ck,.bool cl]]) 3 0 false)/\os[6]?=some (.arr Ks 1 0 b2)/\os[8]?=some (.rarr [[.arr 10 G0.length,.d (.str u0)]] 2 false)/\os[9]?=some (.arr Xs 7 0 Xs.isEmpty)/\os[10]?=some (.arr G0 1 0 n0)) ?_ ?_
 ·refine V1.goO2 A6 rfl ?_
  repeat' first|refine st ?_|((with_reducible first|apply A9|apply A8);(·first|exact hC|exact hF))|((with_reducible first|apply I6|apply D5);(·exact hK);(try rintro _ _ ⟨rfl,rfl⟩))|((with_reducible apply I7);(·exact hK))|((with_reducible apply H6);refine st ?_;(with_reducible apply I5);(·exact rfl);refine st ?_;(with_reducible apply D5);(·exact hK);(try rintro _ _ ⟨rfl,rfl⟩))|(with_reducible first|apply A5|apply A4)<;>intro _
  exact⟨rfl,rfl,rfl,rfl,rfl,rfl⟩
 ·rintro r os ⟨rfl,hx0,hx1,hx2,hx3,hx4⟩
  refine V5 (rows:=[[.arr 10 G0.length,.d (.str u0)]]) (fs:=[g0]) (.inl (.inr ⟨5,_,3,0,false,rfl,hx0,rfl⟩)) hx1 hx2 hx3 rfl (λi e g he hg=>?_)
  match i,he,hg with
  |0,he,hg=>cases he;cases hg;exact⟨10,_,n0,by rw[hu0],hx4,q0⟩
  |i+1,he,hg=>simp at he
theorem B9F(t:Tb)(dc dk df dx:D)(h:O0 t dc dk df dx)(c:Ch)(hc:I1 c)(hq:D7 t c=0)(g0:Fo)(hfs:t.fs=[g0])(hk:c.k=3)(i:Nat)(hi:D8 c.nm t.cs=i)(co:Co)(hco:t.cs[i]?=some co)(hdc:dc=.sl (B3 t.cs)) :
  Pure Tryz.prog Q6 [eT t.nm dc dk df dx,c.av] (.tup [eT t.nm (.sl (B3 (t.cs.set i ⟨c.to,co.k,co.nl⟩))) (B9 (A7 dk) (A0 t.ks)) (dF t.fs) (B9 (xL (t.xs.map (C0 0))).isEmpty (xL (t.xs.map (C0 0)))),.d (eI 0)]):=by
 have hC:=U3 t dc dk df dx h c hc
 rw[hq] at hC
 have hF:=S6 t.nm t.cs h.hl dc dk df dx h.dc c.nm
 have hl:=h.hl
 have hdf:=h.df
 have hfc:=h.hfc
 rw[hfs] at hdf hfc
 rw[hi] at hF
 have hdf2:df=.sl (R4 [⟨g0.d,A0 g0.cs,A7 g0.d,g0.tb⟩]):=by
  rcases hdf with ⟨_,h2⟩|h2
  ·cases h2
  ·exact h2
 have hf0:(Fi.mk g0.d (A0 g0.cs) (A7 g0.d) g0.tb).ok:=G7 _ (by rw[B6];have:=(hfc g0 (by simp)).1;omega) (D4 _) g0.d g0.sld
 have hK:=A4y t.nm dc dk df dx (B3 t.cs) (A0 t.ks) (A7 dc) (A7 dk) (V0 _ (by rw[G8];omega) (I3 _) dc h.dc) (G7 _ (by rw[B6];have:=h.hk;omega) (D4 _) dk h.dk) _ hf0 hdf2 t.xs h.hxb h.hxs h.dx
 have hcl:=G8 t.cs
 rw[show A7 dc=false by rw[hdc];rfl] at hK
 have q0:g0.d=B9 (A7 g0.d) (A0 g0.cs):=(O4 g0.sld).symm
 have hg:(B3 t.cs)[((i:Nat):Int).toNat]?=some [.str co.nm,eI co.k,.bool co.nl]:=M8 hco
 have hg2:(B3 t.cs)[i]?=some [.str co.nm,eI co.k,.bool co.nl]:=M8 hco
 have hmm:=I3 t.cs
 have hilt:i<(B3 t.cs).length:=by rw[hcl];exact(B2.1 hco).1
 have e1:B3 (t.cs.set i ⟨c.to,co.k,co.nl⟩)=(B3 t.cs).set i [.str c.to,eI co.k,.bool co.nl]:=by unfold B3;rw[X5]
 rw[e1]
 obtain⟨k,nm,to,⟨cn,ck,cl⟩,⟨vk,vn,vs⟩⟩:=c
 dsimp only at hk
 subst hk
 have hF:Bi.Pure Tryz.prog U5 [eT t.nm dc dk df dx,.d (.str nm)] (.d (eI i)):=hF
 rw[show dF t.fs=B9 false (H9 [g0]) by rw[hfs];rfl]
 generalize B3 t.cs=Cs at hK hcl hg hg2 hmm hilt q0 ⊢
 generalize A0 t.ks=Ks at hK hcl hg hg2 hmm hilt q0 ⊢
 generalize xL (t.xs.map (C0 0))=Xs at hK hcl hg hg2 hmm hilt q0 ⊢
 generalize A7 dk=b2 at hK hcl hg hg2 hmm hilt q0 ⊢
 generalize A0 g0.cs=G0 at hK hcl hg hg2 hmm hilt q0 ⊢
 generalize A7 g0.d=n0 at hK hcl hg hg2 hmm hilt q0 ⊢
 obtain⟨u0,hu0⟩:∃x,x=g0.tb:=⟨_,rfl⟩
 rw[<- hu0] at hK
 refine B4.deepP (Q:=λr os=>r=.tup [.agg [.d (.str t.nm),.arr 5 (Cs.set i [.str to,eI co.k,.bool co.nl]).length,.arr 6 Ks.length,.rs 8 1,.arr 9 Xs.length],.d (eI 0)]/\os[5]?=some (.arr (Cs.set i [.str to,eI co.k,.bool co.nl]) 3 0 false)/\os[6]?=some (.arr Ks 1 0 b2)/\os[8]?=some (.rarr [[.arr 10 G0.length,.d (.str u0)]] 2 false)/\os[9]?=some (.arr Xs 7 0 Xs.isEmpty)/\os[10]?=some (.arr G0 1 0 n0)) ?_ ?_
 ·refine V1.goO2 A6 rfl ?_
  rw[V3]
  repeat' first|refine st ?_|((with_reducible first|apply A9|apply A8);(·first|exact hC|exact hF))|((with_reducible first|apply I6|apply D5);(·exact hK);(try rintro _ _ ⟨rfl,rfl⟩))|((with_reducible apply I7);(·exact hK))|((with_reducible apply H6);refine st ?_;(with_reducible apply I5);(·exact rfl);refine st ?_;(with_reducible apply D5);(·exact hK);(try rintro _ _ ⟨rfl,rfl⟩))|(with_reducible first|apply A5|apply A4)<;>intro _
  exact⟨rfl,rfl,rfl,rfl,rfl,rfl⟩
 ·rintro r os ⟨rfl,hx0,hx1,hx2,hx3,hx4⟩
  refine V5 (rows:=[[.arr 10 G0.length,.d (.str u0)]]) (fs:=[g0]) (.inl (.inr ⟨5,_,3,0,false,rfl,hx0,rfl⟩)) hx1 hx2 hx3 rfl (λi e g he hg=>?_)
  match i,he,hg with
  |0,he,hg=>cases he;cases hg;exact⟨10,_,n0,by rw[hu0],hx4,q0⟩
  |i+1,he,hg=>simp at he
theorem B9G(t:Tb)(dc dk df dx:D)(h:O0 t dc dk df dx)(c:Ch)(hc:I1 c)(hq:D7 t c=0)(g0:Fo)(hfs:t.fs=[g0])(hk:c.k=4)(i:Nat)(hi:D8 c.nm t.cs=i)(co:Co)(hco:t.cs[i]?=some co)(hdc:dc=.sl (B3 t.cs)) :
  Pure Tryz.prog Q6 [eT t.nm dc dk df dx,c.av] (.tup [eT t.nm (.sl (B3 (t.cs.set i ⟨co.nm,2,co.nl⟩))) (B9 (A7 dk) (A0 t.ks)) (dF t.fs) (B9 (xL (t.xs.map (C0 0))).isEmpty (xL (t.xs.map (C0 0)))),.d (eI 0)]):=by
 have hC:=U3 t dc dk df dx h c hc
 rw[hq] at hC
 have hF:=S6 t.nm t.cs h.hl dc dk df dx h.dc c.nm
 have hl:=h.hl
 have hdf:=h.df
 have hfc:=h.hfc
 rw[hfs] at hdf hfc
 rw[hi] at hF
 have hdf2:df=.sl (R4 [⟨g0.d,A0 g0.cs,A7 g0.d,g0.tb⟩]):=by
  rcases hdf with ⟨_,h2⟩|h2
  ·cases h2
  ·exact h2
 have hf0:(Fi.mk g0.d (A0 g0.cs) (A7 g0.d) g0.tb).ok:=G7 _ (by rw[B6];have:=(hfc g0 (by simp)).1;omega) (D4 _) g0.d g0.sld
 have hK:=A4y t.nm dc dk df dx (B3 t.cs) (A0 t.ks) (A7 dc) (A7 dk) (V0 _ (by rw[G8];omega) (I3 _) dc h.dc) (G7 _ (by rw[B6];have:=h.hk;omega) (D4 _) dk h.dk) _ hf0 hdf2 t.xs h.hxb h.hxs h.dx
 have hcl:=G8 t.cs
 rw[show A7 dc=false by rw[hdc];rfl] at hK
 have q0:g0.d=B9 (A7 g0.d) (A0 g0.cs):=(O4 g0.sld).symm
 have hg:(B3 t.cs)[((i:Nat):Int).toNat]?=some [.str co.nm,eI co.k,.bool co.nl]:=M8 hco
 have hg2:(B3 t.cs)[i]?=some [.str co.nm,eI co.k,.bool co.nl]:=M8 hco
 have hmm:=I3 t.cs
 have hilt:i<(B3 t.cs).length:=by rw[hcl];exact(B2.1 hco).1
 have e1:B3 (t.cs.set i ⟨co.nm,2,co.nl⟩)=(B3 t.cs).set i [.str co.nm,eI 2,.bool co.nl]:=by unfold B3;rw[X5]
 rw[e1]
 obtain⟨k,nm,to,⟨cn,ck,cl⟩,⟨vk,vn,vs⟩⟩:=c
 dsimp only at hk
 subst hk
 have hF:Bi.Pure Tryz.prog U5 [eT t.nm dc dk df dx,.d (.str nm)] (.d (eI i)):=hF
 rw[show dF t.fs=B9 false (H9 [g0]) by rw[hfs];rfl]
 generalize B3 t.cs=Cs at hK hcl hg hg2 hmm hilt q0 ⊢
 generalize A0 t.ks=Ks at hK hcl hg hg2 hmm hilt q0 ⊢
 generalize xL (t.xs.map (C0 0))=Xs at hK hcl hg hg2 hmm hilt q0 ⊢
 generalize A7 dk=b2 at hK hcl hg hg2 hmm hilt q0 ⊢
 generalize A0 g0.cs=G0 at hK hcl hg hg2 hmm hilt q0 ⊢
 generalize A7 g0.d=n0 at hK hcl hg hg2 hmm hilt q0 ⊢
 obtain⟨u0,hu0⟩:∃x,x=g0.tb:=⟨_,rfl⟩
 rw[<- hu0] at hK
 refine B4.deepP (Q:=λr os=>r=.tup [.agg [.d (.str t.nm),.arr 5 (Cs.set i [.str co.nm,eI 2,.bool co.nl]).length,.arr 6 Ks.length,.rs 8 1,.arr 9 Xs.length],.d (eI 0)]/\os[5]?=some (.arr (Cs.set i [.str co.nm,eI 2,.bool co.nl]) 3 0 false)/\os[6]?=some (.arr Ks 1 0 b2)/\os[8]?=some (.rarr [[.arr 10 G0.length,.d (.str u0)]] 2 false)/\os[9]?=some (.arr Xs 7 0 Xs.isEmpty)/\os[10]?=some (.arr G0 1 0 n0)) ?_ ?_
 ·refine V1.goO2 A6 rfl ?_
  rw[V3]
  repeat' first|refine st ?_|((with_reducible first|apply A9|apply A8);(·first|exact hC|exact hF))|((with_reducible first|apply I6|apply D5);(·exact hK);(try rintro _ _ ⟨rfl,rfl⟩))|((with_reducible apply I7);(·exact hK))|((with_reducible apply H6);refine st ?_;(with_reducible apply I5);(·exact rfl);refine st ?_;(with_reducible apply D5);(·exact hK);(try rintro _ _ ⟨rfl,rfl⟩))|(with_reducible first|apply A5|apply A4)<;>intro _
  exact⟨rfl,rfl,rfl,rfl,rfl,rfl⟩
 ·rintro r os ⟨rfl,hx0,hx1,hx2,hx3,hx4⟩
  refine V5 (rows:=[[.arr 10 G0.length,.d (.str u0)]]) (fs:=[g0]) (.inl (.inr ⟨5,_,3,0,false,rfl,hx0,rfl⟩)) hx1 hx2 hx3 rfl (λi e g he hg=>?_)
  match i,he,hg with
  |0,he,hg=>cases he;cases hg;exact⟨10,_,n0,by rw[hu0],hx4,q0⟩
  |i+1,he,hg=>simp at he
theorem B9E(t:Tb)(dc dk df dx:D)(h:O0 t dc dk df dx)(c:Ch)(hc:I1 c)(hq:D7 t c=0)(g0:Fo)(hfs:t.fs=[g0])(hk:c.k=2)(i:Nat)(hi:D8 c.nm t.cs=i)(hil:i<t.cs.length)(hdc:dc=.sl (B3 t.cs))(hkb:∀k∈t.ks,0<=k/\k<=1048576)(hfb:∀g∈t.fs,∀k∈g.cs,0<=k/\k<=1048576)(hxb:∀e∈t.xs.map (C0 0),e.bk<=1048576) :
  Pure Tryz.prog Q6 [eT t.nm dc dk df dx,c.av] (.tup [eT t.nm (.sl (B3 (t.cs.eraseIdx i))) (B9 (A7 dk) (A0 (t.ks.map λc=>B0 c i))) (dF (t.fs.map (I0 i))) (B9 (xL (t.xs.map (C0 0))).isEmpty (xL ((t.xs.map (C0 0)).map (E3 (H5 t.cs.length i))))),.d (eI 0)]):=by
 have hC:=U3 t dc dk df dx h c hc
 rw[hq] at hC
 have hF:=S6 t.nm t.cs h.hl dc dk df dx h.dc c.nm
 have hl:=h.hl
 have hdf:=h.df
 have hfc:=h.hfc
 rw[hfs] at hdf hfc
 rw[hi] at hF
 have hdf2:df=.sl (R4 [⟨g0.d,A0 g0.cs,A7 g0.d,g0.tb⟩]):=by
  rcases hdf with ⟨_,h2⟩|h2
  ·cases h2
  ·exact h2
 have hf0:(Fi.mk g0.d (A0 g0.cs) (A7 g0.d) g0.tb).ok:=G7 _ (by rw[B6];have:=(hfc g0 (by simp)).1;omega) (D4 _) g0.d g0.sld
 have hK:=A4y t.nm dc dk df dx (B3 t.cs) (A0 t.ks) (A7 dc) (A7 dk) (V0 _ (by rw[G8];omega) (I3 _) dc h.dc) (G7 _ (by rw[B6];have:=h.hk;omega) (D4 _) dk h.dk) _ hf0 hdf2 t.xs h.hxb h.hxs h.dx
 have hcl:=G8 t.cs
 rw[show A7 dc=false by rw[hdc];rfl] at hK
 have hkN:A7 dk=true->t.ks=[]:=λhh=>by
  have:=l4 h.dk hh
  cases hks:t.ks with
  |nil=>rfl
  |cons a l=>rw[hks] at this;cases this
 have hxN:(xL (t.xs.map (C0 0))).isEmpty=true->t.xs.map (C0 0)=[]:=by
  intro hh
  cases hx:t.xs.map (C0 0) with
  |nil=>rfl
  |cons a l=>rw[hx] at hh;cases hh
 have hN0:A7 g0.d=true->g0.cs=[]:=λhh=>by
  have:=l4 g0.sld hh
  cases hks:g0.cs with
  |nil=>rfl
  |cons a l=>rw[hks] at this;cases this
 have hB0:=hfb g0 (by rw[hfs];simp)
 have hD:=λT0 T1 T2 T3 T4 T7=>C09 T0 T1 T2 T3 T4 T7 t.nm (B3 t.cs) (I3 _) i (by rw[hcl];exact hil) (by rw[hcl];exact hl) t.ks hkb h.hk (A7 dk) hkN (t.xs.map (C0 0)) (by rw[C7];exact h.hxs) hxb _ hxN g0.cs (A7 g0.d) g0.tb (hfc g0 (by simp)).1 hB0 hN0
 rw[hcl] at hD
 have hkl2:(A0 (t.ks.map λc=>B0 c i)).length=(A0 t.ks).length:=by rw[B6,B6,C7]
 have hxl2:(xL ((t.xs.map (C0 0)).map (E3 (H5 t.cs.length i)))).length=(xL (t.xs.map (C0 0))).length:=by rw[I8,I8,C7]
 have hkl20:(A0 (g0.cs.map λc=>B0 c i)).length=(A0 g0.cs).length:=by rw[B6,B6,C7]
 have q0:(I0 i g0).d=B9 (A7 g0.d) (A0 (g0.cs.map λc=>B0 c i)):=A17 i g0
 have e1:B3 (t.cs.eraseIdx i)=(B3 t.cs).eraseIdx i:=A5s _ _
 rw[e1]
 obtain⟨k,nm,to,⟨cn,ck,cl⟩,⟨vk,vn,vs⟩⟩:=c
 dsimp only at hk
 subst hk
 have hF:Bi.Pure Tryz.prog U5 [eT t.nm dc dk df dx,.d (.str nm)] (.d (eI i)):=hF
 rw[show dF (t.fs.map (I0 i))=B9 false (H9 [I0 i g0]) by rw[hfs];rfl]
 rw[hcl] at hK
 generalize A0 (t.ks.map λc=>B0 c i)=K2 at hK hcl hkl2 hxl2 hkl20 q0 hD ⊢
 generalize xL ((t.xs.map (C0 0)).map (E3 (H5 t.cs.length i)))=X2 at hK hcl hkl2 hxl2 hkl20 q0 hD ⊢
 generalize (B3 t.cs).eraseIdx i=E2 at hK hcl hkl2 hxl2 hkl20 q0 hD ⊢
 generalize A0 (g0.cs.map λc=>B0 c i)=H0 at hK hcl hkl2 hxl2 hkl20 q0 hD ⊢
 generalize B3 t.cs=Cs at hK hcl hkl2 hxl2 hkl20 q0 hD ⊢
 generalize A0 t.ks=Ks at hK hcl hkl2 hxl2 hkl20 q0 hD ⊢
 generalize xL (t.xs.map (C0 0))=Xs at hK hcl hkl2 hxl2 hkl20 q0 hD ⊢
 generalize A7 dk=b2 at hK hcl hkl2 hxl2 hkl20 q0 hD ⊢
 generalize A0 g0.cs=G0 at hK hcl hkl2 hxl2 hkl20 q0 hD ⊢
 generalize A7 g0.d=n0 at hK hcl hkl2 hxl2 hkl20 q0 hD ⊢
 obtain⟨u0,hu0⟩:∃x,x=g0.tb:=⟨_,rfl⟩
 rw[<- hu0] at hK
 simp only[<- hu0] at hD
 refine B4.deepP (Q:=λr os=>r=.tup [.agg [.d (.str t.nm),.d (.sl E2),.arr 6 K2.length,.rs 8 1,.arr 9 X2.length],.d (eI 0)]/\os[6]?=some (.arr K2 1 0 b2)/\os[8]?=some (.rarr [[.arr 10 H0.length,.d (.str u0)]] 2 false)/\os[9]?=some (.arr X2 7 0 Xs.isEmpty)/\os[10]?=some (.arr H0 1 0 n0)) ?_ ?_
 ·rw[hkl2,hxl2]
  rw[hkl20]
  refine V1.goO2 A6 rfl ?_
  repeat' first|refine st ?_|((with_reducible first|apply A9|apply A8);(·first|exact hC|exact hF))|((with_reducible first|apply I6|apply D5);(·first|exact hK|exact hD _ _ _ _ _ _);(try rintro _ _ ⟨rfl,rfl⟩))|((with_reducible apply I7);(·first|exact hK|exact hD _ _ _ _ _ _))|((with_reducible apply H6);refine st ?_;(with_reducible apply I5);(·exact rfl);refine st ?_;(with_reducible apply D5);(·first|exact hK|exact hD _ _ _ _ _ _);(try rintro _ _ ⟨rfl,rfl⟩))|(with_reducible first|apply A5|apply A4)<;>intro _
  exact⟨rfl,rfl,rfl,rfl,rfl⟩
 ·rintro r os ⟨rfl,hx0,hx1,hx2,hx3⟩
  refine V5 (rows:=[[.arr 10 H0.length,.d (.str u0)]]) (fs:=[I0 i g0]) (.inl (.inl rfl)) hx0 hx1 hx2 rfl (λi e g he hg=>?_)
  match i,he,hg with
  |0,he,hg=>cases he;cases hg;exact⟨10,_,n0,by rw[hu0];rfl,hx3,q0⟩
  |i+1,he,hg=>simp at he
end Go.Proofs
end
section
set_option maxHeartbeats 8000000
namespace Go.Proofs
open Go.Bi
theorem C0a(nm:List UInt8)(es:List (List D))(hm:∀e∈es,e.length=3)(i:Nat)(hi:i<es.length)(hel:es.length<=1048576)(ks:List Int)(hkb:∀k∈ks,0<=k/\k<=1048576)(hkl:ks.length<=1048576)(kn:Bool)(hkn:kn=true->ks=[])(xs:List Ex)(hxl:xs.length<=1048576)(hxb:∀e∈xs,e.bk<=1048576)(xn:Bool)(hxn:xn=true->xs=[])(c0:List Int)(b0:Bool)(t0:List UInt8)(hc0:c0.length<=1048576)(hcb0:∀k∈c0,0<=k/\k<=1048576)(hn0:b0=true->c0=[])(c1:List Int)(b1:Bool)(t1:List UInt8)(hc1:c1.length<=1048576)(hcb1:∀k∈c1,0<=k/\k<=1048576)(hn1:b1=true->c1=[]) :
  B4 Tryz.prog A0r [.ptr 0 0,.d (eI i)] [.cells [.d (.str nm),.arr 1 es.length,.arr 2 (A0 ks).length,.rs 3 2,.arr 4 (xL xs).length],.arr es 3 0 false,.arr (A0 ks) 1 0 kn,.rarr [[.arr 5 (A0 c0).length,.d (.str t0)],[.arr 6 (A0 c1).length,.d (.str t1)]] 2 false,.arr (xL xs) 7 0 xn,.arr (A0 c0) 1 0 b0,.arr (A0 c1) 1 0 b1]
   (λr os=>r=.tup []/\os=[.cells [.d (.str nm),.d (.sl (es.eraseIdx i)),.arr 2 (A0 ks).length,.rs 3 2,.arr 4 (xL xs).length],.arr (es.eraseIdx i++[L7]) 3 (es.length-1) false,.arr (A0 (ks.map λc=>B0 c i)) 1 0 kn,.rarr [[.arr 5 (A0 c0).length,.d (.str t0)],[.arr 6 (A0 c1).length,.d (.str t1)]] 2 false,.arr (xL (xs.map (E3 (H5 es.length i)))) 7 0 xn,.arr (A0 (c0.map λc=>B0 c i)) 1 0 b0,.arr (A0 (c1.map λc=>B0 c i)) 1 0 b1]):=by
 have hD:=fun {os:List AO} (ho:os[1]?=some (.arr es 3 0 false))=>A4F es hm i hi ho
 refine A4J.goX A6 rfl ?_
 repeat' first|refine st ?_|(with_reducible first|apply A5|apply A4)<;>intro _
 refine r8 4 7 rfl rfl ?_
 repeat' first|refine st ?_|(with_reducible first|apply A5|apply A4)<;>intro _
 refine P5 A6 A4U A4P (λ(k:Nat) (A:List (List D))=>[.arr 7 A.length,.d (eI k)]) (λk A=>[.cells [.d (.str nm),.arr 1 es.length,.arr 2 (A0 ks).length,.rs 3 2,.arr 4 (xL xs).length],.arr es 3 0 false,.arr (A0 ks) 1 0 kn,.rarr [[.arr 5 (A0 c0).length,.d (.str t0)],[.arr 6 (A0 c1).length,.d (.str t1)]] 2 false,.arr (xL xs) 7 0 xn,.arr (A0 c0) 1 0 b0,.arr (A0 c1) 1 0 b1,.arr A 7 0 A.isEmpty]) (λk A=>k<=es.length/\A=xL (H5 k i)) (λk A=>es.length-k) 0 [] rfl rfl rfl rfl (λ_ _ _=>⟨rfl,rfl⟩) rfl ⟨by omega,by simp[H5,xL]⟩ ?_
 repeat' first|refine st ?_|(with_reducible first|apply A5|apply A4)<;>intro _
 intro k A ⟨h4,h5⟩
 have hAl:A.length=k:=by rw[h5,I8,A0Q]
 have hAm:∀e∈A,e.length=7:=by rw[h5];exact P0 _
 by_cases hlt:k<es.length
 ·have hB:=W0 k i (by omega) (by omega)
  have hs:=A5U k i
  rw[<- h5] at hs
  obtain⟨b,hb⟩:∃b,b=B0 k i:=⟨_,rfl⟩
  rw[<- hb] at hB hs
  clear h5
  repeat' first|refine st ?_|((with_reducible first|apply A9|apply A8);(·exact hB))|(with_reducible first|apply A5|apply A4)<;>intro _
  refine⟨k+1,A++[[.int .i64 2,eI b,.int .i64 0,.int .i64 0,.str [],.str [],.nil]],?_,rfl,?_,by omega,by omega,hs⟩
  ·rfl
  ·rw[show(A++[[.int .i64 2,eI b,.int .i64 0,.int .i64 0,.str [],.str [],.nil]]).isEmpty=false by simp]
   first|rfl|skip
 ·have hke:k=es.length:=by omega
  rw[hke] at h5
  have hDc:=hD (os:=[.cells [.d (.str nm),.arr 1 es.length,.arr 2 (A0 ks).length,.rs 3 2,.arr 4 (xL xs).length],.arr es 3 0 false,.arr (A0 ks) 1 0 kn,.rarr [[.arr 5 (A0 c0).length,.d (.str t0)],[.arr 6 (A0 c1).length,.d (.str t1)]] 2 false,.arr (xL xs) 7 0 xn,.arr (A0 c0) 1 0 b0,.arr (A0 c1) 1 0 b1,.arr A 7 0 A.isEmpty]) rfl
  obtain⟨es',hes'⟩:∃e,e=es.eraseIdx i:=⟨_,rfl⟩
  rw[<- hes'] at hDc ⊢
  obtain⟨M0,hM0⟩:∃L,L=H5 es.length i:=⟨_,rfl⟩
  have hMl:M0.length<=1048576:=by rw[hM0,A0Q];exact hel
  rw[<- hM0] at h5 ⊢
  obtain⟨N0,hN0⟩:∃K,K=A0 (c0.map λc=>B0 c i):=⟨_,rfl⟩
  obtain⟨N1,hN1⟩:∃K,K=A0 (c1.map λc=>B0 c i):=⟨_,rfl⟩
  rw[<- hN0,<- hN1]
  repeat' first|(with_reducible apply H6)|refine st ?_|((with_reducible first|apply I6|apply D5);(·exact hDc);(try rintro _ _ ⟨rfl,rfl⟩))|((with_reducible apply I7);(·exact hDc))|((with_reducible apply H6);refine st ?_;(with_reducible apply I5);(·exact rfl);refine st ?_;(with_reducible apply D5);(·exact hDc);(try rintro _ _ ⟨rfl,rfl⟩))|(with_reducible first|apply A5|apply A4)<;>intro _
  refine G6 A6 A4V A4Q (λ(j:Nat)=>[.d (eI j)]) (λj=>[.cells [.d (.str nm),.d (.sl es'),.arr 2 (A0 ks).length,.rs 3 2,.arr 4 (xL xs).length],.arr (es'++[L7]) 3 (es.length-1) false,.arr (A0 (D3 ks (λc=>B0 c i) j)) 1 0 kn,.rarr [[.arr 5 (A0 c0).length,.d (.str t0)],[.arr 6 (A0 c1).length,.d (.str t1)]] 2 false,.arr (xL xs) 7 0 xn,.arr (A0 c0) 1 0 b0,.arr (A0 c1) 1 0 b1,.arr A 7 0 A.isEmpty]) (λj=>j<=ks.length) (λj=>ks.length-j) 0 rfl rfl rfl (by rw[o8];rfl) (λ_ _=>⟨rfl,rfl⟩) rfl (by omega) ?_
  repeat' first|refine st ?_|(with_reducible first|apply A5|apply A4)<;>intro _
  intro j h6
  have hKl:=o6 ks (λc=>B0 c i) j h6
  cases hy:ks[j]? with
  |some c=>
   obtain⟨hlt2,he2⟩:=B2.1 hy
   have hkf:kn=false:=by
    cases kn with
    |false=>rfl
    |true=>rw[hkn rfl] at hlt2;simp at hlt2
   subst hkf
   have hg:=O2 (o5 (λc=>B0 c i) hy)
   have hset:=o7 (λc=>B0 c i) hy
   obtain⟨cb1,cb2⟩:=hkb c (C3 hy)
   have hB:=W0 c i (by omega) (by omega)
   have hks:=B6 ks
   obtain⟨y,hyy⟩:∃y,y=B0 c i:=⟨_,rfl⟩
   rw[<- hyy] at hB hset
   have hset2:(A0 (D3 ks (λc=>B0 c i) j)).set j [eI y]=A0 (D3 ks (λc=>B0 c i) (j+1)):=by rw[n6,hset]
   have hml:=B6 (D3 ks (λc=>B0 c i) j)
   have hmm2:=D4 (D3 ks (λc=>B0 c i) j)
   obtain⟨X,hX⟩:∃X,X=A0 (D3 ks (λc=>B0 c i) j):=⟨_,rfl⟩
   rw[<- hX] at hg hset2 hml hmm2 ⊢
   repeat' first|refine st ?_|((with_reducible first|apply A9|apply A8);(·exact hB))|(with_reducible first|apply A5|apply A4)<;>intro _
   refine⟨j+1,rfl,rfl,?_,by omega,by omega⟩
   rw[show((j:Int)).toNat=j from K8 j,hset2]
  |none=>
   have hge:=E4.1 hy
   have hjk:j=ks.length:=by omega
   subst hjk
   rw[o4]
   have hks:=B6 ks
   obtain⟨K',hK'⟩:∃K,K=A0 (ks.map λc=>B0 c i):=⟨_,rfl⟩
   rw[<- hK']
   repeat' first|refine st ?_|(with_reducible first|apply A5|apply A4)<;>intro _
   refine A1A 3 ?_
   refine Q3 A6 ?_
   repeat' first|refine st ?_|(with_reducible first|apply A5|apply A4)<;>intro _
   refine G6 A6 A15 A14 (λ(j:Nat)=>[.d (eI j)]) (λj=>[.cells [.d (.str nm),.d (.sl es'),.arr 2 (A0 ks).length,.rs 3 2,.arr 4 (xL xs).length],.arr (es'++[L7]) 3 (es.length-1) false,.arr K' 1 0 kn,.rarr [[.arr 5 (A0 c0).length,.d (.str t0)],[.arr 6 (A0 c1).length,.d (.str t1)]] 2 false,.arr (xL xs) 7 0 xn,.arr (A0 (D3 c0 (λc=>B0 c i) j)) 1 0 b0,.arr (A0 c1) 1 0 b1,.arr A 7 0 A.isEmpty,.cells [.arr 5 (A0 c0).length,.d (.str t0)]]) (λj=>j<=c0.length) (λj=>c0.length-j) 0 rfl rfl rfl (by rw[o8];rfl) (λ_ _=>⟨rfl,rfl⟩) rfl (by omega) ?_
   repeat' first|refine st ?_|(with_reducible first|apply A5|apply A4)<;>intro _
   intro j h6
   have hKl:=o6 c0 (λc=>B0 c i) j h6
   cases hy:c0[j]? with
   |some c=>
    obtain⟨hlt2,he2⟩:=B2.1 hy
    have hkf:b0=false:=by
     cases b0 with
     |false=>rfl
     |true=>rw[hn0 rfl] at hlt2;simp at hlt2
    subst hkf
    have hg:=O2 (o5 (λc=>B0 c i) hy)
    have hset:=o7 (λc=>B0 c i) hy
    obtain⟨cb1,cb2⟩:=hcb0 c (C3 hy)
    have hB:=W0 c i (by omega) (by omega)
    have hks:=B6 c0
    obtain⟨y,hyy⟩:∃y,y=B0 c i:=⟨_,rfl⟩
    rw[<- hyy] at hB hset
    have hset2:(A0 (D3 c0 (λc=>B0 c i) j)).set j [eI y]=A0 (D3 c0 (λc=>B0 c i) (j+1)):=by rw[n6,hset]
    have hml:=B6 (D3 c0 (λc=>B0 c i) j)
    have hmm2:=D4 (D3 c0 (λc=>B0 c i) j)
    obtain⟨X,hX⟩:∃X,X=A0 (D3 c0 (λc=>B0 c i) j):=⟨_,rfl⟩
    rw[<- hX] at hg hset2 hml hmm2 ⊢
    repeat' first|refine st ?_|((with_reducible first|apply A9|apply A8);(·exact hB))|(with_reducible first|apply A5|apply A4)<;>intro _
    refine⟨j+1,rfl,rfl,?_,by omega,by omega⟩
    rw[show((j:Int)).toNat=j from K8 j,hset2]
   |none=>
    have hge:=E4.1 hy
    have hjk:j=c0.length:=by omega
    subst hjk
    rw[o4]
    have hks:=B6 c0
    rw[<- hN0]
    repeat' first|refine st ?_|(with_reducible first|apply A5|apply A4)<;>intro _
    refine Q3 A6 ?_
    repeat' first|refine st ?_|(with_reducible first|apply A5|apply A4)<;>intro _
    refine G6 A6 A15 A14 (λ(j:Nat)=>[.d (eI j)]) (λj=>[.cells [.d (.str nm),.d (.sl es'),.arr 2 (A0 ks).length,.rs 3 2,.arr 4 (xL xs).length],.arr (es'++[L7]) 3 (es.length-1) false,.arr K' 1 0 kn,.rarr [[.arr 5 (A0 c0).length,.d (.str t0)],[.arr 6 (A0 c1).length,.d (.str t1)]] 2 false,.arr (xL xs) 7 0 xn,.arr N0 1 0 b0,.arr (A0 (D3 c1 (λc=>B0 c i) j)) 1 0 b1,.arr A 7 0 A.isEmpty,.cells [.arr 5 (A0 c0).length,.d (.str t0)],.cells [.arr 6 (A0 c1).length,.d (.str t1)]]) (λj=>j<=c1.length) (λj=>c1.length-j) 0 rfl rfl rfl (by rw[o8];rfl) (λ_ _=>⟨rfl,rfl⟩) rfl (by omega) ?_
    repeat' first|refine st ?_|(with_reducible first|apply A5|apply A4)<;>intro _
    intro j h6
    have hKl:=o6 c1 (λc=>B0 c i) j h6
    cases hy:c1[j]? with
    |some c=>
     obtain⟨hlt2,he2⟩:=B2.1 hy
     have hkf:b1=false:=by
      cases b1 with
      |false=>rfl
      |true=>rw[hn1 rfl] at hlt2;simp at hlt2
     subst hkf
     have hg:=O2 (o5 (λc=>B0 c i) hy)
     have hset:=o7 (λc=>B0 c i) hy
     obtain⟨cb1,cb2⟩:=hcb1 c (C3 hy)
     have hB:=W0 c i (by omega) (by omega)
     have hks:=B6 c1
     obtain⟨y,hyy⟩:∃y,y=B0 c i:=⟨_,rfl⟩
     rw[<- hyy] at hB hset
     have hset2:(A0 (D3 c1 (λc=>B0 c i) j)).set j [eI y]=A0 (D3 c1 (λc=>B0 c i) (j+1)):=by rw[n6,hset]
     have hml:=B6 (D3 c1 (λc=>B0 c i) j)
     have hmm2:=D4 (D3 c1 (λc=>B0 c i) j)
     obtain⟨X,hX⟩:∃X,X=A0 (D3 c1 (λc=>B0 c i) j):=⟨_,rfl⟩
     rw[<- hX] at hg hset2 hml hmm2 ⊢
     repeat' first|refine st ?_|((with_reducible first|apply A9|apply A8);(·exact hB))|(with_reducible first|apply A5|apply A4)<;>intro _
     refine⟨j+1,rfl,rfl,?_,by omega,by omega⟩
     rw[show((j:Int)).toNat=j from K8 j,hset2]
    |none=>
     have hge:=E4.1 hy
     have hjk:j=c1.length:=by omega
     subst hjk
     rw[o4]
     have hks:=B6 c1
     rw[<- hN1]
     repeat' first|refine st ?_|(with_reducible first|apply A5|apply A4)<;>intro _
     refine Q3 A6 ?_
     repeat' first|refine st ?_|(with_reducible first|apply A5|apply A4)<;>intro _
     have hAe:A.isEmpty=false:=by cases A with
      |nil=>simp at hAl;omega
      |cons a l=>rfl
     rw[hAe]
     have hXl:=I8 xs
     refine A6m 4 (id:=7) (len:=A.length) (sz:=7) (frz:=0) (nl:=false) (es:=A) rfl rfl rfl ?_
     rw[if_neg (by decide:¬(false=true))]
     repeat' first|refine st ?_|(with_reducible first|apply A5|apply A4)<;>intro _
     refine G6 A6 A4W A4R (λ(q:Nat)=>[.d (eI q)]) (λq=>[.cells [.d (.str nm),.d (.sl es'),.arr 2 (A0 ks).length,.rs 3 2,.arr 4 (xL xs).length],.arr (es'++[L7]) 3 (es.length-1) false,.arr K' 1 0 kn,.rarr [[.arr 5 (A0 c0).length,.d (.str t0)],[.arr 6 (A0 c1).length,.d (.str t1)]] 2 false,.arr (xL (L2 xs (E3 M0) q)) 7 0 xn,.arr N0 1 0 b0,.arr N1 1 0 b1,.arr A 7 A.length false,.cells [.arr 5 (A0 c0).length,.d (.str t0)],.cells [.arr 6 (A0 c1).length,.d (.str t1)]]) (λq=>q<=xs.length) (λq=>xs.length-q) 0 rfl rfl rfl (by rw[A5S];rfl) (λ_ _=>⟨rfl,rfl⟩) rfl (by omega) ?_
     repeat' first|refine st ?_|(with_reducible first|apply A5|apply A4)<;>intro _
     intro q h7
     have hMb:∀a∈M0,a.bk<=1048576:=by
      intro a ha
      rw[hM0] at ha
      obtain⟨b,_,rfl⟩:=E6.1 ha
      unfold mvE Ex.bk
      rw[Ex.ds_mk]
      exact P9 rfl
     have hXql:=A5Q xs (E3 M0) q h7
     cases hx:xs[q]? with
     |some x=>
      obtain⟨hlt3,he3⟩:=B2.1 hx
      have hxf:xn=false:=by
       cases xn with
       |false=>rfl
       |true=>rw[hxn rfl] at hlt3;simp at hlt3
      subst hxf
      have hg:=A5P (E3 M0) hx
      have hset:=A5R (E3 M0) hx
      have hS:=A4D M0 hMl hMb (.sl A) (by rw[h5];exact O7) x (hxb x (C3 hx))
      have hq1:=I8 (L2 xs (E3 M0) q)
      have hq2:=P0 (L2 xs (E3 M0) q)
      obtain⟨z,hz⟩:∃z,z=E3 M0 x:=⟨_,rfl⟩
      rw[<- hz] at hS hset
      have hset2:(xL (L2 xs (E3 M0) q)).set q z.ds=xL (L2 xs (E3 M0) (q+1)):=by rw[<- hset];unfold xL;rw[X5]
      obtain⟨o1,n1,v1,m1,l1,a1⟩:=x
      obtain⟨o2,n2,v2,m2,l2,a2⟩:=z
      have hg:=y9 _ _ _ _ _ _ _ hg
      rw[Ex.av_mk,Ex.av_mk] at hS
      rw[Ex.ds_mk] at hset2
      obtain⟨X,hX⟩:∃X,X=xL (L2 xs (E3 M0) q):=⟨_,rfl⟩
      rw[<- hX] at hg hset2 hq1 hq2 ⊢
      repeat' first|refine st ?_|((with_reducible first|apply A9|apply A8);(·exact hS))|(with_reducible first|apply A5|apply A4)<;>intro _
      refine⟨q+1,rfl,rfl,?_,by omega,by omega⟩
      rw[show((q:Int)).toNat=q from K8 q,hset2]
     |none=>
      have hge:=E4.1 hx
      have hqk:q=xs.length:=by omega
      subst hqk
      rw[A5O]
      repeat' first|refine st ?_|(with_reducible first|apply A5|apply A4)<;>intro _
      exact⟨rfl,rfl⟩
theorem C0b(T0 T1 T2 T3 T4 T7:AO)(nm:List UInt8)(es:List (List D))(hm:∀e∈es,e.length=3)(i:Nat)(hi:i<es.length)(hel:es.length<=1048576)(ks:List Int)(hkb:∀k∈ks,0<=k/\k<=1048576)(hkl:ks.length<=1048576)(kn:Bool)(hkn:kn=true->ks=[])(xs:List Ex)(hxl:xs.length<=1048576)(hxb:∀e∈xs,e.bk<=1048576)(xn:Bool)(hxn:xn=true->xs=[])(c0:List Int)(b0:Bool)(t0:List UInt8)(hc0:c0.length<=1048576)(hcb0:∀k∈c0,0<=k/\k<=1048576)(hn0:b0=true->c0=[])(c1:List Int)(b1:Bool)(t1:List UInt8)(hc1:c1.length<=1048576)(hcb1:∀k∈c1,0<=k/\k<=1048576)(hn1:b1=true->c1=[]) :
  B4 Tryz.prog A0r [.ptr 12 0,.d (eI i)] [T0,T1,T2,T3,T4,.arr es 3 0 false,.arr (A0 ks) 1 0 kn,T7,.rarr [[.arr 10 (A0 c0).length,.d (.str t0)],[.arr 11 (A0 c1).length,.d (.str t1)]] 2 false,.arr (xL xs) 7 0 xn,.arr (A0 c0) 1 0 b0,.arr (A0 c1) 1 0 b1,.cells [.d (.str nm),.arr 5 es.length,.arr 6 (A0 ks).length,.rs 8 2,.arr 9 (xL xs).length]]
   (λr os=>r=.tup []/\os=[T0,T1,T2,T3,T4,.arr (es.eraseIdx i++[L7]) 3 (es.length-1) false,.arr (A0 (ks.map λc=>B0 c i)) 1 0 kn,T7,.rarr [[.arr 10 (A0 c0).length,.d (.str t0)],[.arr 11 (A0 c1).length,.d (.str t1)]] 2 false,.arr (xL (xs.map (E3 (H5 es.length i)))) 7 0 xn,.arr (A0 (c0.map λc=>B0 c i)) 1 0 b0,.arr (A0 (c1.map λc=>B0 c i)) 1 0 b1,.cells [.d (.str nm),.d (.sl (es.eraseIdx i)),.arr 6 (A0 ks).length,.rs 8 2,.arr 9 (xL xs).length]]):=by
 have:=B4.frame (K:=λr os=>r=.tup []/\os=[T0,T1,T2,T3,T4,.arr (es.eraseIdx i++[L7]) 3 (es.length-1) false,.arr (A0 (ks.map λc=>B0 c i)) 1 0 kn,T7,.rarr [[.arr 10 (A0 c0).length,.d (.str t0)],[.arr 11 (A0 c1).length,.d (.str t1)]] 2 false,.arr (xL (xs.map (E3 (H5 es.length i)))) 7 0 xn,.arr (A0 (c0.map λc=>B0 c i)) 1 0 b0,.arr (A0 (c1.map λc=>B0 c i)) 1 0 b1,.cells [.d (.str nm),.d (.sl (es.eraseIdx i)),.arr 6 (A0 ks).length,.rs 8 2,.arr 9 (xL xs).length]]) (C0a nm es hm i hi hel ks hkb hkl kn hkn xs hxl hxb xn hxn c0 b0 t0 hc0 hcb0 hn0 c1 b1 t1 hc1 hcb1 hn1) [12,5,6,8,9,10,11]
  [T0,T1,T2,T3,T4,.arr es 3 0 false,.arr (A0 ks) 1 0 kn,T7,.rarr [[.arr 10 (A0 c0).length,.d (.str t0)],[.arr 11 (A0 c1).length,.d (.str t1)]] 2 false,.arr (xL xs) 7 0 xn,.arr (A0 c0) 1 0 b0,.arr (A0 c1) 1 0 b1,.cells [.d (.str nm),.arr 5 es.length,.arr 6 (A0 ks).length,.rs 8 2,.arr 9 (xL xs).length]] rfl (by decide) (λi o h=>by
   match i,h with
   |0,h=>cases h;rfl
   |1,h=>cases h;rfl
   |2,h=>cases h;rfl
   |3,h=>cases h;rfl
   |4,h=>cases h;rfl
   |5,h=>cases h;rfl
   |6,h=>cases h;rfl
   |i+7,h=>simp at h) (λa ha=>by
    simp only[L4,m8,or_false] at ha
    rcases ha with rfl|rfl<;>simp[AV.bnd2,AV.bnd1]) (λo ho=>by
    simp only[L4,m8,or_false] at ho
    rcases ho with rfl|rfl|rfl|rfl|rfl|rfl|rfl
    ·exact M3 rfl
    ·exact M3 rfl
    ·exact M3 rfl
    ·exact M3 rfl
    ·exact M3 rfl
    ·exact M3 rfl
    ·exact M3 rfl
    ) (by
   rintro r bs' ⟨rfl,rfl⟩
   exact⟨rfl,rfl⟩)
 exact this
end Go.Proofs
end
section
set_option maxHeartbeats 8000000
namespace Go.Proofs
open Go.Bi
theorem B9H(t:Tb)(dc dk df dx:D)(h:O0 t dc dk df dx)(c:Ch)(hc:I1 c)(hq:D7 t c=0)(g0 g1:Fo)(hfs:t.fs=[g0,g1])(hk:c.k=1) :
  Pure Tryz.prog Q6 [eT t.nm dc dk df dx,c.av] (.tup [eT t.nm (.sl (B3 (t.cs++[c.co]))) (B9 (A7 dk) (A0 t.ks)) (dF t.fs) (B9 (xL (t.xs.map (C0 0))).isEmpty (xL (t.xs.map (C0 0)))),.d (eI 0)]):=by
 have hC:=U3 t dc dk df dx h c hc
 rw[hq] at hC
 have hF:=S6 t.nm t.cs h.hl dc dk df dx h.dc c.nm
 have hl:=h.hl
 have hdf:=h.df
 have hfc:=h.hfc
 rw[hfs] at hdf hfc
 have hdf2:df=.sl (R4 [⟨g0.d,A0 g0.cs,A7 g0.d,g0.tb⟩,⟨g1.d,A0 g1.cs,A7 g1.d,g1.tb⟩]):=by
  rcases hdf with ⟨_,h2⟩|h2
  ·cases h2
  ·exact h2
 have hf0:(Fi.mk g0.d (A0 g0.cs) (A7 g0.d) g0.tb).ok:=G7 _ (by rw[B6];have:=(hfc g0 (by simp)).1;omega) (D4 _) g0.d g0.sld
 have hf1:(Fi.mk g1.d (A0 g1.cs) (A7 g1.d) g1.tb).ok:=G7 _ (by rw[B6];have:=(hfc g1 (by simp)).1;omega) (D4 _) g1.d g1.sld
 have hK:=A4z t.nm dc dk df dx (B3 t.cs) (A0 t.ks) (A7 dc) (A7 dk) (V0 _ (by rw[G8];omega) (I3 _) dc h.dc) (G7 _ (by rw[B6];have:=h.hk;omega) (D4 _) dk h.dk) _ _ hf0 hf1 hdf2 t.xs h.hxb h.hxs h.dx
 have hcl:=G8 t.cs
 have q0:g0.d=B9 (A7 g0.d) (A0 g0.cs):=(O4 g0.sld).symm
 have q1:g1.d=B9 (A7 g1.d) (A0 g1.cs):=(O4 g1.sld).symm
 have e1:B3 (t.cs++[c.co])=B3 t.cs++[c.co.ds]:=by simp[B3]
 rw[e1]
 obtain⟨k,nm,to,⟨cn,ck,cl⟩,⟨vk,vn,vs⟩⟩:=c
 dsimp only at hk
 subst hk
 obtain⟨f,hf⟩:∃f,f=D8 nm t.cs:=⟨_,rfl⟩
 have hF:Bi.Pure Tryz.prog U5 [eT t.nm dc dk df dx,.d (.str nm)] (.d (eI f)):=by rw[hf];exact hF
 rw[show dF t.fs=B9 false (H9 [g0,g1]) by rw[hfs];rfl]
 generalize B3 t.cs=Cs at hK hcl q0 q1 ⊢
 generalize A0 t.ks=Ks at hK hcl q0 q1 ⊢
 generalize xL (t.xs.map (C0 0))=Xs at hK hcl q0 q1 ⊢
 generalize A7 dk=b2 at hK hcl q0 q1 ⊢
 generalize A7 dc=b1 at hK hcl q0 q1 ⊢
 generalize A0 g0.cs=G0 at hK hcl q0 q1 ⊢
 generalize A7 g0.d=n0 at hK hcl q0 q1 ⊢
 generalize A0 g1.cs=G1 at hK hcl q0 q1 ⊢
 generalize A7 g1.d=n1 at hK hcl q0 q1 ⊢
 obtain⟨u0,hu0⟩:∃x,x=g0.tb:=⟨_,rfl⟩
 rw[<- hu0] at hK
 obtain⟨u1,hu1⟩:∃x,x=g1.tb:=⟨_,rfl⟩
 rw[<- hu1] at hK
 refine B4.deepP (Q:=λr os=>r=.tup [.agg [.d (.str t.nm),.arr 5 (Cs++[[.str cn,eI ck,.bool cl]]).length,.arr 6 Ks.length,.rs 8 2,.arr 9 Xs.length],.d (eI 0)]/\os[5]?=some (.arr (Cs++[[.str cn,eI ck,.bool cl]]) 3 0 false)/\os[6]?=some (.arr Ks 1 0 b2)/\os[8]?=some (.rarr [[.arr 10 G0.length,.d (.str u0)],[.arr 11 G1.length,.d (.str u1)]] 2 false)/\os[9]?=some (.arr Xs 7 0 Xs.isEmpty)/\os[10]?=some (.arr G0 1 0 n0)/\os[11]?=some (.arr G1 1 0 n1)) ?_ ?_
 ·refine V1.goO2 A6 rfl ?_
  repeat' first|refine st ?_|((with_reducible first|apply A9|apply A8);(·first|exact hC|exact hF))|((with_reducible first|apply I6|apply D5);(·exact hK);(try rintro _ _ ⟨rfl,rfl⟩))|((with_reducible apply I7);(·exact hK))|((with_reducible apply H6);refine st ?_;(with_reducible apply I5);(·exact rfl);refine st ?_;(with_reducible apply D5);(·exact hK);(try rintro _ _ ⟨rfl,rfl⟩))|(with_reducible first|apply A5|apply A4)<;>intro _
  exact⟨rfl,rfl,rfl,rfl,rfl,rfl,rfl⟩
 ·rintro r os ⟨rfl,hx0,hx1,hx2,hx3,hx4,hx5⟩
  refine V5 (rows:=[[.arr 10 G0.length,.d (.str u0)],[.arr 11 G1.length,.d (.str u1)]]) (fs:=[g0,g1]) (.inl (.inr ⟨5,_,3,0,false,rfl,hx0,rfl⟩)) hx1 hx2 hx3 rfl (λi e g he hg=>?_)
  match i,he,hg with
  |0,he,hg=>cases he;cases hg;exact⟨10,_,n0,by rw[hu0],hx4,q0⟩
  |1,he,hg=>cases he;cases hg;exact⟨11,_,n1,by rw[hu1],hx5,q1⟩
  |i+2,he,hg=>simp at he
theorem B9J(t:Tb)(dc dk df dx:D)(h:O0 t dc dk df dx)(c:Ch)(hc:I1 c)(hq:D7 t c=0)(g0 g1:Fo)(hfs:t.fs=[g0,g1])(hk:c.k=3)(i:Nat)(hi:D8 c.nm t.cs=i)(co:Co)(hco:t.cs[i]?=some co)(hdc:dc=.sl (B3 t.cs)) :
  Pure Tryz.prog Q6 [eT t.nm dc dk df dx,c.av] (.tup [eT t.nm (.sl (B3 (t.cs.set i ⟨c.to,co.k,co.nl⟩))) (B9 (A7 dk) (A0 t.ks)) (dF t.fs) (B9 (xL (t.xs.map (C0 0))).isEmpty (xL (t.xs.map (C0 0)))),.d (eI 0)]):=by
 have hC:=U3 t dc dk df dx h c hc
 rw[hq] at hC
 have hF:=S6 t.nm t.cs h.hl dc dk df dx h.dc c.nm
 have hl:=h.hl
 have hdf:=h.df
 have hfc:=h.hfc
 rw[hfs] at hdf hfc
 rw[hi] at hF
 have hdf2:df=.sl (R4 [⟨g0.d,A0 g0.cs,A7 g0.d,g0.tb⟩,⟨g1.d,A0 g1.cs,A7 g1.d,g1.tb⟩]):=by
  rcases hdf with ⟨_,h2⟩|h2
  ·cases h2
  ·exact h2
 have hf0:(Fi.mk g0.d (A0 g0.cs) (A7 g0.d) g0.tb).ok:=G7 _ (by rw[B6];have:=(hfc g0 (by simp)).1;omega) (D4 _) g0.d g0.sld
 have hf1:(Fi.mk g1.d (A0 g1.cs) (A7 g1.d) g1.tb).ok:=G7 _ (by rw[B6];have:=(hfc g1 (by simp)).1;omega) (D4 _) g1.d g1.sld
 have hK:=A4z t.nm dc dk df dx (B3 t.cs) (A0 t.ks) (A7 dc) (A7 dk) (V0 _ (by rw[G8];omega) (I3 _) dc h.dc) (G7 _ (by rw[B6];have:=h.hk;omega) (D4 _) dk h.dk) _ _ hf0 hf1 hdf2 t.xs h.hxb h.hxs h.dx
 have hcl:=G8 t.cs
 rw[show A7 dc=false by rw[hdc];rfl] at hK
 have q0:g0.d=B9 (A7 g0.d) (A0 g0.cs):=(O4 g0.sld).symm
 have q1:g1.d=B9 (A7 g1.d) (A0 g1.cs):=(O4 g1.sld).symm
 have hg:(B3 t.cs)[((i:Nat):Int).toNat]?=some [.str co.nm,eI co.k,.bool co.nl]:=M8 hco
 have hg2:(B3 t.cs)[i]?=some [.str co.nm,eI co.k,.bool co.nl]:=M8 hco
 have hmm:=I3 t.cs
 have hilt:i<(B3 t.cs).length:=by rw[hcl];exact(B2.1 hco).1
 have e1:B3 (t.cs.set i ⟨c.to,co.k,co.nl⟩)=(B3 t.cs).set i [.str c.to,eI co.k,.bool co.nl]:=by unfold B3;rw[X5]
 rw[e1]
 obtain⟨k,nm,to,⟨cn,ck,cl⟩,⟨vk,vn,vs⟩⟩:=c
 dsimp only at hk
 subst hk
 have hF:Bi.Pure Tryz.prog U5 [eT t.nm dc dk df dx,.d (.str nm)] (.d (eI i)):=hF
 rw[show dF t.fs=B9 false (H9 [g0,g1]) by rw[hfs];rfl]
 generalize B3 t.cs=Cs at hK hcl hg hg2 hmm hilt q0 q1 ⊢
 generalize A0 t.ks=Ks at hK hcl hg hg2 hmm hilt q0 q1 ⊢
 generalize xL (t.xs.map (C0 0))=Xs at hK hcl hg hg2 hmm hilt q0 q1 ⊢
 generalize A7 dk=b2 at hK hcl hg hg2 hmm hilt q0 q1 ⊢
 generalize A0 g0.cs=G0 at hK hcl hg hg2 hmm hilt q0 q1 ⊢
 generalize A7 g0.d=n0 at hK hcl hg hg2 hmm hilt q0 q1 ⊢
 generalize A0 g1.cs=G1 at hK hcl hg hg2 hmm hilt q0 q1 ⊢
 generalize A7 g1.d=n1 at hK hcl hg hg2 hmm hilt q0 q1 ⊢
 obtain⟨u0,hu0⟩:∃x,x=g0.tb:=⟨_,rfl⟩
 rw[<- hu0] at hK
 obtain⟨u1,hu1⟩:∃x,x=g1.tb:=⟨_,rfl⟩
 rw[<- hu1] at hK
 refine B4.deepP (Q:=λr os=>r=.tup [.agg [.d (.str t.nm),.arr 5 (Cs.set i [.str to,eI co.k,.bool co.nl]).length,.arr 6 Ks.length,.rs 8 2,.arr 9 Xs.length],.d (eI 0)]/\os[5]?=some (.arr (Cs.set i [.str to,eI co.k,.bool co.nl]) 3 0 false)/\os[6]?=some (.arr Ks 1 0 b2)/\os[8]?=some (.rarr [[.arr 10 G0.length,.d (.str u0)],[.arr 11 G1.length,.d (.str u1)]] 2 false)/\os[9]?=some (.arr Xs 7 0 Xs.isEmpty)/\os[10]?=some (.arr G0 1 0 n0)/\os[11]?=some (.arr G1 1 0 n1)) ?_ ?_
 ·refine V1.goO2 A6 rfl ?_
  rw[V3]
  repeat' first|refine st ?_|((with_reducible first|apply A9|apply A8);(·first|exact hC|exact hF))|((with_reducible first|apply I6|apply D5);(·exact hK);(try rintro _ _ ⟨rfl,rfl⟩))|((with_reducible apply I7);(·exact hK))|((with_reducible apply H6);refine st ?_;(with_reducible apply I5);(·exact rfl);refine st ?_;(with_reducible apply D5);(·exact hK);(try rintro _ _ ⟨rfl,rfl⟩))|(with_reducible first|apply A5|apply A4)<;>intro _
  exact⟨rfl,rfl,rfl,rfl,rfl,rfl,rfl⟩
 ·rintro r os ⟨rfl,hx0,hx1,hx2,hx3,hx4,hx5⟩
  refine V5 (rows:=[[.arr 10 G0.length,.d (.str u0)],[.arr 11 G1.length,.d (.str u1)]]) (fs:=[g0,g1]) (.inl (.inr ⟨5,_,3,0,false,rfl,hx0,rfl⟩)) hx1 hx2 hx3 rfl (λi e g he hg=>?_)
  match i,he,hg with
  |0,he,hg=>cases he;cases hg;exact⟨10,_,n0,by rw[hu0],hx4,q0⟩
  |1,he,hg=>cases he;cases hg;exact⟨11,_,n1,by rw[hu1],hx5,q1⟩
  |i+2,he,hg=>simp at he
theorem B9K(t:Tb)(dc dk df dx:D)(h:O0 t dc dk df dx)(c:Ch)(hc:I1 c)(hq:D7 t c=0)(g0 g1:Fo)(hfs:t.fs=[g0,g1])(hk:c.k=4)(i:Nat)(hi:D8 c.nm t.cs=i)(co:Co)(hco:t.cs[i]?=some co)(hdc:dc=.sl (B3 t.cs)) :
  Pure Tryz.prog Q6 [eT t.nm dc dk df dx,c.av] (.tup [eT t.nm (.sl (B3 (t.cs.set i ⟨co.nm,2,co.nl⟩))) (B9 (A7 dk) (A0 t.ks)) (dF t.fs) (B9 (xL (t.xs.map (C0 0))).isEmpty (xL (t.xs.map (C0 0)))),.d (eI 0)]):=by
 have hC:=U3 t dc dk df dx h c hc
 rw[hq] at hC
 have hF:=S6 t.nm t.cs h.hl dc dk df dx h.dc c.nm
 have hl:=h.hl
 have hdf:=h.df
 have hfc:=h.hfc
 rw[hfs] at hdf hfc
 rw[hi] at hF
 have hdf2:df=.sl (R4 [⟨g0.d,A0 g0.cs,A7 g0.d,g0.tb⟩,⟨g1.d,A0 g1.cs,A7 g1.d,g1.tb⟩]):=by
  rcases hdf with ⟨_,h2⟩|h2
  ·cases h2
  ·exact h2
 have hf0:(Fi.mk g0.d (A0 g0.cs) (A7 g0.d) g0.tb).ok:=G7 _ (by rw[B6];have:=(hfc g0 (by simp)).1;omega) (D4 _) g0.d g0.sld
 have hf1:(Fi.mk g1.d (A0 g1.cs) (A7 g1.d) g1.tb).ok:=G7 _ (by rw[B6];have:=(hfc g1 (by simp)).1;omega) (D4 _) g1.d g1.sld
 have hK:=A4z t.nm dc dk df dx (B3 t.cs) (A0 t.ks) (A7 dc) (A7 dk) (V0 _ (by rw[G8];omega) (I3 _) dc h.dc) (G7 _ (by rw[B6];have:=h.hk;omega) (D4 _) dk h.dk) _ _ hf0 hf1 hdf2 t.xs h.hxb h.hxs h.dx
 have hcl:=G8 t.cs
 rw[show A7 dc=false by rw[hdc];rfl] at hK
 have q0:g0.d=B9 (A7 g0.d) (A0 g0.cs):=(O4 g0.sld).symm
 have q1:g1.d=B9 (A7 g1.d) (A0 g1.cs):=(O4 g1.sld).symm
 have hg:(B3 t.cs)[((i:Nat):Int).toNat]?=some [.str co.nm,eI co.k,.bool co.nl]:=M8 hco
 have hg2:(B3 t.cs)[i]?=some [.str co.nm,eI co.k,.bool co.nl]:=M8 hco
 have hmm:=I3 t.cs
 have hilt:i<(B3 t.cs).length:=by rw[hcl];exact(B2.1 hco).1
 have e1:B3 (t.cs.set i ⟨co.nm,2,co.nl⟩)=(B3 t.cs).set i [.str co.nm,eI 2,.bool co.nl]:=by unfold B3;rw[X5]
 rw[e1]
 obtain⟨k,nm,to,⟨cn,ck,cl⟩,⟨vk,vn,vs⟩⟩:=c
 dsimp only at hk
 subst hk
 have hF:Bi.Pure Tryz.prog U5 [eT t.nm dc dk df dx,.d (.str nm)] (.d (eI i)):=hF
 rw[show dF t.fs=B9 false (H9 [g0,g1]) by rw[hfs];rfl]
 generalize B3 t.cs=Cs at hK hcl hg hg2 hmm hilt q0 q1 ⊢
 generalize A0 t.ks=Ks at hK hcl hg hg2 hmm hilt q0 q1 ⊢
 generalize xL (t.xs.map (C0 0))=Xs at hK hcl hg hg2 hmm hilt q0 q1 ⊢
 generalize A7 dk=b2 at hK hcl hg hg2 hmm hilt q0 q1 ⊢
 generalize A0 g0.cs=G0 at hK hcl hg hg2 hmm hilt q0 q1 ⊢
 generalize A7 g0.d=n0 at hK hcl hg hg2 hmm hilt q0 q1 ⊢
 generalize A0 g1.cs=G1 at hK hcl hg hg2 hmm hilt q0 q1 ⊢
 generalize A7 g1.d=n1 at hK hcl hg hg2 hmm hilt q0 q1 ⊢
 obtain⟨u0,hu0⟩:∃x,x=g0.tb:=⟨_,rfl⟩
 rw[<- hu0] at hK
 obtain⟨u1,hu1⟩:∃x,x=g1.tb:=⟨_,rfl⟩
 rw[<- hu1] at hK
 refine B4.deepP (Q:=λr os=>r=.tup [.agg [.d (.str t.nm),.arr 5 (Cs.set i [.str co.nm,eI 2,.bool co.nl]).length,.arr 6 Ks.length,.rs 8 2,.arr 9 Xs.length],.d (eI 0)]/\os[5]?=some (.arr (Cs.set i [.str co.nm,eI 2,.bool co.nl]) 3 0 false)/\os[6]?=some (.arr Ks 1 0 b2)/\os[8]?=some (.rarr [[.arr 10 G0.length,.d (.str u0)],[.arr 11 G1.length,.d (.str u1)]] 2 false)/\os[9]?=some (.arr Xs 7 0 Xs.isEmpty)/\os[10]?=some (.arr G0 1 0 n0)/\os[11]?=some (.arr G1 1 0 n1)) ?_ ?_
 ·refine V1.goO2 A6 rfl ?_
  rw[V3]
  repeat' first|refine st ?_|((with_reducible first|apply A9|apply A8);(·first|exact hC|exact hF))|((with_reducible first|apply I6|apply D5);(·exact hK);(try rintro _ _ ⟨rfl,rfl⟩))|((with_reducible apply I7);(·exact hK))|((with_reducible apply H6);refine st ?_;(with_reducible apply I5);(·exact rfl);refine st ?_;(with_reducible apply D5);(·exact hK);(try rintro _ _ ⟨rfl,rfl⟩))|(with_reducible first|apply A5|apply A4)<;>intro _
  exact⟨rfl,rfl,rfl,rfl,rfl,rfl,rfl⟩
 ·rintro r os ⟨rfl,hx0,hx1,hx2,hx3,hx4,hx5⟩
  refine V5 (rows:=[[.arr 10 G0.length,.d (.str u0)],[.arr 11 G1.length,.d (.str u1)]]) (fs:=[g0,g1]) (.inl (.inr ⟨5,_,3,0,false,rfl,hx0,rfl⟩)) hx1 hx2 hx3 rfl (λi e g he hg=>?_)
  match i,he,hg with
  |0,he,hg=>cases he;cases hg;exact⟨10,_,n0,by rw[hu0],hx4,q0⟩
  |1,he,hg=>cases he;cases hg;exact⟨11,_,n1,by rw[hu1],hx5,q1⟩
  |i+2,he,hg=>simp at he
theorem B9I(t:Tb)(dc dk df dx:D)(h:O0 t dc dk df dx)(c:Ch)(hc:I1 c)(hq:D7 t c=0)(g0 g1:Fo)(hfs:t.fs=[g0,g1])(hk:c.k=2)(i:Nat)(hi:D8 c.nm t.cs=i)(hil:i<t.cs.length)(hdc:dc=.sl (B3 t.cs))(hkb:∀k∈t.ks,0<=k/\k<=1048576)(hfb:∀g∈t.fs,∀k∈g.cs,0<=k/\k<=1048576)(hxb:∀e∈t.xs.map (C0 0),e.bk<=1048576) :
  Pure Tryz.prog Q6 [eT t.nm dc dk df dx,c.av] (.tup [eT t.nm (.sl (B3 (t.cs.eraseIdx i))) (B9 (A7 dk) (A0 (t.ks.map λc=>B0 c i))) (dF (t.fs.map (I0 i))) (B9 (xL (t.xs.map (C0 0))).isEmpty (xL ((t.xs.map (C0 0)).map (E3 (H5 t.cs.length i))))),.d (eI 0)]):=by
 have hC:=U3 t dc dk df dx h c hc
 rw[hq] at hC
 have hF:=S6 t.nm t.cs h.hl dc dk df dx h.dc c.nm
 have hl:=h.hl
 have hdf:=h.df
 have hfc:=h.hfc
 rw[hfs] at hdf hfc
 rw[hi] at hF
 have hdf2:df=.sl (R4 [⟨g0.d,A0 g0.cs,A7 g0.d,g0.tb⟩,⟨g1.d,A0 g1.cs,A7 g1.d,g1.tb⟩]):=by
  rcases hdf with ⟨_,h2⟩|h2
  ·cases h2
  ·exact h2
 have hf0:(Fi.mk g0.d (A0 g0.cs) (A7 g0.d) g0.tb).ok:=G7 _ (by rw[B6];have:=(hfc g0 (by simp)).1;omega) (D4 _) g0.d g0.sld
 have hf1:(Fi.mk g1.d (A0 g1.cs) (A7 g1.d) g1.tb).ok:=G7 _ (by rw[B6];have:=(hfc g1 (by simp)).1;omega) (D4 _) g1.d g1.sld
 have hK:=A4z t.nm dc dk df dx (B3 t.cs) (A0 t.ks) (A7 dc) (A7 dk) (V0 _ (by rw[G8];omega) (I3 _) dc h.dc) (G7 _ (by rw[B6];have:=h.hk;omega) (D4 _) dk h.dk) _ _ hf0 hf1 hdf2 t.xs h.hxb h.hxs h.dx
 have hcl:=G8 t.cs
 rw[show A7 dc=false by rw[hdc];rfl] at hK
 have hkN:A7 dk=true->t.ks=[]:=λhh=>by
  have:=l4 h.dk hh
  cases hks:t.ks with
  |nil=>rfl
  |cons a l=>rw[hks] at this;cases this
 have hxN:(xL (t.xs.map (C0 0))).isEmpty=true->t.xs.map (C0 0)=[]:=by
  intro hh
  cases hx:t.xs.map (C0 0) with
  |nil=>rfl
  |cons a l=>rw[hx] at hh;cases hh
 have hN0:A7 g0.d=true->g0.cs=[]:=λhh=>by
  have:=l4 g0.sld hh
  cases hks:g0.cs with
  |nil=>rfl
  |cons a l=>rw[hks] at this;cases this
 have hB0:=hfb g0 (by rw[hfs];simp)
 have hN1:A7 g1.d=true->g1.cs=[]:=λhh=>by
  have:=l4 g1.sld hh
  cases hks:g1.cs with
  |nil=>rfl
  |cons a l=>rw[hks] at this;cases this
 have hB1:=hfb g1 (by rw[hfs];simp)
 have hD:=λT0 T1 T2 T3 T4 T7=>C0b T0 T1 T2 T3 T4 T7 t.nm (B3 t.cs) (I3 _) i (by rw[hcl];exact hil) (by rw[hcl];exact hl) t.ks hkb h.hk (A7 dk) hkN (t.xs.map (C0 0)) (by rw[C7];exact h.hxs) hxb _ hxN g0.cs (A7 g0.d) g0.tb (hfc g0 (by simp)).1 hB0 hN0 g1.cs (A7 g1.d) g1.tb (hfc g1 (by simp)).1 hB1 hN1
 rw[hcl] at hD
 have hkl2:(A0 (t.ks.map λc=>B0 c i)).length=(A0 t.ks).length:=by rw[B6,B6,C7]
 have hxl2:(xL ((t.xs.map (C0 0)).map (E3 (H5 t.cs.length i)))).length=(xL (t.xs.map (C0 0))).length:=by rw[I8,I8,C7]
 have hkl20:(A0 (g0.cs.map λc=>B0 c i)).length=(A0 g0.cs).length:=by rw[B6,B6,C7]
 have hkl21:(A0 (g1.cs.map λc=>B0 c i)).length=(A0 g1.cs).length:=by rw[B6,B6,C7]
 have q0:(I0 i g0).d=B9 (A7 g0.d) (A0 (g0.cs.map λc=>B0 c i)):=A17 i g0
 have q1:(I0 i g1).d=B9 (A7 g1.d) (A0 (g1.cs.map λc=>B0 c i)):=A17 i g1
 have e1:B3 (t.cs.eraseIdx i)=(B3 t.cs).eraseIdx i:=A5s _ _
 rw[e1]
 obtain⟨k,nm,to,⟨cn,ck,cl⟩,⟨vk,vn,vs⟩⟩:=c
 dsimp only at hk
 subst hk
 have hF:Bi.Pure Tryz.prog U5 [eT t.nm dc dk df dx,.d (.str nm)] (.d (eI i)):=hF
 rw[show dF (t.fs.map (I0 i))=B9 false (H9 [I0 i g0,I0 i g1]) by rw[hfs];rfl]
 rw[hcl] at hK
 generalize A0 (t.ks.map λc=>B0 c i)=K2 at hK hcl hkl2 hxl2 hkl20 hkl21 q0 q1 hD ⊢
 generalize xL ((t.xs.map (C0 0)).map (E3 (H5 t.cs.length i)))=X2 at hK hcl hkl2 hxl2 hkl20 hkl21 q0 q1 hD ⊢
 generalize (B3 t.cs).eraseIdx i=E2 at hK hcl hkl2 hxl2 hkl20 hkl21 q0 q1 hD ⊢
 generalize A0 (g0.cs.map λc=>B0 c i)=H0 at hK hcl hkl2 hxl2 hkl20 hkl21 q0 q1 hD ⊢
 generalize A0 (g1.cs.map λc=>B0 c i)=H1 at hK hcl hkl2 hxl2 hkl20 hkl21 q0 q1 hD ⊢
 generalize B3 t.cs=Cs at hK hcl hkl2 hxl2 hkl20 hkl21 q0 q1 hD ⊢
 generalize A0 t.ks=Ks at hK hcl hkl2 hxl2 hkl20 hkl21 q0 q1 hD ⊢
 generalize xL (t.xs.map (C0 0))=Xs at hK hcl hkl2 hxl2 hkl20 hkl21 q0 q1 hD ⊢
 generalize A7 dk=b2 at hK hcl hkl2 hxl2 hkl20 hkl21 q0 q1 hD ⊢
 generalize A0 g0.cs=G0 at hK hcl hkl2 hxl2 hkl20 hkl21 q0 q1 hD ⊢
 generalize A7 g0.d=n0 at hK hcl hkl2 hxl2 hkl20 hkl21 q0 q1 hD ⊢
 generalize A0 g1.cs=G1 at hK hcl hkl2 hxl2 hkl20 hkl21 q0 q1 hD ⊢
 generalize A7 g1.d=n1 at hK hcl hkl2 hxl2 hkl20 hkl21 q0 q1 hD ⊢
 obtain⟨u0,hu0⟩:∃x,x=g0.tb:=⟨_,rfl⟩
 rw[<- hu0] at hK
 simp only[<- hu0] at hD
 obtain⟨u1,hu1⟩:∃x,x=g1.tb:=⟨_,rfl⟩
 rw[<- hu1] at hK
 simp only[<- hu1] at hD
 refine B4.deepP (Q:=λr os=>r=.tup [.agg [.d (.str t.nm),.d (.sl E2),.arr 6 K2.length,.rs 8 2,.arr 9 X2.length],.d (eI 0)]/\os[6]?=some (.arr K2 1 0 b2)/\os[8]?=some (.rarr [[.arr 10 H0.length,.d (.str u0)],[.arr 11 H1.length,.d (.str u1)]] 2 false)/\os[9]?=some (.arr X2 7 0 Xs.isEmpty)/\os[10]?=some (.arr H0 1 0 n0)/\os[11]?=some (.arr H1 1 0 n1)) ?_ ?_
 ·rw[hkl2,hxl2]
  rw[hkl20,hkl21]
  refine V1.goO2 A6 rfl ?_
  repeat' first|refine st ?_|((with_reducible first|apply A9|apply A8);(·first|exact hC|exact hF))|((with_reducible first|apply I6|apply D5);(·first|exact hK|exact hD _ _ _ _ _ _);(try rintro _ _ ⟨rfl,rfl⟩))|((with_reducible apply I7);(·first|exact hK|exact hD _ _ _ _ _ _))|((with_reducible apply H6);refine st ?_;(with_reducible apply I5);(·exact rfl);refine st ?_;(with_reducible apply D5);(·first|exact hK|exact hD _ _ _ _ _ _);(try rintro _ _ ⟨rfl,rfl⟩))|(with_reducible first|apply A5|apply A4)<;>intro _
  exact⟨rfl,rfl,rfl,rfl,rfl,rfl⟩
 ·rintro r os ⟨rfl,hx0,hx1,hx2,hx3,hx4⟩
  refine V5 (rows:=[[.arr 10 H0.length,.d (.str u0)],[.arr 11 H1.length,.d (.str u1)]]) (fs:=[I0 i g0,I0 i g1]) (.inl (.inl rfl)) hx0 hx1 hx2 rfl (λi e g he hg=>?_)
  match i,he,hg with
  |0,he,hg=>cases he;cases hg;exact⟨10,_,n0,by rw[hu0];rfl,hx3,q0⟩
  |1,he,hg=>cases he;cases hg;exact⟨11,_,n1,by rw[hu1];rfl,hx4,q1⟩
  |i+2,he,hg=>simp at he
end Go.Proofs
end
