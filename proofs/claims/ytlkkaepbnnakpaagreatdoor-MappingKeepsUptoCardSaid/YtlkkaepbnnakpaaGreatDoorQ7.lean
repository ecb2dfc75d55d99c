/- Texts of this claim, joined. No condition. -/
import Derived.Test.YtlkkaepbnnakpaaGreatDoorQ6
set_option linter.unusedSimpArgs false
set_option linter.unusedVariables false
set_option maxRecDepth 10000
set_option maxHeartbeats 4000000
section
set_option maxHeartbeats 8000000
namespace Go.Proofs
open Go.Bi
theorem C0F(t:Tb)(dc dk df dx:D)(h:M6 t dc dk df dx)(c:Ch)(hc:G7 c)(hq:D2 t c=0)(g0:Fo)(hfs:t.fs=[g0])(hk:c.k=1) :
  Pure Tryz.prog R3 [eT t.nm dc dk df dx,c.av] (.tup [eT t.nm (.sl (B2 (t.cs++[c.co]))) (C2 (A9 dk) (A0 t.ks)) (dF t.fs) (C2 (xL (t.xs.map (B9 0))).isEmpty (xL (t.xs.map (B9 0)))),.d (eI 0)]):=by
 have hC:=U3 t dc dk df dx h c hc
 rw[hq] at hC
 have hF:=R8 t.nm t.cs h.hl dc dk df dx h.dc c.nm
 have hl:=h.hl
 have hdf:=h.df
 have hfc:=h.hfc
 rw[hfs] at hdf hfc
 have hdf2:df=.sl (R0 [⟨g0.d,A0 g0.cs,A9 g0.d,g0.tb⟩]):=by
  rcases hdf with ⟨_,h2⟩|h2
  ·cases h2
  ·exact h2
 have hf0:(Fi.mk g0.d (A0 g0.cs) (A9 g0.d) g0.tb).ok:=F9 _ (by rw[B7];have:=(hfc g0 (by simp)).1;omega) (D3 _) g0.d g0.sld
 have hK:=A4C t.nm dc dk df dx (B2 t.cs) (A0 t.ks) (A9 dc) (A9 dk) (V0 _ (by rw[F4];omega) (I4 _) dc h.dc) (F9 _ (by rw[B7];have:=h.hk;omega) (D3 _) dk h.dk) _ hf0 hdf2 t.xs h.hxb h.hxs h.dx
 have hcl:=F4 t.cs
 have q0:g0.d=C2 (A9 g0.d) (A0 g0.cs):=(O5 g0.sld).symm
 have e1:B2 (t.cs++[c.co])=B2 t.cs++[c.co.ds]:=by simp[B2]
 rw[e1]
 obtain⟨k,nm,to,⟨cn,ck,cl⟩,⟨vk,vn,vs⟩⟩:=c
 dsimp only at hk
 subst hk
 obtain⟨f,hf⟩:∃f,f=D6 nm t.cs:=⟨_,rfl⟩
 have hF:Bi.Pure Tryz.prog U5 [eT t.nm dc dk df dx,.d (.str nm)] (.d (eI f)):=by rw[hf];exact hF
 rw[show dF t.fs=C2 false (H6 [g0]) by rw[hfs];rfl]
 generalize B2 t.cs=Cs at hK hcl q0 ⊢
 generalize A0 t.ks=Ks at hK hcl q0 ⊢
 generalize xL (t.xs.map (B9 0))=Xs at hK hcl q0 ⊢
 generalize A9 dk=b2 at hK hcl q0 ⊢
 generalize A9 dc=b1 at hK hcl q0 ⊢
 generalize A0 g0.cs=G0 at hK hcl q0 ⊢
 generalize A9 g0.d=n0 at hK hcl q0 ⊢
 obtain⟨u0,hu0⟩:∃x,x=g0.tb:=⟨_,rfl⟩
 rw[<- hu0] at hK
 refine B5.deepP (Q:=λr os=>r=.tup [.agg [.d (.str t.nm),.arr 5 (Cs++[[.str cn,eI ck,.bool cl]]).length,.arr 6 Ks.length,.rs 8 1,.arr 9 Xs.length],.d (eI 0)]/\os[5]?=some (.arr (Cs++[[.str cn,eI ck,.bool cl]]) 3 0 false)/\os[6]?=some (.arr Ks 1 0 b2)/\os[8]?=some (.rarr [[.arr 10 G0.length,.d (.str u0)]] 2 false)/\os[9]?=some (.arr Xs 7 0 Xs.isEmpty)/\os[10]?=some (.arr G0 1 0 n0)) ?_ ?_
 ·refine V2.goO2 A6 rfl ?_
  repeat' first|refine st ?_|((with_reducible first|apply A8|apply A7);(·first|exact hC|exact hF))|((with_reducible first|apply I0|apply D7);(·exact hK);(try rintro _ _ ⟨rfl,rfl⟩))|((with_reducible apply I8);(·exact hK))|((with_reducible apply H8);refine st ?_;(with_reducible apply I5);(·exact rfl);refine st ?_;(with_reducible apply D7);(·exact hK);(try rintro _ _ ⟨rfl,rfl⟩))|(with_reducible first|apply A5|apply A4)<;>intro _
  exact⟨rfl,rfl,rfl,rfl,rfl,rfl⟩
 ·rintro r os ⟨rfl,hx0,hx1,hx2,hx3,hx4⟩
  refine V3 (rows:=[[.arr 10 G0.length,.d (.str u0)]]) (fs:=[g0]) (.inl (.inr ⟨5,_,3,0,false,rfl,hx0,rfl⟩)) hx1 hx2 hx3 rfl (λi e g he hg=>?_)
  match i,he,hg with
  |0,he,hg=>cases he;cases hg;exact⟨10,_,n0,by rw[hu0],hx4,q0⟩
  |i+1,he,hg=>simp at he
theorem C0H(t:Tb)(dc dk df dx:D)(h:M6 t dc dk df dx)(c:Ch)(hc:G7 c)(hq:D2 t c=0)(g0:Fo)(hfs:t.fs=[g0])(hk:c.k=3)(i:Nat)(hi:D6 c.nm t.cs=i)(co:Co)(hco:t.cs[i]?=some co)(hdc:dc=.sl (B2 t.cs)) :
  Pure Tryz.prog R3 [eT t.nm dc dk df dx,c.av] (.tup [eT t.nm (.sl (B2 (t.cs.set i ⟨c.to,co.k,co.nl⟩))) (C2 (A9 dk) (A0 t.ks)) (dF t.fs) (C2 (xL (t.xs.map (B9 0))).isEmpty (xL (t.xs.map (B9 0)))),.d (eI 0)]):=by
 have hC:=U3 t dc dk df dx h c hc
 rw[hq] at hC
 have hF:=R8 t.nm t.cs h.hl dc dk df dx h.dc c.nm
 have hl:=h.hl
 have hdf:=h.df
 have hfc:=h.hfc
 rw[hfs] at hdf hfc
 rw[hi] at hF
 have hdf2:df=.sl (R0 [⟨g0.d,A0 g0.cs,A9 g0.d,g0.tb⟩]):=by
  rcases hdf with ⟨_,h2⟩|h2
  ·cases h2
  ·exact h2
 have hf0:(Fi.mk g0.d (A0 g0.cs) (A9 g0.d) g0.tb).ok:=F9 _ (by rw[B7];have:=(hfc g0 (by simp)).1;omega) (D3 _) g0.d g0.sld
 have hK:=A4C t.nm dc dk df dx (B2 t.cs) (A0 t.ks) (A9 dc) (A9 dk) (V0 _ (by rw[F4];omega) (I4 _) dc h.dc) (F9 _ (by rw[B7];have:=h.hk;omega) (D3 _) dk h.dk) _ hf0 hdf2 t.xs h.hxb h.hxs h.dx
 have hcl:=F4 t.cs
 rw[show A9 dc=false by rw[hdc];rfl] at hK
 have q0:g0.d=C2 (A9 g0.d) (A0 g0.cs):=(O5 g0.sld).symm
 have hg:(B2 t.cs)[((i:Nat):Int).toNat]?=some [.str co.nm,eI co.k,.bool co.nl]:=O2 hco
 have hg2:(B2 t.cs)[i]?=some [.str co.nm,eI co.k,.bool co.nl]:=O2 hco
 have hmm:=I4 t.cs
 have hilt:i<(B2 t.cs).length:=by rw[hcl];exact(B3.1 hco).1
 have e1:B2 (t.cs.set i ⟨c.to,co.k,co.nl⟩)=(B2 t.cs).set i [.str c.to,eI co.k,.bool co.nl]:=by unfold B2;rw[W2]
 rw[e1]
 obtain⟨k,nm,to,⟨cn,ck,cl⟩,⟨vk,vn,vs⟩⟩:=c
 dsimp only at hk
 subst hk
 have hF:Bi.Pure Tryz.prog U5 [eT t.nm dc dk df dx,.d (.str nm)] (.d (eI i)):=hF
 rw[show dF t.fs=C2 false (H6 [g0]) by rw[hfs];rfl]
 generalize B2 t.cs=Cs at hK hcl hg hg2 hmm hilt q0 ⊢
 generalize A0 t.ks=Ks at hK hcl hg hg2 hmm hilt q0 ⊢
 generalize xL (t.xs.map (B9 0))=Xs at hK hcl hg hg2 hmm hilt q0 ⊢
 generalize A9 dk=b2 at hK hcl hg hg2 hmm hilt q0 ⊢
 generalize A0 g0.cs=G0 at hK hcl hg hg2 hmm hilt q0 ⊢
 generalize A9 g0.d=n0 at hK hcl hg hg2 hmm hilt q0 ⊢
 obtain⟨u0,hu0⟩:∃x,x=g0.tb:=⟨_,rfl⟩
 rw[<- hu0] at hK
 refine B5.deepP (Q:=λr os=>r=.tup [.agg [.d (.str t.nm),.arr 5 (Cs.set i [.str to,eI co.k,.bool co.nl]).length,.arr 6 Ks.length,.rs 8 1,.arr 9 Xs.length],.d (eI 0)]/\os[5]?=some (.arr (Cs.set i [.str to,eI co.k,.bool co.nl]) 3 0 false)/\os[6]?=some (.arr Ks 1 0 b2)/\os[8]?=some (.rarr [[.arr 10 G0.length,.d (.str u0)]] 2 false)/\os[9]?=some (.arr Xs 7 0 Xs.isEmpty)/\os[10]?=some (.arr G0 1 0 n0)) ?_ ?_
 ·refine V2.goO2 A6 rfl ?_
  rw[U4]
  repeat' first|refine st ?_|((with_reducible first|apply A8|apply A7);(·first|exact hC|exact hF))|((with_reducible first|apply I0|apply D7);(·exact hK);(try rintro _ _ ⟨rfl,rfl⟩))|((with_reducible apply I8);(·exact hK))|((with_reducible apply H8);refine st ?_;(with_reducible apply I5);(·exact rfl);refine st ?_;(with_reducible apply D7);(·exact hK);(try rintro _ _ ⟨rfl,rfl⟩))|(with_reducible first|apply A5|apply A4)<;>intro _
  exact⟨rfl,rfl,rfl,rfl,rfl,rfl⟩
 ·rintro r os ⟨rfl,hx0,hx1,hx2,hx3,hx4⟩
  refine V3 (rows:=[[.arr 10 G0.length,.d (.str u0)]]) (fs:=[g0]) (.inl (.inr ⟨5,_,3,0,false,rfl,hx0,rfl⟩)) hx1 hx2 hx3 rfl (λi e g he hg=>?_)
  match i,he,hg with
  |0,he,hg=>cases he;cases hg;exact⟨10,_,n0,by rw[hu0],hx4,q0⟩
  |i+1,he,hg=>simp at he
theorem C0I(t:Tb)(dc dk df dx:D)(h:M6 t dc dk df dx)(c:Ch)(hc:G7 c)(hq:D2 t c=0)(g0:Fo)(hfs:t.fs=[g0])(hk:c.k=4)(i:Nat)(hi:D6 c.nm t.cs=i)(co:Co)(hco:t.cs[i]?=some co)(hdc:dc=.sl (B2 t.cs)) :
  Pure Tryz.prog R3 [eT t.nm dc dk df dx,c.av] (.tup [eT t.nm (.sl (B2 (t.cs.set i ⟨co.nm,2,co.nl⟩))) (C2 (A9 dk) (A0 t.ks)) (dF t.fs) (C2 (xL (t.xs.map (B9 0))).isEmpty (xL (t.xs.map (B9 0)))),.d (eI 0)]):=by
 have hC:=U3 t dc dk df dx h c hc
 rw[hq] at hC
 have hF:=R8 t.nm t.cs h.hl dc dk df dx h.dc c.nm
 have hl:=h.hl
 have hdf:=h.df
 have hfc:=h.hfc
 rw[hfs] at hdf hfc
 rw[hi] at hF
 have hdf2:df=.sl (R0 [⟨g0.d,A0 g0.cs,A9 g0.d,g0.tb⟩]):=by
  rcases hdf with ⟨_,h2⟩|h2
  ·cases h2
  ·exact h2
 have hf0:(Fi.mk g0.d (A0 g0.cs) (A9 g0.d) g0.tb).ok:=F9 _ (by rw[B7];have:=(hfc g0 (by simp)).1;omega) (D3 _) g0.d g0.sld
 have hK:=A4C t.nm dc dk df dx (B2 t.cs) (A0 t.ks) (A9 dc) (A9 dk) (V0 _ (by rw[F4];omega) (I4 _) dc h.dc) (F9 _ (by rw[B7];have:=h.hk;omega) (D3 _) dk h.dk) _ hf0 hdf2 t.xs h.hxb h.hxs h.dx
 have hcl:=F4 t.cs
 rw[show A9 dc=false by rw[hdc];rfl] at hK
 have q0:g0.d=C2 (A9 g0.d) (A0 g0.cs):=(O5 g0.sld).symm
 have hg:(B2 t.cs)[((i:Nat):Int).toNat]?=some [.str co.nm,eI co.k,.bool co.nl]:=O2 hco
 have hg2:(B2 t.cs)[i]?=some [.str co.nm,eI co.k,.bool co.nl]:=O2 hco
 have hmm:=I4 t.cs
 have hilt:i<(B2 t.cs).length:=by rw[hcl];exact(B3.1 hco).1
 have e1:B2 (t.cs.set i ⟨co.nm,2,co.nl⟩)=(B2 t.cs).set i [.str co.nm,eI 2,.bool co.nl]:=by unfold B2;rw[W2]
 rw[e1]
 obtain⟨k,nm,to,⟨cn,ck,cl⟩,⟨vk,vn,vs⟩⟩:=c
 dsimp only at hk
 subst hk
 have hF:Bi.Pure Tryz.prog U5 [eT t.nm dc dk df dx,.d (.str nm)] (.d (eI i)):=hF
 rw[show dF t.fs=C2 false (H6 [g0]) by rw[hfs];rfl]
 generalize B2 t.cs=Cs at hK hcl hg hg2 hmm hilt q0 ⊢
 generalize A0 t.ks=Ks at hK hcl hg hg2 hmm hilt q0 ⊢
 generalize xL (t.xs.map (B9 0))=Xs at hK hcl hg hg2 hmm hilt q0 ⊢
 generalize A9 dk=b2 at hK hcl hg hg2 hmm hilt q0 ⊢
 generalize A0 g0.cs=G0 at hK hcl hg hg2 hmm hilt q0 ⊢
 generalize A9 g0.d=n0 at hK hcl hg hg2 hmm hilt q0 ⊢
 obtain⟨u0,hu0⟩:∃x,x=g0.tb:=⟨_,rfl⟩
 rw[<- hu0] at hK
 refine B5.deepP (Q:=λr os=>r=.tup [.agg [.d (.str t.nm),.arr 5 (Cs.set i [.str co.nm,eI 2,.bool co.nl]).length,.arr 6 Ks.length,.rs 8 1,.arr 9 Xs.length],.d (eI 0)]/\os[5]?=some (.arr (Cs.set i [.str co.nm,eI 2,.bool co.nl]) 3 0 false)/\os[6]?=some (.arr Ks 1 0 b2)/\os[8]?=some (.rarr [[.arr 10 G0.length,.d (.str u0)]] 2 false)/\os[9]?=some (.arr Xs 7 0 Xs.isEmpty)/\os[10]?=some (.arr G0 1 0 n0)) ?_ ?_
 ·refine V2.goO2 A6 rfl ?_
  rw[U4]
  repeat' first|refine st ?_|((with_reducible first|apply A8|apply A7);(·first|exact hC|exact hF))|((with_reducible first|apply I0|apply D7);(·exact hK);(try rintro _ _ ⟨rfl,rfl⟩))|((with_reducible apply I8);(·exact hK))|((with_reducible apply H8);refine st ?_;(with_reducible apply I5);(·exact rfl);refine st ?_;(with_reducible apply D7);(·exact hK);(try rintro _ _ ⟨rfl,rfl⟩))|(with_reducible first|apply A5|apply A4)<;>intro _
  exact⟨rfl,rfl,rfl,rfl,rfl,rfl⟩
 ·rintro r os ⟨rfl,hx0,hx1,hx2,hx3,hx4⟩
  refine V3 (rows:=[[.arr 10 G0.length,.d (.str u0)]]) (fs:=[g0]) (.inl (.inr ⟨5,_,3,0,false,rfl,hx0,rfl⟩)) hx1 hx2 hx3 rfl (λi e g he hg=>?_)
  match i,he,hg with
  |0,he,hg=>cases he;cases hg;exact⟨10,_,n0,by rw[hu0],hx4,q0⟩
  |i+1,he,hg=>simp at he
theorem C0G(t:Tb)(dc dk df dx:D)(h:M6 t dc dk df dx)(c:Ch)(hc:G7 c)(hq:D2 t c=0)(g0:Fo)(hfs:t.fs=[g0])(hk:c.k=2)(i:Nat)(hi:D6 c.nm t.cs=i)(hil:i<t.cs.length)(hdc:dc=.sl (B2 t.cs))(hkb:∀k∈t.ks,0<=k/\k<=1048576)(hfb:∀g∈t.fs,∀k∈g.cs,0<=k/\k<=1048576)(hxb:∀e∈t.xs.map (B9 0),e.bk<=1048576) :
  Pure Tryz.prog R3 [eT t.nm dc dk df dx,c.av] (.tup [eT t.nm (.sl (B2 (t.cs.eraseIdx i))) (C2 (A9 dk) (A0 (t.ks.map λc=>B0 c i))) (dF (t.fs.map (H9 i))) (C2 (xL (t.xs.map (B9 0))).isEmpty (xL ((t.xs.map (B9 0)).map (E3 (H7 t.cs.length i))))),.d (eI 0)]):=by
 have hC:=U3 t dc dk df dx h c hc
 rw[hq] at hC
 have hF:=R8 t.nm t.cs h.hl dc dk df dx h.dc c.nm
 have hl:=h.hl
 have hdf:=h.df
 have hfc:=h.hfc
 rw[hfs] at hdf hfc
 rw[hi] at hF
 have hdf2:df=.sl (R0 [⟨g0.d,A0 g0.cs,A9 g0.d,g0.tb⟩]):=by
  rcases hdf with ⟨_,h2⟩|h2
  ·cases h2
  ·exact h2
 have hf0:(Fi.mk g0.d (A0 g0.cs) (A9 g0.d) g0.tb).ok:=F9 _ (by rw[B7];have:=(hfc g0 (by simp)).1;omega) (D3 _) g0.d g0.sld
 have hK:=A4C t.nm dc dk df dx (B2 t.cs) (A0 t.ks) (A9 dc) (A9 dk) (V0 _ (by rw[F4];omega) (I4 _) dc h.dc) (F9 _ (by rw[B7];have:=h.hk;omega) (D3 _) dk h.dk) _ hf0 hdf2 t.xs h.hxb h.hxs h.dx
 have hcl:=F4 t.cs
 rw[show A9 dc=false by rw[hdc];rfl] at hK
 have hkN:A9 dk=true->t.ks=[]:=λhh=>by
  have:=l4 h.dk hh
  cases hks:t.ks with
  |nil=>rfl
  |cons a l=>rw[hks] at this;cases this
 have hxN:(xL (t.xs.map (B9 0))).isEmpty=true->t.xs.map (B9 0)=[]:=by
  intro hh
  cases hx:t.xs.map (B9 0) with
  |nil=>rfl
  |cons a l=>rw[hx] at hh;cases hh
 have hN0:A9 g0.d=true->g0.cs=[]:=λhh=>by
  have:=l4 g0.sld hh
  cases hks:g0.cs with
  |nil=>rfl
  |cons a l=>rw[hks] at this;cases this
 have hB0:=hfb g0 (by rw[hfs];simp)
 have hD:=λT0 T1 T2 T3 T4 T7=>C14 T0 T1 T2 T3 T4 T7 t.nm (B2 t.cs) (I4 _) i (by rw[hcl];exact hil) (by rw[hcl];exact hl) t.ks hkb h.hk (A9 dk) hkN (t.xs.map (B9 0)) (by rw[D5];exact h.hxs) hxb _ hxN g0.cs (A9 g0.d) g0.tb (hfc g0 (by simp)).1 hB0 hN0
 rw[hcl] at hD
 have hkl2:(A0 (t.ks.map λc=>B0 c i)).length=(A0 t.ks).length:=by rw[B7,B7,D5]
 have hxl2:(xL ((t.xs.map (B9 0)).map (E3 (H7 t.cs.length i)))).length=(xL (t.xs.map (B9 0))).length:=by rw[I6,I6,D5]
 have hkl20:(A0 (g0.cs.map λc=>B0 c i)).length=(A0 g0.cs).length:=by rw[B7,B7,D5]
 have q0:(H9 i g0).d=C2 (A9 g0.d) (A0 (g0.cs.map λc=>B0 c i)):=A13 i g0
 have e1:B2 (t.cs.eraseIdx i)=(B2 t.cs).eraseIdx i:=A3Z _ _
 rw[e1]
 obtain⟨k,nm,to,⟨cn,ck,cl⟩,⟨vk,vn,vs⟩⟩:=c
 dsimp only at hk
 subst hk
 have hF:Bi.Pure Tryz.prog U5 [eT t.nm dc dk df dx,.d (.str nm)] (.d (eI i)):=hF
 rw[show dF (t.fs.map (H9 i))=C2 false (H6 [H9 i g0]) by rw[hfs];rfl]
 rw[hcl] at hK
 generalize A0 (t.ks.map λc=>B0 c i)=K2 at hK hcl hkl2 hxl2 hkl20 q0 hD ⊢
 generalize xL ((t.xs.map (B9 0)).map (E3 (H7 t.cs.length i)))=X2 at hK hcl hkl2 hxl2 hkl20 q0 hD ⊢
 generalize (B2 t.cs).eraseIdx i=E2 at hK hcl hkl2 hxl2 hkl20 q0 hD ⊢
 generalize A0 (g0.cs.map λc=>B0 c i)=H0 at hK hcl hkl2 hxl2 hkl20 q0 hD ⊢
 generalize B2 t.cs=Cs at hK hcl hkl2 hxl2 hkl20 q0 hD ⊢
 generalize A0 t.ks=Ks at hK hcl hkl2 hxl2 hkl20 q0 hD ⊢
 generalize xL (t.xs.map (B9 0))=Xs at hK hcl hkl2 hxl2 hkl20 q0 hD ⊢
 generalize A9 dk=b2 at hK hcl hkl2 hxl2 hkl20 q0 hD ⊢
 generalize A0 g0.cs=G0 at hK hcl hkl2 hxl2 hkl20 q0 hD ⊢
 generalize A9 g0.d=n0 at hK hcl hkl2 hxl2 hkl20 q0 hD ⊢
 obtain⟨u0,hu0⟩:∃x,x=g0.tb:=⟨_,rfl⟩
 rw[<- hu0] at hK
 simp only[<- hu0] at hD
 refine B5.deepP (Q:=λr os=>r=.tup [.agg [.d (.str t.nm),.d (.sl E2),.arr 6 K2.length,.rs 8 1,.arr 9 X2.length],.d (eI 0)]/\os[6]?=some (.arr K2 1 0 b2)/\os[8]?=some (.rarr [[.arr 10 H0.length,.d (.str u0)]] 2 false)/\os[9]?=some (.arr X2 7 0 Xs.isEmpty)/\os[10]?=some (.arr H0 1 0 n0)) ?_ ?_
 ·rw[hkl2,hxl2]
  rw[hkl20]
  refine V2.goO2 A6 rfl ?_
  repeat' first|refine st ?_|((with_reducible first|apply A8|apply A7);(·first|exact hC|exact hF))|((with_reducible first|apply I0|apply D7);(·first|exact hK|exact hD _ _ _ _ _ _);(try rintro _ _ ⟨rfl,rfl⟩))|((with_reducible apply I8);(·first|exact hK|exact hD _ _ _ _ _ _))|((with_reducible apply H8);refine st ?_;(with_reducible apply I5);(·exact rfl);refine st ?_;(with_reducible apply D7);(·first|exact hK|exact hD _ _ _ _ _ _);(try rintro _ _ ⟨rfl,rfl⟩))|(with_reducible first|apply A5|apply A4)<;>intro _
  exact⟨rfl,rfl,rfl,rfl,rfl⟩
 ·rintro r os ⟨rfl,hx0,hx1,hx2,hx3⟩
  refine V3 (rows:=[[.arr 10 H0.length,.d (.str u0)]]) (fs:=[H9 i g0]) (.inl (.inl rfl)) hx0 hx1 hx2 rfl (λi e g he hg=>?_)
  match i,he,hg with
  |0,he,hg=>cases he;cases hg;exact⟨10,_,n0,by rw[hu0];rfl,hx3,q0⟩
  |i+1,he,hg=>simp at he
end Go.Proofs
end
section
set_option maxHeartbeats 8000000
namespace Go.Proofs
open Go.Bi
theorem C15(nm:List UInt8)(es:List (List D))(hm:∀e∈es,e.length=3)(i:Nat)(hi:i<es.length)(hel:es.length<=1048576)(ks:List Int)(hkb:∀k∈ks,0<=k/\k<=1048576)(hkl:ks.length<=1048576)(kn:Bool)(hkn:kn=true->ks=[])(xs:List Ex)(hxl:xs.length<=1048576)(hxb:∀e∈xs,e.bk<=1048576)(xn:Bool)(hxn:xn=true->xs=[])(c0:List Int)(b0:Bool)(t0:List UInt8)(hc0:c0.length<=1048576)(hcb0:∀k∈c0,0<=k/\k<=1048576)(hn0:b0=true->c0=[])(c1:List Int)(b1:Bool)(t1:List UInt8)(hc1:c1.length<=1048576)(hcb1:∀k∈c1,0<=k/\k<=1048576)(hn1:b1=true->c1=[]) :
  B5 Tryz.prog A0s [.ptr 0 0,.d (eI i)] [.cells [.d (.str nm),.arr 1 es.length,.arr 2 (A0 ks).length,.rs 3 2,.arr 4 (xL xs).length],.arr es 3 0 false,.arr (A0 ks) 1 0 kn,.rarr [[.arr 5 (A0 c0).length,.d (.str t0)],[.arr 6 (A0 c1).length,.d (.str t1)]] 2 false,.arr (xL xs) 7 0 xn,.arr (A0 c0) 1 0 b0,.arr (A0 c1) 1 0 b1]
   (λr os=>r=.tup []/\os=[.cells [.d (.str nm),.d (.sl (es.eraseIdx i)),.arr 2 (A0 ks).length,.rs 3 2,.arr 4 (xL xs).length],.arr (es.eraseIdx i++[L4]) 3 (es.length-1) false,.arr (A0 (ks.map λc=>B0 c i)) 1 0 kn,.rarr [[.arr 5 (A0 c0).length,.d (.str t0)],[.arr 6 (A0 c1).length,.d (.str t1)]] 2 false,.arr (xL (xs.map (E3 (H7 es.length i)))) 7 0 xn,.arr (A0 (c0.map λc=>B0 c i)) 1 0 b0,.arr (A0 (c1.map λc=>B0 c i)) 1 0 b1]):=by
 have hD:=fun {os:List AO} (ho:os[1]?=some (.arr es 3 0 false))=>A4N es hm i hi ho
 refine A4Q.goX A6 rfl ?_
 repeat' first|refine st ?_|(with_reducible first|apply A5|apply A4)<;>intro _
 refine A1t 4 7 rfl rfl ?_
 repeat' first|refine st ?_|(with_reducible first|apply A5|apply A4)<;>intro _
 refine J1 A6 A51 A4W (λ(k:Nat) (A:List (List D))=>[.arr 7 A.length,.d (eI k)]) (λk A=>[.cells [.d (.str nm),.arr 1 es.length,.arr 2 (A0 ks).length,.rs 3 2,.arr 4 (xL xs).length],.arr es 3 0 false,.arr (A0 ks) 1 0 kn,.rarr [[.arr 5 (A0 c0).length,.d (.str t0)],[.arr 6 (A0 c1).length,.d (.str t1)]] 2 false,.arr (xL xs) 7 0 xn,.arr (A0 c0) 1 0 b0,.arr (A0 c1) 1 0 b1,.arr A 7 0 A.isEmpty]) (λk A=>k<=es.length/\A=xL (H7 k i)) (λk A=>es.length-k) 0 [] rfl rfl rfl rfl (λ_ _ _=>⟨rfl,rfl⟩) rfl ⟨by omega,by simp[H7,xL]⟩ ?_
 repeat' first|refine st ?_|(with_reducible first|apply A5|apply A4)<;>intro _
 intro k A ⟨h4,h5⟩
 have hAl:A.length=k:=by rw[h5,I6,A0N]
 have hAm:∀e∈A,e.length=7:=by rw[h5];exact O7 _
 by_cases hlt:k<es.length
 ·have hB:=V1 k i (by omega) (by omega)
  have hs:=A5X k i
  rw[<- h5] at hs
  obtain⟨b,hb⟩:∃b,b=B0 k i:=⟨_,rfl⟩
  rw[<- hb] at hB hs
  clear h5
  repeat' first|refine st ?_|((with_reducible first|apply A8|apply A7);(·exact hB))|(with_reducible first|apply A5|apply A4)<;>intro _
  refine⟨k+1,A++[[.int .i64 2,eI b,.int .i64 0,.int .i64 0,.str [],.str [],.nil]],?_,rfl,?_,by omega,by omega,hs⟩
  ·rfl
  ·rw[show(A++[[.int .i64 2,eI b,.int .i64 0,.int .i64 0,.str [],.str [],.nil]]).isEmpty=false by simp]
   first|rfl|skip
 ·have hke:k=es.length:=by omega
  rw[hke] at h5
  have hDc:=hD (os:=[.cells [.d (.str nm),.arr 1 es.length,.arr 2 (A0 ks).length,.rs 3 2,.arr 4 (xL xs).length],.arr es 3 0 false,.arr (A0 ks) 1 0 kn,.rarr [[.arr 5 (A0 c0).length,.d (.str t0)],[.arr 6 (A0 c1).length,.d (.str t1)]] 2 false,.arr (xL xs) 7 0 xn,.arr (A0 c0) 1 0 b0,.arr (A0 c1) 1 0 b1,.arr A 7 0 A.isEmpty]) rfl
  obtain⟨es',hes'⟩:∃e,e=es.eraseIdx i:=⟨_,rfl⟩
  rw[<- hes'] at hDc ⊢
  obtain⟨M0,hM0⟩:∃L,L=H7 es.length i:=⟨_,rfl⟩
  have hMl:M0.length<=1048576:=by rw[hM0,A0N];exact hel
  rw[<- hM0] at h5 ⊢
  obtain⟨N0,hN0⟩:∃K,K=A0 (c0.map λc=>B0 c i):=⟨_,rfl⟩
  obtain⟨N1,hN1⟩:∃K,K=A0 (c1.map λc=>B0 c i):=⟨_,rfl⟩
  rw[<- hN0,<- hN1]
  repeat' first|(with_reducible apply H8)|refine st ?_|((with_reducible first|apply I0|apply D7);(·exact hDc);(try rintro _ _ ⟨rfl,rfl⟩))|((with_reducible apply I8);(·exact hDc))|((with_reducible apply H8);refine st ?_;(with_reducible apply I5);(·exact rfl);refine st ?_;(with_reducible apply D7);(·exact hDc);(try rintro _ _ ⟨rfl,rfl⟩))|(with_reducible first|apply A5|apply A4)<;>intro _
  refine F7 A6 A52 A4X (λ(j:Nat)=>[.d (eI j)]) (λj=>[.cells [.d (.str nm),.d (.sl es'),.arr 2 (A0 ks).length,.rs 3 2,.arr 4 (xL xs).length],.arr (es'++[L4]) 3 (es.length-1) false,.arr (A0 (D4 ks (λc=>B0 c i) j)) 1 0 kn,.rarr [[.arr 5 (A0 c0).length,.d (.str t0)],[.arr 6 (A0 c1).length,.d (.str t1)]] 2 false,.arr (xL xs) 7 0 xn,.arr (A0 c0) 1 0 b0,.arr (A0 c1) 1 0 b1,.arr A 7 0 A.isEmpty]) (λj=>j<=ks.length) (λj=>ks.length-j) 0 rfl rfl rfl (by rw[o5];rfl) (λ_ _=>⟨rfl,rfl⟩) rfl (by omega) ?_
  repeat' first|refine st ?_|(with_reducible first|apply A5|apply A4)<;>intro _
  intro j h6
  have hKl:=o3 ks (λc=>B0 c i) j h6
  cases hy:ks[j]? with
  |some c=>
   obtain⟨hlt2,he2⟩:=B3.1 hy
   have hkf:kn=false:=by
    cases kn with
    |false=>rfl
    |true=>rw[hkn rfl] at hlt2;simp at hlt2
   subst hkf
   have hg:=N4 (n9 (λc=>B0 c i) hy)
   have hset:=o4 (λc=>B0 c i) hy
   obtain⟨cb1,cb2⟩:=hkb c (C4 hy)
   have hB:=V1 c i (by omega) (by omega)
   have hks:=B7 ks
   obtain⟨y,hyy⟩:∃y,y=B0 c i:=⟨_,rfl⟩
   rw[<- hyy] at hB hset
   have hset2:(A0 (D4 ks (λc=>B0 c i) j)).set j [eI y]=A0 (D4 ks (λc=>B0 c i) (j+1)):=by rw[m8,hset]
   have hml:=B7 (D4 ks (λc=>B0 c i) j)
   have hmm2:=D3 (D4 ks (λc=>B0 c i) j)
   obtain⟨X,hX⟩:∃X,X=A0 (D4 ks (λc=>B0 c i) j):=⟨_,rfl⟩
   rw[<- hX] at hg hset2 hml hmm2 ⊢
   repeat' first|refine st ?_|((with_reducible first|apply A8|apply A7);(·exact hB))|(with_reducible first|apply A5|apply A4)<;>intro _
   refine⟨j+1,rfl,rfl,?_,by omega,by omega⟩
   rw[show((j:Int)).toNat=j from G8 j,hset2]
  |none=>
   have hge:=D8.1 hy
   have hjk:j=ks.length:=by omega
   subst hjk
   rw[n8]
   have hks:=B7 ks
   obtain⟨K',hK'⟩:∃K,K=A0 (ks.map λc=>B0 c i):=⟨_,rfl⟩
   rw[<- hK']
   repeat' first|refine st ?_|(with_reducible first|apply A5|apply A4)<;>intro _
   refine A1u 3 ?_
   refine P8 A6 ?_
   repeat' first|refine st ?_|(with_reducible first|apply A5|apply A4)<;>intro _
   refine F7 A6 A0Z A0Y (λ(j:Nat)=>[.d (eI j)]) (λj=>[.cells [.d (.str nm),.d (.sl es'),.arr 2 (A0 ks).length,.rs 3 2,.arr 4 (xL xs).length],.arr (es'++[L4]) 3 (es.length-1) false,.arr K' 1 0 kn,.rarr [[.arr 5 (A0 c0).length,.d (.str t0)],[.arr 6 (A0 c1).length,.d (.str t1)]] 2 false,.arr (xL xs) 7 0 xn,.arr (A0 (D4 c0 (λc=>B0 c i) j)) 1 0 b0,.arr (A0 c1) 1 0 b1,.arr A 7 0 A.isEmpty,.cells [.arr 5 (A0 c0).length,.d (.str t0)]]) (λj=>j<=c0.length) (λj=>c0.length-j) 0 rfl rfl rfl (by rw[o5];rfl) (λ_ _=>⟨rfl,rfl⟩) rfl (by omega) ?_
   repeat' first|refine st ?_|(with_reducible first|apply A5|apply A4)<;>intro _
   intro j h6
   have hKl:=o3 c0 (λc=>B0 c i) j h6
   cases hy:c0[j]? with
   |some c=>
    obtain⟨hlt2,he2⟩:=B3.1 hy
    have hkf:b0=false:=by
     cases b0 with
     |false=>rfl
     |true=>rw[hn0 rfl] at hlt2;simp at hlt2
    subst hkf
    have hg:=N4 (n9 (λc=>B0 c i) hy)
    have hset:=o4 (λc=>B0 c i) hy
    obtain⟨cb1,cb2⟩:=hcb0 c (C4 hy)
    have hB:=V1 c i (by omega) (by omega)
    have hks:=B7 c0
    obtain⟨y,hyy⟩:∃y,y=B0 c i:=⟨_,rfl⟩
    rw[<- hyy] at hB hset
    have hset2:(A0 (D4 c0 (λc=>B0 c i) j)).set j [eI y]=A0 (D4 c0 (λc=>B0 c i) (j+1)):=by rw[m8,hset]
    have hml:=B7 (D4 c0 (λc=>B0 c i) j)
    have hmm2:=D3 (D4 c0 (λc=>B0 c i) j)
    obtain⟨X,hX⟩:∃X,X=A0 (D4 c0 (λc=>B0 c i) j):=⟨_,rfl⟩
    rw[<- hX] at hg hset2 hml hmm2 ⊢
    repeat' first|refine st ?_|((with_reducible first|apply A8|apply A7);(·exact hB))|(with_reducible first|apply A5|apply A4)<;>intro _
    refine⟨j+1,rfl,rfl,?_,by omega,by omega⟩
    rw[show((j:Int)).toNat=j from G8 j,hset2]
   |none=>
    have hge:=D8.1 hy
    have hjk:j=c0.length:=by omega
    subst hjk
    rw[n8]
    have hks:=B7 c0
    rw[<- hN0]
    repeat' first|refine st ?_|(with_reducible first|apply A5|apply A4)<;>intro _
    refine P8 A6 ?_
    repeat' first|refine st ?_|(with_reducible first|apply A5|apply A4)<;>intro _
    refine F7 A6 A0Z A0Y (λ(j:Nat)=>[.d (eI j)]) (λj=>[.cells [.d (.str nm),.d (.sl es'),.arr 2 (A0 ks).length,.rs 3 2,.arr 4 (xL xs).length],.arr (es'++[L4]) 3 (es.length-1) false,.arr K' 1 0 kn,.rarr [[.arr 5 (A0 c0).length,.d (.str t0)],[.arr 6 (A0 c1).length,.d (.str t1)]] 2 false,.arr (xL xs) 7 0 xn,.arr N0 1 0 b0,.arr (A0 (D4 c1 (λc=>B0 c i) j)) 1 0 b1,.arr A 7 0 A.isEmpty,.cells [.arr 5 (A0 c0).length,.d (.str t0)],.cells [.arr 6 (A0 c1).length,.d (.str t1)]]) (λj=>j<=c1.length) (λj=>c1.length-j) 0 rfl rfl rfl (by rw[o5];rfl) (λ_ _=>⟨rfl,rfl⟩) rfl (by omega) ?_
    repeat' first|refine st ?_|(with_reducible first|apply A5|apply A4)<;>intro _
    intro j h6
    have hKl:=o3 c1 (λc=>B0 c i) j h6
    cases hy:c1[j]? with
    |some c=>
     obtain⟨hlt2,he2⟩:=B3.1 hy
     have hkf:b1=false:=by
      cases b1 with
      |false=>rfl
      |true=>rw[hn1 rfl] at hlt2;simp at hlt2
     subst hkf
     have hg:=N4 (n9 (λc=>B0 c i) hy)
     have hset:=o4 (λc=>B0 c i) hy
     obtain⟨cb1,cb2⟩:=hcb1 c (C4 hy)
     have hB:=V1 c i (by omega) (by omega)
     have hks:=B7 c1
     obtain⟨y,hyy⟩:∃y,y=B0 c i:=⟨_,rfl⟩
     rw[<- hyy] at hB hset
     have hset2:(A0 (D4 c1 (λc=>B0 c i) j)).set j [eI y]=A0 (D4 c1 (λc=>B0 c i) (j+1)):=by rw[m8,hset]
     have hml:=B7 (D4 c1 (λc=>B0 c i) j)
     have hmm2:=D3 (D4 c1 (λc=>B0 c i) j)
     obtain⟨X,hX⟩:∃X,X=A0 (D4 c1 (λc=>B0 c i) j):=⟨_,rfl⟩
     rw[<- hX] at hg hset2 hml hmm2 ⊢
     repeat' first|refine st ?_|((with_reducible first|apply A8|apply A7);(·exact hB))|(with_reducible first|apply A5|apply A4)<;>intro _
     refine⟨j+1,rfl,rfl,?_,by omega,by omega⟩
     rw[show((j:Int)).toNat=j from G8 j,hset2]
    |none=>
     have hge:=D8.1 hy
     have hjk:j=c1.length:=by omega
     subst hjk
     rw[n8]
     have hks:=B7 c1
     rw[<- hN1]
     repeat' first|refine st ?_|(with_reducible first|apply A5|apply A4)<;>intro _
     refine P8 A6 ?_
     repeat' first|refine st ?_|(with_reducible first|apply A5|apply A4)<;>intro _
     have hAe:A.isEmpty=false:=by cases A with
      |nil=>simp at hAl;omega
      |cons a l=>rfl
     rw[hAe]
     have hXl:=I6 xs
     refine A2A 4 (id:=7) (len:=A.length) (sz:=7) (frz:=0) (nl:=false) (es:=A) rfl rfl rfl ?_
     rw[if_neg (by decide:¬(false=true))]
     repeat' first|refine st ?_|(with_reducible first|apply A5|apply A4)<;>intro _
     refine F7 A6 A53 A4Y (λ(q:Nat)=>[.d (eI q)]) (λq=>[.cells [.d (.str nm),.d (.sl es'),.arr 2 (A0 ks).length,.rs 3 2,.arr 4 (xL xs).length],.arr (es'++[L4]) 3 (es.length-1) false,.arr K' 1 0 kn,.rarr [[.arr 5 (A0 c0).length,.d (.str t0)],[.arr 6 (A0 c1).length,.d (.str t1)]] 2 false,.arr (xL (L0 xs (E3 M0) q)) 7 0 xn,.arr N0 1 0 b0,.arr N1 1 0 b1,.arr A 7 A.length false,.cells [.arr 5 (A0 c0).length,.d (.str t0)],.cells [.arr 6 (A0 c1).length,.d (.str t1)]]) (λq=>q<=xs.length) (λq=>xs.length-q) 0 rfl rfl rfl (by rw[A5V];rfl) (λ_ _=>⟨rfl,rfl⟩) rfl (by omega) ?_
     repeat' first|refine st ?_|(with_reducible first|apply A5|apply A4)<;>intro _
     intro q h7
     have hMb:∀a∈M0,a.bk<=1048576:=by
      intro a ha
      rw[hM0] at ha
      obtain⟨b,_,rfl⟩:=F1.1 ha
      unfold mvE Ex.bk
      rw[Ex.ds_mk]
      exact P3 rfl
     have hXql:=A5T xs (E3 M0) q h7
     cases hx:xs[q]? with
     |some x=>
      obtain⟨hlt3,he3⟩:=B3.1 hx
      have hxf:xn=false:=by
       cases xn with
       |false=>rfl
       |true=>rw[hxn rfl] at hlt3;simp at hlt3
      subst hxf
      have hg:=A5S (E3 M0) hx
      have hset:=A5U (E3 M0) hx
      have hS:=A4H M0 hMl hMb (.sl A) (by rw[h5];exact O6) x (hxb x (C4 hx))
      have hq1:=I6 (L0 xs (E3 M0) q)
      have hq2:=O7 (L0 xs (E3 M0) q)
      obtain⟨z,hz⟩:∃z,z=E3 M0 x:=⟨_,rfl⟩
      rw[<- hz] at hS hset
      have hset2:(xL (L0 xs (E3 M0) q)).set q z.ds=xL (L0 xs (E3 M0) (q+1)):=by rw[<- hset];unfold xL;rw[W2]
      obtain⟨o1,n1,v1,m1,l1,a1⟩:=x
      obtain⟨o2,n2,v2,m2,l2,a2⟩:=z
      have hg:=m4 _ _ _ _ _ _ _ hg
      rw[Ex.av_mk,Ex.av_mk] at hS
      rw[Ex.ds_mk] at hset2
      obtain⟨X,hX⟩:∃X,X=xL (L0 xs (E3 M0) q):=⟨_,rfl⟩
      rw[<- hX] at hg hset2 hq1 hq2 ⊢
      repeat' first|refine st ?_|((with_reducible first|apply A8|apply A7);(·exact hS))|(with_reducible first|apply A5|apply A4)<;>intro _
      refine⟨q+1,rfl,rfl,?_,by omega,by omega⟩
      rw[show((q:Int)).toNat=q from G8 q,hset2]
     |none=>
      have hge:=D8.1 hx
      have hqk:q=xs.length:=by omega
      subst hqk
      rw[A5R]
      repeat' first|refine st ?_|(with_reducible first|apply A5|apply A4)<;>intro _
      exact⟨rfl,rfl⟩
theorem C16(T0 T1 T2 T3 T4 T7:AO)(nm:List UInt8)(es:List (List D))(hm:∀e∈es,e.length=3)(i:Nat)(hi:i<es.length)(hel:es.length<=1048576)(ks:List Int)(hkb:∀k∈ks,0<=k/\k<=1048576)(hkl:ks.length<=1048576)(kn:Bool)(hkn:kn=true->ks=[])(xs:List Ex)(hxl:xs.length<=1048576)(hxb:∀e∈xs,e.bk<=1048576)(xn:Bool)(hxn:xn=true->xs=[])(c0:List Int)(b0:Bool)(t0:List UInt8)(hc0:c0.length<=1048576)(hcb0:∀k∈c0,0<=k/\k<=1048576)(hn0:b0=true->c0=[])(c1:List Int)(b1:Bool)(t1:List UInt8)(hc1:c1.length<=1048576)(hcb1:∀k∈c1,0<=k/\k<=1048576)(hn1:b1=true->c1=[]) :
  B5 Tryz.prog A0s [.ptr 12 0,.d (eI i)] [T0,T1,T2,T3,T4,.arr es 3 0 false,.arr (A0 ks) 1 0 kn,T7,.rarr [[.arr 10 (A0 c0).length,.d (.str t0)],[.arr 11 (A0 c1).length,.d (.str t1)]] 2 false,.arr (xL xs) 7 0 xn,.arr (A0 c0) 1 0 b0,.arr (A0 c1) 1 0 b1,.cells [.d (.str nm),.arr 5 es.length,.arr 6 (A0 ks).length,.rs 8 2,.arr 9 (xL xs).length]]
   (λr os=>r=.tup []/\os=[T0,T1,T2,T3,T4,.arr (es.eraseIdx i++[L4]) 3 (es.length-1) false,.arr (A0 (ks.map λc=>B0 c i)) 1 0 kn,T7,.rarr [[.arr 10 (A0 c0).length,.d (.str t0)],[.arr 11 (A0 c1).length,.d (.str t1)]] 2 false,.arr (xL (xs.map (E3 (H7 es.length i)))) 7 0 xn,.arr (A0 (c0.map λc=>B0 c i)) 1 0 b0,.arr (A0 (c1.map λc=>B0 c i)) 1 0 b1,.cells [.d (.str nm),.d (.sl (es.eraseIdx i)),.arr 6 (A0 ks).length,.rs 8 2,.arr 9 (xL xs).length]]):=by
 have:=B5.frame (K:=λr os=>r=.tup []/\os=[T0,T1,T2,T3,T4,.arr (es.eraseIdx i++[L4]) 3 (es.length-1) false,.arr (A0 (ks.map λc=>B0 c i)) 1 0 kn,T7,.rarr [[.arr 10 (A0 c0).length,.d (.str t0)],[.arr 11 (A0 c1).length,.d (.str t1)]] 2 false,.arr (xL (xs.map (E3 (H7 es.length i)))) 7 0 xn,.arr (A0 (c0.map λc=>B0 c i)) 1 0 b0,.arr (A0 (c1.map λc=>B0 c i)) 1 0 b1,.cells [.d (.str nm),.d (.sl (es.eraseIdx i)),.arr 6 (A0 ks).length,.rs 8 2,.arr 9 (xL xs).length]]) (C15 nm es hm i hi hel ks hkb hkl kn hkn xs hxl hxb xn hxn c0 b0 t0 hc0 hcb0 hn0 c1 b1 t1 hc1 hcb1 hn1) [12,5,6,8,9,10,11]
  [T0,T1,T2,T3,T4,.arr es 3 0 false,.arr (A0 ks) 1 0 kn,T7,.rarr [[.arr 10 (A0 c0).length,.d (.str t0)],[.arr 11 (A0 c1).length,.d (.str t1)]] 2 false,.arr (xL xs) 7 0 xn,.arr (A0 c0) 1 0 b0,.arr (A0 c1) 1 0 b1,.cells [.d (.str nm),.arr 5 es.length,.arr 6 (A0 ks).length,.rs 8 2,.arr 9 (xL xs).length]] rfl (by decide) (λi o h=>by
   match i,h with
   |0,h=>cases h;rfl
   |1,h=>cases h;rfl
   |2,h=>cases h;rfl
   |3,h=>cases h;rfl
   |4,h=>cases h;rfl
   |5,h=>cases h;rfl
   |6,h=>cases h;rfl
   |i+7,h=>simp at h) (λa ha=>by
    simp only[I9,m5,or_false] at ha
    rcases ha with rfl|rfl<;>simp[AV.bnd2,AV.bnd1]) (λo ho=>by
    simp only[I9,m5,or_false] at ho
    rcases ho with rfl|rfl|rfl|rfl|rfl|rfl|rfl
    ·exact L7 rfl
    ·exact L7 rfl
    ·exact L7 rfl
    ·exact L7 rfl
    ·exact L7 rfl
    ·exact L7 rfl
    ·exact L7 rfl
    ) (by
   rintro r bs' ⟨rfl,rfl⟩
   exact⟨rfl,rfl⟩)
 exact this
end Go.Proofs
end
section
set_option maxHeartbeats 8000000
namespace Go.Proofs
open Go.Bi
theorem C0J(t:Tb)(dc dk df dx:D)(h:M6 t dc dk df dx)(c:Ch)(hc:G7 c)(hq:D2 t c=0)(g0 g1:Fo)(hfs:t.fs=[g0,g1])(hk:c.k=1) :
  Pure Tryz.prog R3 [eT t.nm dc dk df dx,c.av] (.tup [eT t.nm (.sl (B2 (t.cs++[c.co]))) (C2 (A9 dk) (A0 t.ks)) (dF t.fs) (C2 (xL (t.xs.map (B9 0))).isEmpty (xL (t.xs.map (B9 0)))),.d (eI 0)]):=by
 have hC:=U3 t dc dk df dx h c hc
 rw[hq] at hC
 have hF:=R8 t.nm t.cs h.hl dc dk df dx h.dc c.nm
 have hl:=h.hl
 have hdf:=h.df
 have hfc:=h.hfc
 rw[hfs] at hdf hfc
 have hdf2:df=.sl (R0 [⟨g0.d,A0 g0.cs,A9 g0.d,g0.tb⟩,⟨g1.d,A0 g1.cs,A9 g1.d,g1.tb⟩]):=by
  rcases hdf with ⟨_,h2⟩|h2
  ·cases h2
  ·exact h2
 have hf0:(Fi.mk g0.d (A0 g0.cs) (A9 g0.d) g0.tb).ok:=F9 _ (by rw[B7];have:=(hfc g0 (by simp)).1;omega) (D3 _) g0.d g0.sld
 have hf1:(Fi.mk g1.d (A0 g1.cs) (A9 g1.d) g1.tb).ok:=F9 _ (by rw[B7];have:=(hfc g1 (by simp)).1;omega) (D3 _) g1.d g1.sld
 have hK:=A4D t.nm dc dk df dx (B2 t.cs) (A0 t.ks) (A9 dc) (A9 dk) (V0 _ (by rw[F4];omega) (I4 _) dc h.dc) (F9 _ (by rw[B7];have:=h.hk;omega) (D3 _) dk h.dk) _ _ hf0 hf1 hdf2 t.xs h.hxb h.hxs h.dx
 have hcl:=F4 t.cs
 have q0:g0.d=C2 (A9 g0.d) (A0 g0.cs):=(O5 g0.sld).symm
 have q1:g1.d=C2 (A9 g1.d) (A0 g1.cs):=(O5 g1.sld).symm
 have e1:B2 (t.cs++[c.co])=B2 t.cs++[c.co.ds]:=by simp[B2]
 rw[e1]
 obtain⟨k,nm,to,⟨cn,ck,cl⟩,⟨vk,vn,vs⟩⟩:=c
 dsimp only at hk
 subst hk
 obtain⟨f,hf⟩:∃f,f=D6 nm t.cs:=⟨_,rfl⟩
 have hF:Bi.Pure Tryz.prog U5 [eT t.nm dc dk df dx,.d (.str nm)] (.d (eI f)):=by rw[hf];exact hF
 rw[show dF t.fs=C2 false (H6 [g0,g1]) by rw[hfs];rfl]
 generalize B2 t.cs=Cs at hK hcl q0 q1 ⊢
 generalize A0 t.ks=Ks at hK hcl q0 q1 ⊢
 generalize xL (t.xs.map (B9 0))=Xs at hK hcl q0 q1 ⊢
 generalize A9 dk=b2 at hK hcl q0 q1 ⊢
 generalize A9 dc=b1 at hK hcl q0 q1 ⊢
 generalize A0 g0.cs=G0 at hK hcl q0 q1 ⊢
 generalize A9 g0.d=n0 at hK hcl q0 q1 ⊢
 generalize A0 g1.cs=G1 at hK hcl q0 q1 ⊢
 generalize A9 g1.d=n1 at hK hcl q0 q1 ⊢
 obtain⟨u0,hu0⟩:∃x,x=g0.tb:=⟨_,rfl⟩
 rw[<- hu0] at hK
 obtain⟨u1,hu1⟩:∃x,x=g1.tb:=⟨_,rfl⟩
 rw[<- hu1] at hK
 refine B5.deepP (Q:=λr os=>r=.tup [.agg [.d (.str t.nm),.arr 5 (Cs++[[.str cn,eI ck,.bool cl]]).length,.arr 6 Ks.length,.rs 8 2,.arr 9 Xs.length],.d (eI 0)]/\os[5]?=some (.arr (Cs++[[.str cn,eI ck,.bool cl]]) 3 0 false)/\os[6]?=some (.arr Ks 1 0 b2)/\os[8]?=some (.rarr [[.arr 10 G0.length,.d (.str u0)],[.arr 11 G1.length,.d (.str u1)]] 2 false)/\os[9]?=some (.arr Xs 7 0 Xs.isEmpty)/\os[10]?=some (.arr G0 1 0 n0)/\os[11]?=some (.arr G1 1 0 n1)) ?_ ?_
 ·refine V2.goO2 A6 rfl ?_
  repeat' first|refine st ?_|((with_reducible first|apply A8|apply A7);(·first|exact hC|exact hF))|((with_reducible first|apply I0|apply D7);(·exact hK);(try rintro _ _ ⟨rfl,rfl⟩))|((with_reducible apply I8);(·exact hK))|((with_reducible apply H8);refine st ?_;(with_reducible apply I5);(·exact rfl);refine st ?_;(with_reducible apply D7);(·exact hK);(try rintro _ _ ⟨rfl,rfl⟩))|(with_reducible first|apply A5|apply A4)<;>intro _
  exact⟨rfl,rfl,rfl,rfl,rfl,rfl,rfl⟩
 ·rintro r os ⟨rfl,hx0,hx1,hx2,hx3,hx4,hx5⟩
  refine V3 (rows:=[[.arr 10 G0.length,.d (.str u0)],[.arr 11 G1.length,.d (.str u1)]]) (fs:=[g0,g1]) (.inl (.inr ⟨5,_,3,0,false,rfl,hx0,rfl⟩)) hx1 hx2 hx3 rfl (λi e g he hg=>?_)
  match i,he,hg with
  |0,he,hg=>cases he;cases hg;exact⟨10,_,n0,by rw[hu0],hx4,q0⟩
  |1,he,hg=>cases he;cases hg;exact⟨11,_,n1,by rw[hu1],hx5,q1⟩
  |i+2,he,hg=>simp at he
theorem C0L(t:Tb)(dc dk df dx:D)(h:M6 t dc dk df dx)(c:Ch)(hc:G7 c)(hq:D2 t c=0)(g0 g1:Fo)(hfs:t.fs=[g0,g1])(hk:c.k=3)(i:Nat)(hi:D6 c.nm t.cs=i)(co:Co)(hco:t.cs[i]?=some co)(hdc:dc=.sl (B2 t.cs)) :
  Pure Tryz.prog R3 [eT t.nm dc dk df dx,c.av] (.tup [eT t.nm (.sl (B2 (t.cs.set i ⟨c.to,co.k,co.nl⟩))) (C2 (A9 dk) (A0 t.ks)) (dF t.fs) (C2 (xL (t.xs.map (B9 0))).isEmpty (xL (t.xs.map (B9 0)))),.d (eI 0)]):=by
 have hC:=U3 t dc dk df dx h c hc
 rw[hq] at hC
 have hF:=R8 t.nm t.cs h.hl dc dk df dx h.dc c.nm
 have hl:=h.hl
 have hdf:=h.df
 have hfc:=h.hfc
 rw[hfs] at hdf hfc
 rw[hi] at hF
 have hdf2:df=.sl (R0 [⟨g0.d,A0 g0.cs,A9 g0.d,g0.tb⟩,⟨g1.d,A0 g1.cs,A9 g1.d,g1.tb⟩]):=by
  rcases hdf with ⟨_,h2⟩|h2
  ·cases h2
  ·exact h2
 have hf0:(Fi.mk g0.d (A0 g0.cs) (A9 g0.d) g0.tb).ok:=F9 _ (by rw[B7];have:=(hfc g0 (by simp)).1;omega) (D3 _) g0.d g0.sld
 have hf1:(Fi.mk g1.d (A0 g1.cs) (A9 g1.d) g1.tb).ok:=F9 _ (by rw[B7];have:=(hfc g1 (by simp)).1;omega) (D3 _) g1.d g1.sld
 have hK:=A4D t.nm dc dk df dx (B2 t.cs) (A0 t.ks) (A9 dc) (A9 dk) (V0 _ (by rw[F4];omega) (I4 _) dc h.dc) (F9 _ (by rw[B7];have:=h.hk;omega) (D3 _) dk h.dk) _ _ hf0 hf1 hdf2 t.xs h.hxb h.hxs h.dx
 have hcl:=F4 t.cs
 rw[show A9 dc=false by rw[hdc];rfl] at hK
 have q0:g0.d=C2 (A9 g0.d) (A0 g0.cs):=(O5 g0.sld).symm
 have q1:g1.d=C2 (A9 g1.d) (A0 g1.cs):=(O5 g1.sld).symm
 have hg:(B2 t.cs)[((i:Nat):Int).toNat]?=some [.str co.nm,eI co.k,.bool co.nl]:=O2 hco
 have hg2:(B2 t.cs)[i]?=some [.str co.nm,eI co.k,.bool co.nl]:=O2 hco
 have hmm:=I4 t.cs
 have hilt:i<(B2 t.cs).length:=by rw[hcl];exact(B3.1 hco).1
 have e1:B2 (t.cs.set i ⟨c.to,co.k,co.nl⟩)=(B2 t.cs).set i [.str c.to,eI co.k,.bool co.nl]:=by unfold B2;rw[W2]
 rw[e1]
 obtain⟨k,nm,to,⟨cn,ck,cl⟩,⟨vk,vn,vs⟩⟩:=c
 dsimp only at hk
 subst hk
 have hF:Bi.Pure Tryz.prog U5 [eT t.nm dc dk df dx,.d (.str nm)] (.d (eI i)):=hF
 rw[show dF t.fs=C2 false (H6 [g0,g1]) by rw[hfs];rfl]
 generalize B2 t.cs=Cs at hK hcl hg hg2 hmm hilt q0 q1 ⊢
 generalize A0 t.ks=Ks at hK hcl hg hg2 hmm hilt q0 q1 ⊢
 generalize xL (t.xs.map (B9 0))=Xs at hK hcl hg hg2 hmm hilt q0 q1 ⊢
 generalize A9 dk=b2 at hK hcl hg hg2 hmm hilt q0 q1 ⊢
 generalize A0 g0.cs=G0 at hK hcl hg hg2 hmm hilt q0 q1 ⊢
 generalize A9 g0.d=n0 at hK hcl hg hg2 hmm hilt q0 q1 ⊢
 generalize A0 g1.cs=G1 at hK hcl hg hg2 hmm hilt q0 q1 ⊢
 generalize A9 g1.d=n1 at hK hcl hg hg2 hmm hilt q0 q1 ⊢
 obtain⟨u0,hu0⟩:∃x,x=g0.tb:=⟨_,rfl⟩
 rw[<- hu0] at hK
 obtain⟨u1,hu1⟩:∃x,x=g1.tb:=⟨_,rfl⟩
 rw[<- hu1] at hK
 refine B5.deepP (Q:=λr os=>r=.tup [.agg [.d (.str t.nm),.arr 5 (Cs.set i [.str to,eI co.k,.bool co.nl]).length,.arr 6 Ks.length,.rs 8 2,.arr 9 Xs.length],.d (eI 0)]/\os[5]?=some (.arr (Cs.set i [.str to,eI co.k,.bool co.nl]) 3 0 false)/\os[6]?=some (.arr Ks 1 0 b2)/\os[8]?=some (.rarr [[.arr 10 G0.length,.d (.str u0)],[.arr 11 G1.length,.d (.str u1)]] 2 false)/\os[9]?=some (.arr Xs 7 0 Xs.isEmpty)/\os[10]?=some (.arr G0 1 0 n0)/\os[11]?=some (.arr G1 1 0 n1)) ?_ ?_
 ·refine V2.goO2 A6 rfl ?_
  rw[U4]
  repeat' first|refine st ?_|((with_reducible first|apply A8|apply A7);(·first|exact hC|exact hF))|((with_reducible first|apply I0|apply D7);(·exact hK);(try rintro _ _ ⟨rfl,rfl⟩))|((with_reducible apply I8);(·exact hK))|((with_reducible apply H8);refine st ?_;(with_reducible apply I5);(·exact rfl);refine st ?_;(with_reducible apply D7);(·exact hK);(try rintro _ _ ⟨rfl,rfl⟩))|(with_reducible first|apply A5|apply A4)<;>intro _
  exact⟨rfl,rfl,rfl,rfl,rfl,rfl,rfl⟩
 ·rintro r os ⟨rfl,hx0,hx1,hx2,hx3,hx4,hx5⟩
  refine V3 (rows:=[[.arr 10 G0.length,.d (.str u0)],[.arr 11 G1.length,.d (.str u1)]]) (fs:=[g0,g1]) (.inl (.inr ⟨5,_,3,0,false,rfl,hx0,rfl⟩)) hx1 hx2 hx3 rfl (λi e g he hg=>?_)
  match i,he,hg with
  |0,he,hg=>cases he;cases hg;exact⟨10,_,n0,by rw[hu0],hx4,q0⟩
  |1,he,hg=>cases he;cases hg;exact⟨11,_,n1,by rw[hu1],hx5,q1⟩
  |i+2,he,hg=>simp at he
theorem C0M(t:Tb)(dc dk df dx:D)(h:M6 t dc dk df dx)(c:Ch)(hc:G7 c)(hq:D2 t c=0)(g0 g1:Fo)(hfs:t.fs=[g0,g1])(hk:c.k=4)(i:Nat)(hi:D6 c.nm t.cs=i)(co:Co)(hco:t.cs[i]?=some co)(hdc:dc=.sl (B2 t.cs)) :
  Pure Tryz.prog R3 [eT t.nm dc dk df dx,c.av] (.tup [eT t.nm (.sl (B2 (t.cs.set i ⟨co.nm,2,co.nl⟩))) (C2 (A9 dk) (A0 t.ks)) (dF t.fs) (C2 (xL (t.xs.map (B9 0))).isEmpty (xL (t.xs.map (B9 0)))),.d (eI 0)]):=by
 have hC:=U3 t dc dk df dx h c hc
 rw[hq] at hC
 have hF:=R8 t.nm t.cs h.hl dc dk df dx h.dc c.nm
 have hl:=h.hl
 have hdf:=h.df
 have hfc:=h.hfc
 rw[hfs] at hdf hfc
 rw[hi] at hF
 have hdf2:df=.sl (R0 [⟨g0.d,A0 g0.cs,A9 g0.d,g0.tb⟩,⟨g1.d,A0 g1.cs,A9 g1.d,g1.tb⟩]):=by
  rcases hdf with ⟨_,h2⟩|h2
  ·cases h2
  ·exact h2
 have hf0:(Fi.mk g0.d (A0 g0.cs) (A9 g0.d) g0.tb).ok:=F9 _ (by rw[B7];have:=(hfc g0 (by simp)).1;omega) (D3 _) g0.d g0.sld
 have hf1:(Fi.mk g1.d (A0 g1.cs) (A9 g1.d) g1.tb).ok:=F9 _ (by rw[B7];have:=(hfc g1 (by simp)).1;omega) (D3 _) g1.d g1.sld
 have hK:=A4D t.nm dc dk df dx (B2 t.cs) (A0 t.ks) (A9 dc) (A9 dk) (V0 _ (by rw[F4];omega) (I4 _) dc h.dc) (F9 _ (by rw[B7];have:=h.hk;omega) (D3 _) dk h.dk) _ _ hf0 hf1 hdf2 t.xs h.hxb h.hxs h.dx
 have hcl:=F4 t.cs
 rw[show A9 dc=false by rw[hdc];rfl] at hK
 have q0:g0.d=C2 (A9 g0.d) (A0 g0.cs):=(O5 g0.sld).symm
 have q1:g1.d=C2 (A9 g1.d) (A0 g1.cs):=(O5 g1.sld).symm
 have hg:(B2 t.cs)[((i:Nat):Int).toNat]?=some [.str co.nm,eI co.k,.bool co.nl]:=O2 hco
 have hg2:(B2 t.cs)[i]?=some [.str co.nm,eI co.k,.bool co.nl]:=O2 hco
 have hmm:=I4 t.cs
 have hilt:i<(B2 t.cs).length:=by rw[hcl];exact(B3.1 hco).1
 have e1:B2 (t.cs.set i ⟨co.nm,2,co.nl⟩)=(B2 t.cs).set i [.str co.nm,eI 2,.bool co.nl]:=by unfold B2;rw[W2]
 rw[e1]
 obtain⟨k,nm,to,⟨cn,ck,cl⟩,⟨vk,vn,vs⟩⟩:=c
 dsimp only at hk
 subst hk
 have hF:Bi.Pure Tryz.prog U5 [eT t.nm dc dk df dx,.d (.str nm)] (.d (eI i)):=hF
 rw[show dF t.fs=C2 false (H6 [g0,g1]) by rw[hfs];rfl]
 generalize B2 t.cs=Cs at hK hcl hg hg2 hmm hilt q0 q1 ⊢
 generalize A0 t.ks=Ks at hK hcl hg hg2 hmm hilt q0 q1 ⊢
 generalize xL (t.xs.map (B9 0))=Xs at hK hcl hg hg2 hmm hilt q0 q1 ⊢
 generalize A9 dk=b2 at hK hcl hg hg2 hmm hilt q0 q1 ⊢
 generalize A0 g0.cs=G0 at hK hcl hg hg2 hmm hilt q0 q1 ⊢
 generalize A9 g0.d=n0 at hK hcl hg hg2 hmm hilt q0 q1 ⊢
 generalize A0 g1.cs=G1 at hK hcl hg hg2 hmm hilt q0 q1 ⊢
 generalize A9 g1.d=n1 at hK hcl hg hg2 hmm hilt q0 q1 ⊢
 obtain⟨u0,hu0⟩:∃x,x=g0.tb:=⟨_,rfl⟩
 rw[<- hu0] at hK
 obtain⟨u1,hu1⟩:∃x,x=g1.tb:=⟨_,rfl⟩
 rw[<- hu1] at hK
 refine B5.deepP (Q:=λr os=>r=.tup [.agg [.d (.str t.nm),.arr 5 (Cs.set i [.str co.nm,eI 2,.bool co.nl]).length,.arr 6 Ks.length,.rs 8 2,.arr 9 Xs.length],.d (eI 0)]/\os[5]?=some (.arr (Cs.set i [.str co.nm,eI 2,.bool co.nl]) 3 0 false)/\os[6]?=some (.arr Ks 1 0 b2)/\os[8]?=some (.rarr [[.arr 10 G0.length,.d (.str u0)],[.arr 11 G1.length,.d (.str u1)]] 2 false)/\os[9]?=some (.arr Xs 7 0 Xs.isEmpty)/\os[10]?=some (.arr G0 1 0 n0)/\os[11]?=some (.arr G1 1 0 n1)) ?_ ?_
 ·refine V2.goO2 A6 rfl ?_
  rw[U4]
  repeat' first|refine st ?_|((with_reducible first|apply A8|apply A7);(·first|exact hC|exact hF))|((with_reducible first|apply I0|apply D7);(·exact hK);(try rintro _ _ ⟨rfl,rfl⟩))|((with_reducible apply I8);(·exact hK))|((with_reducible apply H8);refine st ?_;(with_reducible apply I5);(·exact rfl);refine st ?_;(with_reducible apply D7);(·exact hK);(try rintro _ _ ⟨rfl,rfl⟩))|(with_reducible first|apply A5|apply A4)<;>intro _
  exact⟨rfl,rfl,rfl,rfl,rfl,rfl,rfl⟩
 ·rintro r os ⟨rfl,hx0,hx1,hx2,hx3,hx4,hx5⟩
  refine V3 (rows:=[[.arr 10 G0.length,.d (.str u0)],[.arr 11 G1.length,.d (.str u1)]]) (fs:=[g0,g1]) (.inl (.inr ⟨5,_,3,0,false,rfl,hx0,rfl⟩)) hx1 hx2 hx3 rfl (λi e g he hg=>?_)
  match i,he,hg with
  |0,he,hg=>cases he;cases hg;exact⟨10,_,n0,by rw[hu0],hx4,q0⟩
  |1,he,hg=>cases he;cases hg;exact⟨11,_,n1,by rw[hu1],hx5,q1⟩
  |i+2,he,hg=>simp at he
theorem C0K(t:Tb)(dc dk df dx:D)(h:M6 t dc dk df dx)(c:Ch)(hc:G7 c)(hq:D2 t c=0)(g0 g1:Fo)(hfs:t.fs=[g0,g1])(hk:c.k=2)(i:Nat)(hi:D6 c.nm t.cs=i)(hil:i<t.cs.length)(hdc:dc=.sl (B2 t.cs))(hkb:∀k∈t.ks,0<=k/\k<=1048576)(hfb:∀g∈t.fs,∀k∈g.cs,0<=k/\k<=1048576)(hxb:∀e∈t.xs.map (B9 0),e.bk<=1048576) :
  Pure Tryz.prog R3 [eT t.nm dc dk df dx,c.av] (.tup [eT t.nm (.sl (B2 (t.cs.eraseIdx i))) (C2 (A9 dk) (A0 (t.ks.map λc=>B0 c i))) (dF (t.fs.map (H9 i))) (C2 (xL (t.xs.map (B9 0))).isEmpty (xL ((t.xs.map (B9 0)).map (E3 (H7 t.cs.length i))))),.d (eI 0)]):=by
 have hC:=U3 t dc dk df dx h c hc
 rw[hq] at hC
 have hF:=R8 t.nm t.cs h.hl dc dk df dx h.dc c.nm
 have hl:=h.hl
 have hdf:=h.df
 have hfc:=h.hfc
 rw[hfs] at hdf hfc
 rw[hi] at hF
 have hdf2:df=.sl (R0 [⟨g0.d,A0 g0.cs,A9 g0.d,g0.tb⟩,⟨g1.d,A0 g1.cs,A9 g1.d,g1.tb⟩]):=by
  rcases hdf with ⟨_,h2⟩|h2
  ·cases h2
  ·exact h2
 have hf0:(Fi.mk g0.d (A0 g0.cs) (A9 g0.d) g0.tb).ok:=F9 _ (by rw[B7];have:=(hfc g0 (by simp)).1;omega) (D3 _) g0.d g0.sld
 have hf1:(Fi.mk g1.d (A0 g1.cs) (A9 g1.d) g1.tb).ok:=F9 _ (by rw[B7];have:=(hfc g1 (by simp)).1;omega) (D3 _) g1.d g1.sld
 have hK:=A4D t.nm dc dk df dx (B2 t.cs) (A0 t.ks) (A9 dc) (A9 dk) (V0 _ (by rw[F4];omega) (I4 _) dc h.dc) (F9 _ (by rw[B7];have:=h.hk;omega) (D3 _) dk h.dk) _ _ hf0 hf1 hdf2 t.xs h.hxb h.hxs h.dx
 have hcl:=F4 t.cs
 rw[show A9 dc=false by rw[hdc];rfl] at hK
 have hkN:A9 dk=true->t.ks=[]:=λhh=>by
  have:=l4 h.dk hh
  cases hks:t.ks with
  |nil=>rfl
  |cons a l=>rw[hks] at this;cases this
 have hxN:(xL (t.xs.map (B9 0))).isEmpty=true->t.xs.map (B9 0)=[]:=by
  intro hh
  cases hx:t.xs.map (B9 0) with
  |nil=>rfl
  |cons a l=>rw[hx] at hh;cases hh
 have hN0:A9 g0.d=true->g0.cs=[]:=λhh=>by
  have:=l4 g0.sld hh
  cases hks:g0.cs with
  |nil=>rfl
  |cons a l=>rw[hks] at this;cases this
 have hB0:=hfb g0 (by rw[hfs];simp)
 have hN1:A9 g1.d=true->g1.cs=[]:=λhh=>by
  have:=l4 g1.sld hh
  cases hks:g1.cs with
  |nil=>rfl
  |cons a l=>rw[hks] at this;cases this
 have hB1:=hfb g1 (by rw[hfs];simp)
 have hD:=λT0 T1 T2 T3 T4 T7=>C16 T0 T1 T2 T3 T4 T7 t.nm (B2 t.cs) (I4 _) i (by rw[hcl];exact hil) (by rw[hcl];exact hl) t.ks hkb h.hk (A9 dk) hkN (t.xs.map (B9 0)) (by rw[D5];exact h.hxs) hxb _ hxN g0.cs (A9 g0.d) g0.tb (hfc g0 (by simp)).1 hB0 hN0 g1.cs (A9 g1.d) g1.tb (hfc g1 (by simp)).1 hB1 hN1
 rw[hcl] at hD
 have hkl2:(A0 (t.ks.map λc=>B0 c i)).length=(A0 t.ks).length:=by rw[B7,B7,D5]
 have hxl2:(xL ((t.xs.map (B9 0)).map (E3 (H7 t.cs.length i)))).length=(xL (t.xs.map (B9 0))).length:=by rw[I6,I6,D5]
 have hkl20:(A0 (g0.cs.map λc=>B0 c i)).length=(A0 g0.cs).length:=by rw[B7,B7,D5]
 have hkl21:(A0 (g1.cs.map λc=>B0 c i)).length=(A0 g1.cs).length:=by rw[B7,B7,D5]
 have q0:(H9 i g0).d=C2 (A9 g0.d) (A0 (g0.cs.map λc=>B0 c i)):=A13 i g0
 have q1:(H9 i g1).d=C2 (A9 g1.d) (A0 (g1.cs.map λc=>B0 c i)):=A13 i g1
 have e1:B2 (t.cs.eraseIdx i)=(B2 t.cs).eraseIdx i:=A3Z _ _
 rw[e1]
 obtain⟨k,nm,to,⟨cn,ck,cl⟩,⟨vk,vn,vs⟩⟩:=c
 dsimp only at hk
 subst hk
 have hF:Bi.Pure Tryz.prog U5 [eT t.nm dc dk df dx,.d (.str nm)] (.d (eI i)):=hF
 rw[show dF (t.fs.map (H9 i))=C2 false (H6 [H9 i g0,H9 i g1]) by rw[hfs];rfl]
 rw[hcl] at hK
 generalize A0 (t.ks.map λc=>B0 c i)=K2 at hK hcl hkl2 hxl2 hkl20 hkl21 q0 q1 hD ⊢
 generalize xL ((t.xs.map (B9 0)).map (E3 (H7 t.cs.length i)))=X2 at hK hcl hkl2 hxl2 hkl20 hkl21 q0 q1 hD ⊢
 generalize (B2 t.cs).eraseIdx i=E2 at hK hcl hkl2 hxl2 hkl20 hkl21 q0 q1 hD ⊢
 generalize A0 (g0.cs.map λc=>B0 c i)=H0 at hK hcl hkl2 hxl2 hkl20 hkl21 q0 q1 hD ⊢
 generalize A0 (g1.cs.map λc=>B0 c i)=H1 at hK hcl hkl2 hxl2 hkl20 hkl21 q0 q1 hD ⊢
 generalize B2 t.cs=Cs at hK hcl hkl2 hxl2 hkl20 hkl21 q0 q1 hD ⊢
 generalize A0 t.ks=Ks at hK hcl hkl2 hxl2 hkl20 hkl21 q0 q1 hD ⊢
 generalize xL (t.xs.map (B9 0))=Xs at hK hcl hkl2 hxl2 hkl20 hkl21 q0 q1 hD ⊢
 generalize A9 dk=b2 at hK hcl hkl2 hxl2 hkl20 hkl21 q0 q1 hD ⊢
 generalize A0 g0.cs=G0 at hK hcl hkl2 hxl2 hkl20 hkl21 q0 q1 hD ⊢
 generalize A9 g0.d=n0 at hK hcl hkl2 hxl2 hkl20 hkl21 q0 q1 hD ⊢
 generalize A0 g1.cs=G1 at hK hcl hkl2 hxl2 hkl20 hkl21 q0 q1 hD ⊢
 generalize A9 g1.d=n1 at hK hcl hkl2 hxl2 hkl20 hkl21 q0 q1 hD ⊢
 obtain⟨u0,hu0⟩:∃x,x=g0.tb:=⟨_,rfl⟩
 rw[<- hu0] at hK
 simp only[<- hu0] at hD
 obtain⟨u1,hu1⟩:∃x,x=g1.tb:=⟨_,rfl⟩
 rw[<- hu1] at hK
 simp only[<- hu1] at hD
 refine B5.deepP (Q:=λr os=>r=.tup [.agg [.d (.str t.nm),.d (.sl E2),.arr 6 K2.length,.rs 8 2,.arr 9 X2.length],.d (eI 0)]/\os[6]?=some (.arr K2 1 0 b2)/\os[8]?=some (.rarr [[.arr 10 H0.length,.d (.str u0)],[.arr 11 H1.length,.d (.str u1)]] 2 false)/\os[9]?=some (.arr X2 7 0 Xs.isEmpty)/\os[10]?=some (.arr H0 1 0 n0)/\os[11]?=some (.arr H1 1 0 n1)) ?_ ?_
 ·rw[hkl2,hxl2]
  rw[hkl20,hkl21]
  refine V2.goO2 A6 rfl ?_
  repeat' first|refine st ?_|((with_reducible first|apply A8|apply A7);(·first|exact hC|exact hF))|((with_reducible first|apply I0|apply D7);(·first|exact hK|exact hD _ _ _ _ _ _);(try rintro _ _ ⟨rfl,rfl⟩))|((with_reducible apply I8);(·first|exact hK|exact hD _ _ _ _ _ _))|((with_reducible apply H8);refine st ?_;(with_reducible apply I5);(·exact rfl);refine st ?_;(with_reducible apply D7);(·first|exact hK|exact hD _ _ _ _ _ _);(try rintro _ _ ⟨rfl,rfl⟩))|(with_reducible first|apply A5|apply A4)<;>intro _
  exact⟨rfl,rfl,rfl,rfl,rfl,rfl⟩
 ·rintro r os ⟨rfl,hx0,hx1,hx2,hx3,hx4⟩
  refine V3 (rows:=[[.arr 10 H0.length,.d (.str u0)],[.arr 11 H1.length,.d (.str u1)]]) (fs:=[H9 i g0,H9 i g1]) (.inl (.inl rfl)) hx0 hx1 hx2 rfl (λi e g he hg=>?_)
  match i,he,hg with
  |0,he,hg=>cases he;cases hg;exact⟨10,_,n0,by rw[hu0];rfl,hx3,q0⟩
  |1,he,hg=>cases he;cases hg;exact⟨11,_,n1,by rw[hu1];rfl,hx4,q1⟩
  |i+2,he,hg=>simp at he
end Go.Proofs
end
section
set_option maxHeartbeats 8000000
namespace Go.Proofs
open Go.Bi
theorem C17(nm:List UInt8)(es:List (List D))(hm:∀e∈es,e.length=3)(i:Nat)(hi:i<es.length)(hel:es.length<=1048576)(ks:List Int)(hkb:∀k∈ks,0<=k/\k<=1048576)(hkl:ks.length<=1048576)(kn:Bool)(hkn:kn=true->ks=[])(xs:List Ex)(hxl:xs.length<=1048576)(hxb:∀e∈xs,e.bk<=1048576)(xn:Bool)(hxn:xn=true->xs=[])(c0:List Int)(b0:Bool)(t0:List UInt8)(hc0:c0.length<=1048576)(hcb0:∀k∈c0,0<=k/\k<=1048576)(hn0:b0=true->c0=[])(c1:List Int)(b1:Bool)(t1:List UInt8)(hc1:c1.length<=1048576)(hcb1:∀k∈c1,0<=k/\k<=1048576)(hn1:b1=true->c1=[])(c2:List Int)(b2:Bool)(t2:List UInt8)(hc2:c2.length<=1048576)(hcb2:∀k∈c2,0<=k/\k<=1048576)(hn2:b2=true->c2=[]) :
  B5 Tryz.prog A0s [.ptr 0 0,.d (eI i)] [.cells [.d (.str nm),.arr 1 es.length,.arr 2 (A0 ks).length,.rs 3 3,.arr 4 (xL xs).length],.arr es 3 0 false,.arr (A0 ks) 1 0 kn,.rarr [[.arr 5 (A0 c0).length,.d (.str t0)],[.arr 6 (A0 c1).length,.d (.str t1)],[.arr 7 (A0 c2).length,.d (.str t2)]] 2 false,.arr (xL xs) 7 0 xn,.arr (A0 c0) 1 0 b0,.arr (A0 c1) 1 0 b1,.arr (A0 c2) 1 0 b2]
   (λr os=>r=.tup []/\os=[.cells [.d (.str nm),.d (.sl (es.eraseIdx i)),.arr 2 (A0 ks).length,.rs 3 3,.arr 4 (xL xs).length],.arr (es.eraseIdx i++[L4]) 3 (es.length-1) false,.arr (A0 (ks.map λc=>B0 c i)) 1 0 kn,.rarr [[.arr 5 (A0 c0).length,.d (.str t0)],[.arr 6 (A0 c1).length,.d (.str t1)],[.arr 7 (A0 c2).length,.d (.str t2)]] 2 false,.arr (xL (xs.map (E3 (H7 es.length i)))) 7 0 xn,.arr (A0 (c0.map λc=>B0 c i)) 1 0 b0,.arr (A0 (c1.map λc=>B0 c i)) 1 0 b1,.arr (A0 (c2.map λc=>B0 c i)) 1 0 b2]):=by
 have hD:=fun {os:List AO} (ho:os[1]?=some (.arr es 3 0 false))=>A4N es hm i hi ho
 refine A4Q.goX A6 rfl ?_
 repeat' first|refine st ?_|(with_reducible first|apply A5|apply A4)<;>intro _
 refine A1t 4 7 rfl rfl ?_
 repeat' first|refine st ?_|(with_reducible first|apply A5|apply A4)<;>intro _
 refine J1 A6 A51 A4W (λ(k:Nat) (A:List (List D))=>[.arr 8 A.length,.d (eI k)]) (λk A=>[.cells [.d (.str nm),.arr 1 es.length,.arr 2 (A0 ks).length,.rs 3 3,.arr 4 (xL xs).length],.arr es 3 0 false,.arr (A0 ks) 1 0 kn,.rarr [[.arr 5 (A0 c0).length,.d (.str t0)],[.arr 6 (A0 c1).length,.d (.str t1)],[.arr 7 (A0 c2).length,.d (.str t2)]] 2 false,.arr (xL xs) 7 0 xn,.arr (A0 c0) 1 0 b0,.arr (A0 c1) 1 0 b1,.arr (A0 c2) 1 0 b2,.arr A 7 0 A.isEmpty]) (λk A=>k<=es.length/\A=xL (H7 k i)) (λk A=>es.length-k) 0 [] rfl rfl rfl rfl (λ_ _ _=>⟨rfl,rfl⟩) rfl ⟨by omega,by simp[H7,xL]⟩ ?_
 repeat' first|refine st ?_|(with_reducible first|apply A5|apply A4)<;>intro _
 intro k A ⟨h4,h5⟩
 have hAl:A.length=k:=by rw[h5,I6,A0N]
 have hAm:∀e∈A,e.length=7:=by rw[h5];exact O7 _
 by_cases hlt:k<es.length
 ·have hB:=V1 k i (by omega) (by omega)
  have hs:=A5X k i
  rw[<- h5] at hs
  obtain⟨b,hb⟩:∃b,b=B0 k i:=⟨_,rfl⟩
  rw[<- hb] at hB hs
  clear h5
  repeat' first|refine st ?_|((with_reducible first|apply A8|apply A7);(·exact hB))|(with_reducible first|apply A5|apply A4)<;>intro _
  refine⟨k+1,A++[[.int .i64 2,eI b,.int .i64 0,.int .i64 0,.str [],.str [],.nil]],?_,rfl,?_,by omega,by omega,hs⟩
  ·rfl
  ·rw[show(A++[[.int .i64 2,eI b,.int .i64 0,.int .i64 0,.str [],.str [],.nil]]).isEmpty=false by simp]
   first|rfl|skip
 ·have hke:k=es.length:=by omega
  rw[hke] at h5
  have hDc:=hD (os:=[.cells [.d (.str nm),.arr 1 es.length,.arr 2 (A0 ks).length,.rs 3 3,.arr 4 (xL xs).length],.arr es 3 0 false,.arr (A0 ks) 1 0 kn,.rarr [[.arr 5 (A0 c0).length,.d (.str t0)],[.arr 6 (A0 c1).length,.d (.str t1)],[.arr 7 (A0 c2).length,.d (.str t2)]] 2 false,.arr (xL xs) 7 0 xn,.arr (A0 c0) 1 0 b0,.arr (A0 c1) 1 0 b1,.arr (A0 c2) 1 0 b2,.arr A 7 0 A.isEmpty]) rfl
  obtain⟨es',hes'⟩:∃e,e=es.eraseIdx i:=⟨_,rfl⟩
  rw[<- hes'] at hDc ⊢
  obtain⟨M0,hM0⟩:∃L,L=H7 es.length i:=⟨_,rfl⟩
  have hMl:M0.length<=1048576:=by rw[hM0,A0N];exact hel
  rw[<- hM0] at h5 ⊢
  obtain⟨N0,hN0⟩:∃K,K=A0 (c0.map λc=>B0 c i):=⟨_,rfl⟩
  obtain⟨N1,hN1⟩:∃K,K=A0 (c1.map λc=>B0 c i):=⟨_,rfl⟩
  obtain⟨N2,hN2⟩:∃K,K=A0 (c2.map λc=>B0 c i):=⟨_,rfl⟩
  rw[<- hN0,<- hN1,<- hN2]
  repeat' first|(with_reducible apply H8)|refine st ?_|((with_reducible first|apply I0|apply D7);(·exact hDc);(try rintro _ _ ⟨rfl,rfl⟩))|((with_reducible apply I8);(·exact hDc))|((with_reducible apply H8);refine st ?_;(with_reducible apply I5);(·exact rfl);refine st ?_;(with_reducible apply D7);(·exact hDc);(try rintro _ _ ⟨rfl,rfl⟩))|(with_reducible first|apply A5|apply A4)<;>intro _
  refine F7 A6 A52 A4X (λ(j:Nat)=>[.d (eI j)]) (λj=>[.cells [.d (.str nm),.d (.sl es'),.arr 2 (A0 ks).length,.rs 3 3,.arr 4 (xL xs).length],.arr (es'++[L4]) 3 (es.length-1) false,.arr (A0 (D4 ks (λc=>B0 c i) j)) 1 0 kn,.rarr [[.arr 5 (A0 c0).length,.d (.str t0)],[.arr 6 (A0 c1).length,.d (.str t1)],[.arr 7 (A0 c2).length,.d (.str t2)]] 2 false,.arr (xL xs) 7 0 xn,.arr (A0 c0) 1 0 b0,.arr (A0 c1) 1 0 b1,.arr (A0 c2) 1 0 b2,.arr A 7 0 A.isEmpty]) (λj=>j<=ks.length) (λj=>ks.length-j) 0 rfl rfl rfl (by rw[o5];rfl) (λ_ _=>⟨rfl,rfl⟩) rfl (by omega) ?_
  repeat' first|refine st ?_|(with_reducible first|apply A5|apply A4)<;>intro _
  intro j h6
  have hKl:=o3 ks (λc=>B0 c i) j h6
  cases hy:ks[j]? with
  |some c=>
   obtain⟨hlt2,he2⟩:=B3.1 hy
   have hkf:kn=false:=by
    cases kn with
    |false=>rfl
    |true=>rw[hkn rfl] at hlt2;simp at hlt2
   subst hkf
   have hg:=N4 (n9 (λc=>B0 c i) hy)
   have hset:=o4 (λc=>B0 c i) hy
   obtain⟨cb1,cb2⟩:=hkb c (C4 hy)
   have hB:=V1 c i (by omega) (by omega)
   have hks:=B7 ks
   obtain⟨y,hyy⟩:∃y,y=B0 c i:=⟨_,rfl⟩
   rw[<- hyy] at hB hset
   have hset2:(A0 (D4 ks (λc=>B0 c i) j)).set j [eI y]=A0 (D4 ks (λc=>B0 c i) (j+1)):=by rw[m8,hset]
   have hml:=B7 (D4 ks (λc=>B0 c i) j)
   have hmm2:=D3 (D4 ks (λc=>B0 c i) j)
   obtain⟨X,hX⟩:∃X,X=A0 (D4 ks (λc=>B0 c i) j):=⟨_,rfl⟩
   rw[<- hX] at hg hset2 hml hmm2 ⊢
   repeat' first|refine st ?_|((with_reducible first|apply A8|apply A7);(·exact hB))|(with_reducible first|apply A5|apply A4)<;>intro _
   refine⟨j+1,rfl,rfl,?_,by omega,by omega⟩
   rw[show((j:Int)).toNat=j from G8 j,hset2]
  |none=>
   have hge:=D8.1 hy
   have hjk:j=ks.length:=by omega
   subst hjk
   rw[n8]
   have hks:=B7 ks
   obtain⟨K',hK'⟩:∃K,K=A0 (ks.map λc=>B0 c i):=⟨_,rfl⟩
   rw[<- hK']
   repeat' first|refine st ?_|(with_reducible first|apply A5|apply A4)<;>intro _
   refine A1u 4 ?_
   refine P8 A6 ?_
   repeat' first|refine st ?_|(with_reducible first|apply A5|apply A4)<;>intro _
   refine F7 A6 A0Z A0Y (λ(j:Nat)=>[.d (eI j)]) (λj=>[.cells [.d (.str nm),.d (.sl es'),.arr 2 (A0 ks).length,.rs 3 3,.arr 4 (xL xs).length],.arr (es'++[L4]) 3 (es.length-1) false,.arr K' 1 0 kn,.rarr [[.arr 5 (A0 c0).length,.d (.str t0)],[.arr 6 (A0 c1).length,.d (.str t1)],[.arr 7 (A0 c2).length,.d (.str t2)]] 2 false,.arr (xL xs) 7 0 xn,.arr (A0 (D4 c0 (λc=>B0 c i) j)) 1 0 b0,.arr (A0 c1) 1 0 b1,.arr (A0 c2) 1 0 b2,.arr A 7 0 A.isEmpty,.cells [.arr 5 (A0 c0).length,.d (.str t0)]]) (λj=>j<=c0.length) (λj=>c0.length-j) 0 rfl rfl rfl (by rw[o5];rfl) (λ_ _=>⟨rfl,rfl⟩) rfl (by omega) ?_
   repeat' first|refine st ?_|(with_reducible first|apply A5|apply A4)<;>intro _
   intro j h6
   have hKl:=o3 c0 (λc=>B0 c i) j h6
   cases hy:c0[j]? with
   |some c=>
    obtain⟨hlt2,he2⟩:=B3.1 hy
    have hkf:b0=false:=by
     cases b0 with
     |false=>rfl
     |true=>rw[hn0 rfl] at hlt2;simp at hlt2
    subst hkf
    have hg:=N4 (n9 (λc=>B0 c i) hy)
    have hset:=o4 (λc=>B0 c i) hy
    obtain⟨cb1,cb2⟩:=hcb0 c (C4 hy)
    have hB:=V1 c i (by omega) (by omega)
    have hks:=B7 c0
    obtain⟨y,hyy⟩:∃y,y=B0 c i:=⟨_,rfl⟩
    rw[<- hyy] at hB hset
    have hset2:(A0 (D4 c0 (λc=>B0 c i) j)).set j [eI y]=A0 (D4 c0 (λc=>B0 c i) (j+1)):=by rw[m8,hset]
    have hml:=B7 (D4 c0 (λc=>B0 c i) j)
    have hmm2:=D3 (D4 c0 (λc=>B0 c i) j)
    obtain⟨X,hX⟩:∃X,X=A0 (D4 c0 (λc=>B0 c i) j):=⟨_,rfl⟩
    rw[<- hX] at hg hset2 hml hmm2 ⊢
    repeat' first|refine st ?_|((with_reducible first|apply A8|apply A7);(·exact hB))|(with_reducible first|apply A5|apply A4)<;>intro _
    refine⟨j+1,rfl,rfl,?_,by omega,by omega⟩
    rw[show((j:Int)).toNat=j from G8 j,hset2]
   |none=>
    have hge:=D8.1 hy
    have hjk:j=c0.length:=by omega
    subst hjk
    rw[n8]
    have hks:=B7 c0
    rw[<- hN0]
    repeat' first|refine st ?_|(with_reducible first|apply A5|apply A4)<;>intro _
    refine P8 A6 ?_
    repeat' first|refine st ?_|(with_reducible first|apply A5|apply A4)<;>intro _
    refine F7 A6 A0Z A0Y (λ(j:Nat)=>[.d (eI j)]) (λj=>[.cells [.d (.str nm),.d (.sl es'),.arr 2 (A0 ks).length,.rs 3 3,.arr 4 (xL xs).length],.arr (es'++[L4]) 3 (es.length-1) false,.arr K' 1 0 kn,.rarr [[.arr 5 (A0 c0).length,.d (.str t0)],[.arr 6 (A0 c1).length,.d (.str t1)],[.arr 7 (A0 c2).length,.d (.str t2)]] 2 false,.arr (xL xs) 7 0 xn,.arr N0 1 0 b0,.arr (A0 (D4 c1 (λc=>B0 c i) j)) 1 0 b1,.arr (A0 c2) 1 0 b2,.arr A 7 0 A.isEmpty,.cells [.arr 5 (A0 c0).length,.d (.str t0)],.cells [.arr 6 (A0 c1).length,.d (.str t1)]]) (λj=>j<=c1.length) (λj=>c1.length-j) 0 rfl rfl rfl (by rw[o5];rfl) (λ_ _=>⟨rfl,rfl⟩) rfl (by omega) ?_
    repeat' first|refine st ?_|(with_reducible first|apply A5|apply A4)<;>intro _
    intro j h6
    have hKl:=o3 c1 (λc=>B0 c i) j h6
    cases hy:c1[j]? with
    |some c=>
     obtain⟨hlt2,he2⟩:=B3.1 hy
     have hkf:b1=false:=by
      cases b1 with
      |false=>rfl
      |true=>rw[hn1 rfl] at hlt2;simp at hlt2
     subst hkf
     have hg:=N4 (n9 (λc=>B0 c i) hy)
     have hset:=o4 (λc=>B0 c i) hy
     obtain⟨cb1,cb2⟩:=hcb1 c (C4 hy)
     have hB:=V1 c i (by omega) (by omega)
     have hks:=B7 c1
     obtain⟨y,hyy⟩:∃y,y=B0 c i:=⟨_,rfl⟩
     rw[<- hyy] at hB hset
     have hset2:(A0 (D4 c1 (λc=>B0 c i) j)).set j [eI y]=A0 (D4 c1 (λc=>B0 c i) (j+1)):=by rw[m8,hset]
     have hml:=B7 (D4 c1 (λc=>B0 c i) j)
     have hmm2:=D3 (D4 c1 (λc=>B0 c i) j)
     obtain⟨X,hX⟩:∃X,X=A0 (D4 c1 (λc=>B0 c i) j):=⟨_,rfl⟩
     rw[<- hX] at hg hset2 hml hmm2 ⊢
     repeat' first|refine st ?_|((with_reducible first|apply A8|apply A7);(·exact hB))|(with_reducible first|apply A5|apply A4)<;>intro _
     refine⟨j+1,rfl,rfl,?_,by omega,by omega⟩
     rw[show((j:Int)).toNat=j from G8 j,hset2]
    |none=>
     have hge:=D8.1 hy
     have hjk:j=c1.length:=by omega
     subst hjk
     rw[n8]
     have hks:=B7 c1
     rw[<- hN1]
     repeat' first|refine st ?_|(with_reducible first|apply A5|apply A4)<;>intro _
     refine P8 A6 ?_
     repeat' first|refine st ?_|(with_reducible first|apply A5|apply A4)<;>intro _
     refine F7 A6 A0Z A0Y (λ(j:Nat)=>[.d (eI j)]) (λj=>[.cells [.d (.str nm),.d (.sl es'),.arr 2 (A0 ks).length,.rs 3 3,.arr 4 (xL xs).length],.arr (es'++[L4]) 3 (es.length-1) false,.arr K' 1 0 kn,.rarr [[.arr 5 (A0 c0).length,.d (.str t0)],[.arr 6 (A0 c1).length,.d (.str t1)],[.arr 7 (A0 c2).length,.d (.str t2)]] 2 false,.arr (xL xs) 7 0 xn,.arr N0 1 0 b0,.arr N1 1 0 b1,.arr (A0 (D4 c2 (λc=>B0 c i) j)) 1 0 b2,.arr A 7 0 A.isEmpty,.cells [.arr 5 (A0 c0).length,.d (.str t0)],.cells [.arr 6 (A0 c1).length,.d (.str t1)],.cells [.arr 7 (A0 c2).length,.d (.str t2)]]) (λj=>j<=c2.length) (λj=>c2.length-j) 0 rfl rfl rfl (by rw[o5];rfl) (λ_ _=>⟨rfl,rfl⟩) rfl (by omega) ?_
     repeat' first|refine st ?_|(with_reducible first|apply A5|apply A4)<;>intro _
     intro j h6
     have hKl:=o3 c2 (λc=>B0 c i) j h6
     cases hy:c2[j]? with
     |some c=>
      obtain⟨hlt2,he2⟩:=B3.1 hy
      have hkf:b2=false:=by
       cases b2 with
       |false=>rfl
       |true=>rw[hn2 rfl] at hlt2;simp at hlt2
      subst hkf
      have hg:=N4 (n9 (λc=>B0 c i) hy)
      have hset:=o4 (λc=>B0 c i) hy
      obtain⟨cb1,cb2⟩:=hcb2 c (C4 hy)
      have hB:=V1 c i (by omega) (by omega)
      have hks:=B7 c2
      obtain⟨y,hyy⟩:∃y,y=B0 c i:=⟨_,rfl⟩
      rw[<- hyy] at hB hset
      have hset2:(A0 (D4 c2 (λc=>B0 c i) j)).set j [eI y]=A0 (D4 c2 (λc=>B0 c i) (j+1)):=by rw[m8,hset]
      have hml:=B7 (D4 c2 (λc=>B0 c i) j)
      have hmm2:=D3 (D4 c2 (λc=>B0 c i) j)
      obtain⟨X,hX⟩:∃X,X=A0 (D4 c2 (λc=>B0 c i) j):=⟨_,rfl⟩
      rw[<- hX] at hg hset2 hml hmm2 ⊢
      repeat' first|refine st ?_|((with_reducible first|apply A8|apply A7);(·exact hB))|(with_reducible first|apply A5|apply A4)<;>intro _
      refine⟨j+1,rfl,rfl,?_,by omega,by omega⟩
      rw[show((j:Int)).toNat=j from G8 j,hset2]
     |none=>
      have hge:=D8.1 hy
      have hjk:j=c2.length:=by omega
      subst hjk
      rw[n8]
      have hks:=B7 c2
      rw[<- hN2]
      repeat' first|refine st ?_|(with_reducible first|apply A5|apply A4)<;>intro _
      refine P8 A6 ?_
      repeat' first|refine st ?_|(with_reducible first|apply A5|apply A4)<;>intro _
      have hAe:A.isEmpty=false:=by cases A with
       |nil=>simp at hAl;omega
       |cons a l=>rfl
      rw[hAe]
      have hXl:=I6 xs
      refine A2A 4 (id:=8) (len:=A.length) (sz:=7) (frz:=0) (nl:=false) (es:=A) rfl rfl rfl ?_
      rw[if_neg (by decide:¬(false=true))]
      repeat' first|refine st ?_|(with_reducible first|apply A5|apply A4)<;>intro _
      refine F7 A6 A53 A4Y (λ(q:Nat)=>[.d (eI q)]) (λq=>[.cells [.d (.str nm),.d (.sl es'),.arr 2 (A0 ks).length,.rs 3 3,.arr 4 (xL xs).length],.arr (es'++[L4]) 3 (es.length-1) false,.arr K' 1 0 kn,.rarr [[.arr 5 (A0 c0).length,.d (.str t0)],[.arr 6 (A0 c1).length,.d (.str t1)],[.arr 7 (A0 c2).length,.d (.str t2)]] 2 false,.arr (xL (L0 xs (E3 M0) q)) 7 0 xn,.arr N0 1 0 b0,.arr N1 1 0 b1,.arr N2 1 0 b2,.arr A 7 A.length false,.cells [.arr 5 (A0 c0).length,.d (.str t0)],.cells [.arr 6 (A0 c1).length,.d (.str t1)],.cells [.arr 7 (A0 c2).length,.d (.str t2)]]) (λq=>q<=xs.length) (λq=>xs.length-q) 0 rfl rfl rfl (by rw[A5V];rfl) (λ_ _=>⟨rfl,rfl⟩) rfl (by omega) ?_
      repeat' first|refine st ?_|(with_reducible first|apply A5|apply A4)<;>intro _
      intro q h7
      have hMb:∀a∈M0,a.bk<=1048576:=by
       intro a ha
       rw[hM0] at ha
       obtain⟨b,_,rfl⟩:=F1.1 ha
       unfold mvE Ex.bk
       rw[Ex.ds_mk]
       exact P3 rfl
      have hXql:=A5T xs (E3 M0) q h7
      cases hx:xs[q]? with
      |some x=>
       obtain⟨hlt3,he3⟩:=B3.1 hx
       have hxf:xn=false:=by
        cases xn with
        |false=>rfl
        |true=>rw[hxn rfl] at hlt3;simp at hlt3
       subst hxf
       have hg:=A5S (E3 M0) hx
       have hset:=A5U (E3 M0) hx
       have hS:=A4H M0 hMl hMb (.sl A) (by rw[h5];exact O6) x (hxb x (C4 hx))
       have hq1:=I6 (L0 xs (E3 M0) q)
       have hq2:=O7 (L0 xs (E3 M0) q)
       obtain⟨z,hz⟩:∃z,z=E3 M0 x:=⟨_,rfl⟩
       rw[<- hz] at hS hset
       have hset2:(xL (L0 xs (E3 M0) q)).set q z.ds=xL (L0 xs (E3 M0) (q+1)):=by rw[<- hset];unfold xL;rw[W2]
       obtain⟨o1,n1,v1,m1,l1,a1⟩:=x
       obtain⟨o2,n2,v2,m2,l2,a2⟩:=z
       have hg:=m4 _ _ _ _ _ _ _ hg
       rw[Ex.av_mk,Ex.av_mk] at hS
       rw[Ex.ds_mk] at hset2
       obtain⟨X,hX⟩:∃X,X=xL (L0 xs (E3 M0) q):=⟨_,rfl⟩
       rw[<- hX] at hg hset2 hq1 hq2 ⊢
       repeat' first|refine st ?_|((with_reducible first|apply A8|apply A7);(·exact hS))|(with_reducible first|apply A5|apply A4)<;>intro _
       refine⟨q+1,rfl,rfl,?_,by omega,by omega⟩
       rw[show((q:Int)).toNat=q from G8 q,hset2]
      |none=>
       have hge:=D8.1 hx
       have hqk:q=xs.length:=by omega
       subst hqk
       rw[A5R]
       repeat' first|refine st ?_|(with_reducible first|apply A5|apply A4)<;>intro _
       exact⟨rfl,rfl⟩
theorem C18(T0 T1 T2 T3 T4 T7:AO)(nm:List UInt8)(es:List (List D))(hm:∀e∈es,e.length=3)(i:Nat)(hi:i<es.length)(hel:es.length<=1048576)(ks:List Int)(hkb:∀k∈ks,0<=k/\k<=1048576)(hkl:ks.length<=1048576)(kn:Bool)(hkn:kn=true->ks=[])(xs:List Ex)(hxl:xs.length<=1048576)(hxb:∀e∈xs,e.bk<=1048576)(xn:Bool)(hxn:xn=true->xs=[])(c0:List Int)(b0:Bool)(t0:List UInt8)(hc0:c0.length<=1048576)(hcb0:∀k∈c0,0<=k/\k<=1048576)(hn0:b0=true->c0=[])(c1:List Int)(b1:Bool)(t1:List UInt8)(hc1:c1.length<=1048576)(hcb1:∀k∈c1,0<=k/\k<=1048576)(hn1:b1=true->c1=[])(c2:List Int)(b2:Bool)(t2:List UInt8)(hc2:c2.length<=1048576)(hcb2:∀k∈c2,0<=k/\k<=1048576)(hn2:b2=true->c2=[]) :
  B5 Tryz.prog A0s [.ptr 13 0,.d (eI i)] [T0,T1,T2,T3,T4,.arr es 3 0 false,.arr (A0 ks) 1 0 kn,T7,.rarr [[.arr 10 (A0 c0).length,.d (.str t0)],[.arr 11 (A0 c1).length,.d (.str t1)],[.arr 12 (A0 c2).length,.d (.str t2)]] 2 false,.arr (xL xs) 7 0 xn,.arr (A0 c0) 1 0 b0,.arr (A0 c1) 1 0 b1,.arr (A0 c2) 1 0 b2,.cells [.d (.str nm),.arr 5 es.length,.arr 6 (A0 ks).length,.rs 8 3,.arr 9 (xL xs).length]]
   (λr os=>r=.tup []/\os=[T0,T1,T2,T3,T4,.arr (es.eraseIdx i++[L4]) 3 (es.length-1) false,.arr (A0 (ks.map λc=>B0 c i)) 1 0 kn,T7,.rarr [[.arr 10 (A0 c0).length,.d (.str t0)],[.arr 11 (A0 c1).length,.d (.str t1)],[.arr 12 (A0 c2).length,.d (.str t2)]] 2 false,.arr (xL (xs.map (E3 (H7 es.length i)))) 7 0 xn,.arr (A0 (c0.map λc=>B0 c i)) 1 0 b0,.arr (A0 (c1.map λc=>B0 c i)) 1 0 b1,.arr (A0 (c2.map λc=>B0 c i)) 1 0 b2,.cells [.d (.str nm),.d (.sl (es.eraseIdx i)),.arr 6 (A0 ks).length,.rs 8 3,.arr 9 (xL xs).length]]):=by
 have:=B5.frame (K:=λr os=>r=.tup []/\os=[T0,T1,T2,T3,T4,.arr (es.eraseIdx i++[L4]) 3 (es.length-1) false,.arr (A0 (ks.map λc=>B0 c i)) 1 0 kn,T7,.rarr [[.arr 10 (A0 c0).length,.d (.str t0)],[.arr 11 (A0 c1).length,.d (.str t1)],[.arr 12 (A0 c2).length,.d (.str t2)]] 2 false,.arr (xL (xs.map (E3 (H7 es.length i)))) 7 0 xn,.arr (A0 (c0.map λc=>B0 c i)) 1 0 b0,.arr (A0 (c1.map λc=>B0 c i)) 1 0 b1,.arr (A0 (c2.map λc=>B0 c i)) 1 0 b2,.cells [.d (.str nm),.d (.sl (es.eraseIdx i)),.arr 6 (A0 ks).length,.rs 8 3,.arr 9 (xL xs).length]]) (C17 nm es hm i hi hel ks hkb hkl kn hkn xs hxl hxb xn hxn c0 b0 t0 hc0 hcb0 hn0 c1 b1 t1 hc1 hcb1 hn1 c2 b2 t2 hc2 hcb2 hn2) [13,5,6,8,9,10,11,12]
  [T0,T1,T2,T3,T4,.arr es 3 0 false,.arr (A0 ks) 1 0 kn,T7,.rarr [[.arr 10 (A0 c0).length,.d (.str t0)],[.arr 11 (A0 c1).length,.d (.str t1)],[.arr 12 (A0 c2).length,.d (.str t2)]] 2 false,.arr (xL xs) 7 0 xn,.arr (A0 c0) 1 0 b0,.arr (A0 c1) 1 0 b1,.arr (A0 c2) 1 0 b2,.cells [.d (.str nm),.arr 5 es.length,.arr 6 (A0 ks).length,.rs 8 3,.arr 9 (xL xs).length]] rfl (by decide) (λi o h=>by
   match i,h with
   |0,h=>cases h;rfl
   |1,h=>cases h;rfl
   |2,h=>cases h;rfl
   |3,h=>cases h;rfl
   |4,h=>cases h;rfl
   |5,h=>cases h;rfl
   |6,h=>cases h;rfl
   |7,h=>cases h;rfl
   |i+8,h=>simp at h) (λa ha=>by
    simp only[I9,m5,or_false] at ha
    rcases ha with rfl|rfl<;>simp[AV.bnd2,AV.bnd1]) (λo ho=>by
    simp only[I9,m5,or_false] at ho
    rcases ho with rfl|rfl|rfl|rfl|rfl|rfl|rfl|rfl
    ·exact L7 rfl
    ·exact L7 rfl
    ·exact L7 rfl
    ·exact L7 rfl
    ·exact L7 rfl
    ·exact L7 rfl
    ·exact L7 rfl
    ·exact L7 rfl
    ) (by
   rintro r bs' ⟨rfl,rfl⟩
   exact⟨rfl,rfl⟩)
 exact this
end Go.Proofs
end
section
set_option maxHeartbeats 8000000
namespace Go.Proofs
open Go.Bi
theorem C0N(t:Tb)(dc dk df dx:D)(h:M6 t dc dk df dx)(c:Ch)(hc:G7 c)(hq:D2 t c=0)(g0 g1 g2:Fo)(hfs:t.fs=[g0,g1,g2])(hk:c.k=1) :
  Pure Tryz.prog R3 [eT t.nm dc dk df dx,c.av] (.tup [eT t.nm (.sl (B2 (t.cs++[c.co]))) (C2 (A9 dk) (A0 t.ks)) (dF t.fs) (C2 (xL (t.xs.map (B9 0))).isEmpty (xL (t.xs.map (B9 0)))),.d (eI 0)]):=by
 have hC:=U3 t dc dk df dx h c hc
 rw[hq] at hC
 have hF:=R8 t.nm t.cs h.hl dc dk df dx h.dc c.nm
 have hl:=h.hl
 have hdf:=h.df
 have hfc:=h.hfc
 rw[hfs] at hdf hfc
 have hdf2:df=.sl (R0 [⟨g0.d,A0 g0.cs,A9 g0.d,g0.tb⟩,⟨g1.d,A0 g1.cs,A9 g1.d,g1.tb⟩,⟨g2.d,A0 g2.cs,A9 g2.d,g2.tb⟩]):=by
  rcases hdf with ⟨_,h2⟩|h2
  ·cases h2
  ·exact h2
 have hf0:(Fi.mk g0.d (A0 g0.cs) (A9 g0.d) g0.tb).ok:=F9 _ (by rw[B7];have:=(hfc g0 (by simp)).1;omega) (D3 _) g0.d g0.sld
 have hf1:(Fi.mk g1.d (A0 g1.cs) (A9 g1.d) g1.tb).ok:=F9 _ (by rw[B7];have:=(hfc g1 (by simp)).1;omega) (D3 _) g1.d g1.sld
 have hf2:(Fi.mk g2.d (A0 g2.cs) (A9 g2.d) g2.tb).ok:=F9 _ (by rw[B7];have:=(hfc g2 (by simp)).1;omega) (D3 _) g2.d g2.sld
 have hK:=A4E t.nm dc dk df dx (B2 t.cs) (A0 t.ks) (A9 dc) (A9 dk) (V0 _ (by rw[F4];omega) (I4 _) dc h.dc) (F9 _ (by rw[B7];have:=h.hk;omega) (D3 _) dk h.dk) _ _ _ hf0 hf1 hf2 hdf2 t.xs h.hxb h.hxs h.dx
 have hcl:=F4 t.cs
 have q0:g0.d=C2 (A9 g0.d) (A0 g0.cs):=(O5 g0.sld).symm
 have q1:g1.d=C2 (A9 g1.d) (A0 g1.cs):=(O5 g1.sld).symm
 have q2:g2.d=C2 (A9 g2.d) (A0 g2.cs):=(O5 g2.sld).symm
 have e1:B2 (t.cs++[c.co])=B2 t.cs++[c.co.ds]:=by simp[B2]
 rw[e1]
 obtain⟨k,nm,to,⟨cn,ck,cl⟩,⟨vk,vn,vs⟩⟩:=c
 dsimp only at hk
 subst hk
 obtain⟨f,hf⟩:∃f,f=D6 nm t.cs:=⟨_,rfl⟩
 have hF:Bi.Pure Tryz.prog U5 [eT t.nm dc dk df dx,.d (.str nm)] (.d (eI f)):=by rw[hf];exact hF
 rw[show dF t.fs=C2 false (H6 [g0,g1,g2]) by rw[hfs];rfl]
 generalize B2 t.cs=Cs at hK hcl q0 q1 q2 ⊢
 generalize A0 t.ks=Ks at hK hcl q0 q1 q2 ⊢
 generalize xL (t.xs.map (B9 0))=Xs at hK hcl q0 q1 q2 ⊢
 generalize A9 dk=b2 at hK hcl q0 q1 q2 ⊢
 generalize A9 dc=b1 at hK hcl q0 q1 q2 ⊢
 generalize A0 g0.cs=G0 at hK hcl q0 q1 q2 ⊢
 generalize A9 g0.d=n0 at hK hcl q0 q1 q2 ⊢
 generalize A0 g1.cs=G1 at hK hcl q0 q1 q2 ⊢
 generalize A9 g1.d=n1 at hK hcl q0 q1 q2 ⊢
 generalize A0 g2.cs=G2 at hK hcl q0 q1 q2 ⊢
 generalize A9 g2.d=n2 at hK hcl q0 q1 q2 ⊢
 obtain⟨u0,hu0⟩:∃x,x=g0.tb:=⟨_,rfl⟩
 rw[<- hu0] at hK
 obtain⟨u1,hu1⟩:∃x,x=g1.tb:=⟨_,rfl⟩
 rw[<- hu1] at hK
 obtain⟨u2,hu2⟩:∃x,x=g2.tb:=⟨_,rfl⟩
 rw[<- hu2] at hK
 refine B5.deepP (Q:=λr os=>r=.tup [.agg [.d (.str t.nm),.arr 5 (Cs++[[.str cn,eI ck,.bool cl]]).length,.arr 6 Ks.length,.rs 8 3,.arr 9 Xs.length],.d (eI 0)]/\os[5]?=some (.arr (Cs++[[.str cn,eI ck,.bool cl]]) 3 0 false)/\os[6]?=some (.arr Ks 1 0 b2)/\os[8]?=some (.rarr [[.arr 10 G0.length,.d (.str u0)],[.arr 11 G1.length,.d (.str u1)],[.arr 12 G2.length,.d (.str u2)]] 2 false)/\os[9]?=some (.arr Xs 7 0 Xs.isEmpty)/\os[10]?=some (.arr G0 1 0 n0)/\os[11]?=some (.arr G1 1 0 n1)/\os[12]?=some (.arr G2 1 0 n2)) ?_ ?_
 ·refine V2.goO2 A6 rfl ?_
  repeat' first|refine st ?_|((with_reducible first|apply A8|apply A7);(·first|exact hC|exact hF))|((with_reducible first|apply I0|apply D7);(·exact hK);(try rintro _ _ ⟨rfl,rfl⟩))|((with_reducible apply I8);(·exact hK))|((with_reducible apply H8);refine st ?_;(with_reducible apply I5);(·exact rfl);refine st ?_;(with_reducible apply D7);(·exact hK);(try rintro _ _ ⟨rfl,rfl⟩))|(with_reducible first|apply A5|apply A4)<;>intro _
  exact⟨rfl,rfl,rfl,rfl,rfl,rfl,rfl,rfl⟩
 ·rintro r os ⟨rfl,hx0,hx1,hx2,hx3,hx4,hx5,hx6⟩
  refine V3 (rows:=[[.arr 10 G0.length,.d (.str u0)],[.arr 11 G1.length,.d (.str u1)],[.arr 12 G2.length,.d (.str u2)]]) (fs:=[g0,g1,g2]) (.inl (.inr ⟨5,_,3,0,false,rfl,hx0,rfl⟩)) hx1 hx2 hx3 rfl (λi e g he hg=>?_)
  match i,he,hg with
  |0,he,hg=>cases he;cases hg;exact⟨10,_,n0,by rw[hu0],hx4,q0⟩
  |1,he,hg=>cases he;cases hg;exact⟨11,_,n1,by rw[hu1],hx5,q1⟩
  |2,he,hg=>cases he;cases hg;exact⟨12,_,n2,by rw[hu2],hx6,q2⟩
  |i+3,he,hg=>simp at he
theorem C0P(t:Tb)(dc dk df dx:D)(h:M6 t dc dk df dx)(c:Ch)(hc:G7 c)(hq:D2 t c=0)(g0 g1 g2:Fo)(hfs:t.fs=[g0,g1,g2])(hk:c.k=3)(i:Nat)(hi:D6 c.nm t.cs=i)(co:Co)(hco:t.cs[i]?=some co)(hdc:dc=.sl (B2 t.cs)) :
  Pure Tryz.prog R3 [eT t.nm dc dk df dx,c.av] (.tup [eT t.nm (.sl (B2 (t.cs.set i ⟨c.to,co.k,co.nl⟩))) (C2 (A9 dk) (A0 t.ks)) (dF t.fs) (C2 (xL (t.xs.map (B9 0))).isEmpty (xL (t.xs.map (B9 0)))),.d (eI 0)]):=by
 have hC:=U3 t dc dk df dx h c hc
 rw[hq] at hC
 have hF:=R8 t.nm t.cs h.hl dc dk df dx h.dc c.nm
 have hl:=h.hl
 have hdf:=h.df
 have hfc:=h.hfc
 rw[hfs] at hdf hfc
 rw[hi] at hF
 have hdf2:df=.sl (R0 [⟨g0.d,A0 g0.cs,A9 g0.d,g0.tb⟩,⟨g1.d,A0 g1.cs,A9 g1.d,g1.tb⟩,⟨g2.d,A0 g2.cs,A9 g2.d,g2.tb⟩]):=by
  rcases hdf with ⟨_,h2⟩|h2
  ·cases h2
  ·exact h2
 have hf0:(Fi.mk g0.d (A0 g0.cs) (A9 g0.d) g0.tb).ok:=F9 _ (by rw[B7];have:=(hfc g0 (by simp)).1;omega) (D3 _) g0.d g0.sld
 have hf1:(Fi.mk g1.d (A0 g1.cs) (A9 g1.d) g1.tb).ok:=F9 _ (by rw[B7];have:=(hfc g1 (by simp)).1;omega) (D3 _) g1.d g1.sld
 have hf2:(Fi.mk g2.d (A0 g2.cs) (A9 g2.d) g2.tb).ok:=F9 _ (by rw[B7];have:=(hfc g2 (by simp)).1;omega) (D3 _) g2.d g2.sld
 have hK:=A4E t.nm dc dk df dx (B2 t.cs) (A0 t.ks) (A9 dc) (A9 dk) (V0 _ (by rw[F4];omega) (I4 _) dc h.dc) (F9 _ (by rw[B7];have:=h.hk;omega) (D3 _) dk h.dk) _ _ _ hf0 hf1 hf2 hdf2 t.xs h.hxb h.hxs h.dx
 have hcl:=F4 t.cs
 rw[show A9 dc=false by rw[hdc];rfl] at hK
 have q0:g0.d=C2 (A9 g0.d) (A0 g0.cs):=(O5 g0.sld).symm
 have q1:g1.d=C2 (A9 g1.d) (A0 g1.cs):=(O5 g1.sld).symm
 have q2:g2.d=C2 (A9 g2.d) (A0 g2.cs):=(O5 g2.sld).symm
 have hg:(B2 t.cs)[((i:Nat):Int).toNat]?=some [.str co.nm,eI co.k,.bool co.nl]:=O2 hco
 have hg2:(B2 t.cs)[i]?=some [.str co.nm,eI co.k,.bool co.nl]:=O2 hco
 have hmm:=I4 t.cs
 have hilt:i<(B2 t.cs).length:=by rw[hcl];exact(B3.1 hco).1
 have e1:B2 (t.cs.set i ⟨c.to,co.k,co.nl⟩)=(B2 t.cs).set i [.str c.to,eI co.k,.bool co.nl]:=by unfold B2;rw[W2]
 rw[e1]
 obtain⟨k,nm,to,⟨cn,ck,cl⟩,⟨vk,vn,vs⟩⟩:=c
 dsimp only at hk
 subst hk
 have hF:Bi.Pure Tryz.prog U5 [eT t.nm dc dk df dx,.d (.str nm)] (.d (eI i)):=hF
 rw[show dF t.fs=C2 false (H6 [g0,g1,g2]) by rw[hfs];rfl]
 generalize B2 t.cs=Cs at hK hcl hg hg2 hmm hilt q0 q1 q2 ⊢
 generalize A0 t.ks=Ks at hK hcl hg hg2 hmm hilt q0 q1 q2 ⊢
 generalize xL (t.xs.map (B9 0))=Xs at hK hcl hg hg2 hmm hilt q0 q1 q2 ⊢
 generalize A9 dk=b2 at hK hcl hg hg2 hmm hilt q0 q1 q2 ⊢
 generalize A0 g0.cs=G0 at hK hcl hg hg2 hmm hilt q0 q1 q2 ⊢
 generalize A9 g0.d=n0 at hK hcl hg hg2 hmm hilt q0 q1 q2 ⊢
 generalize A0 g1.cs=G1 at hK hcl hg hg2 hmm hilt q0 q1 q2 ⊢
 generalize A9 g1.d=n1 at hK hcl hg hg2 hmm hilt q0 q1 q2 ⊢
 generalize A0 g2.cs=G2 at hK hcl hg hg2 hmm hilt q0 q1 q2 ⊢
 generalize A9 g2.d=n2 at hK hcl hg hg2 hmm hilt q0 q1 q2 ⊢
 obtain⟨u0,hu0⟩:∃x,x=g0.tb:=⟨_,rfl⟩
 rw[<- hu0] at hK
 obtain⟨u1,hu1⟩:∃x,x=g1.tb:=⟨_,rfl⟩
 rw[<- hu1] at hK
 obtain⟨u2,hu2⟩:∃x,x=g2.tb:=⟨_,rfl⟩
 rw[<- hu2] at hK
 refine B5.deepP (Q:=λr os=>r=.tup [.agg [.d (.str t.nm),.arr 5 (Cs.set i [.str to,eI co.k,.bool co.nl]).length,.arr 6 Ks.length,.rs 8 3,.arr 9 Xs.length],.d (eI 0)]/\os[5]?=some (.arr (Cs.set i [.str to,eI co.k,.bool co.nl]) 3 0 false)/\os[6]?=some (.arr Ks 1 0 b2)/\os[8]?=some (.rarr [[.arr 10 G0.length,.d (.str u0)],[.arr 11 G1.length,.d (.str u1)],[.arr 12 G2.length,.d (.str u2)]] 2 false)/\os[9]?=some (.arr Xs 7 0 Xs.isEmpty)/\os[10]?=some (.arr G0 1 0 n0)/\os[11]?=some (.arr G1 1 0 n1)/\os[12]?=some (.arr G2 1 0 n2)) ?_ ?_
 ·refine V2.goO2 A6 rfl ?_
  rw[U4]
  repeat' first|refine st ?_|((with_reducible first|apply A8|apply A7);(·first|exact hC|exact hF))|((with_reducible first|apply I0|apply D7);(·exact hK);(try rintro _ _ ⟨rfl,rfl⟩))|((with_reducible apply I8);(·exact hK))|((with_reducible apply H8);refine st ?_;(with_reducible apply I5);(·exact rfl);refine st ?_;(with_reducible apply D7);(·exact hK);(try rintro _ _ ⟨rfl,rfl⟩))|(with_reducible first|apply A5|apply A4)<;>intro _
  exact⟨rfl,rfl,rfl,rfl,rfl,rfl,rfl,rfl⟩
 ·rintro r os ⟨rfl,hx0,hx1,hx2,hx3,hx4,hx5,hx6⟩
  refine V3 (rows:=[[.arr 10 G0.length,.d (.str u0)],[.arr 11 G1.length,.d (.str u1)],[.arr 12 G2.length,.d (.str u2)]]) (fs:=[g0,g1,g2]) (.inl (.inr ⟨5,_,3,0,false,rfl,hx0,rfl⟩)) hx1 hx2 hx3 rfl (λi e g he hg=>?_)
  match i,he,hg with
  |0,he,hg=>cases he;cases hg;exact⟨10,_,n0,by rw[hu0],hx4,q0⟩
  |1,he,hg=>cases he;cases hg;exact⟨11,_,n1,by rw[hu1],hx5,q1⟩
  |2,he,hg=>cases he;cases hg;exact⟨12,_,n2,by rw[hu2],hx6,q2⟩
  |i+3,he,hg=>simp at he
theorem C0Q(t:Tb)(dc dk df dx:D)(h:M6 t dc dk df dx)(c:Ch)(hc:G7 c)(hq:D2 t c=0)(g0 g1 g2:Fo)(hfs:t.fs=[g0,g1,g2])(hk:c.k=4)(i:Nat)(hi:D6 c.nm t.cs=i)(co:Co)(hco:t.cs[i]?=some co)(hdc:dc=.sl (B2 t.cs)) :
  Pure Tryz.prog R3 [eT t.nm dc dk df dx,c.av] (.tup [eT t.nm (.sl (B2 (t.cs.set i ⟨co.nm,2,co.nl⟩))) (C2 (A9 dk) (A0 t.ks)) (dF t.fs) (C2 (xL (t.xs.map (B9 0))).isEmpty (xL (t.xs.map (B9 0)))),.d (eI 0)]):=by
 have hC:=U3 t dc dk df dx h c hc
 rw[hq] at hC
 have hF:=R8 t.nm t.cs h.hl dc dk df dx h.dc c.nm
 have hl:=h.hl
 have hdf:=h.df
 have hfc:=h.hfc
 rw[hfs] at hdf hfc
 rw[hi] at hF
 have hdf2:df=.sl (R0 [⟨g0.d,A0 g0.cs,A9 g0.d,g0.tb⟩,⟨g1.d,A0 g1.cs,A9 g1.d,g1.tb⟩,⟨g2.d,A0 g2.cs,A9 g2.d,g2.tb⟩]):=by
  rcases hdf with ⟨_,h2⟩|h2
  ·cases h2
  ·exact h2
 have hf0:(Fi.mk g0.d (A0 g0.cs) (A9 g0.d) g0.tb).ok:=F9 _ (by rw[B7];have:=(hfc g0 (by simp)).1;omega) (D3 _) g0.d g0.sld
 have hf1:(Fi.mk g1.d (A0 g1.cs) (A9 g1.d) g1.tb).ok:=F9 _ (by rw[B7];have:=(hfc g1 (by simp)).1;omega) (D3 _) g1.d g1.sld
 have hf2:(Fi.mk g2.d (A0 g2.cs) (A9 g2.d) g2.tb).ok:=F9 _ (by rw[B7];have:=(hfc g2 (by simp)).1;omega) (D3 _) g2.d g2.sld
 have hK:=A4E t.nm dc dk df dx (B2 t.cs) (A0 t.ks) (A9 dc) (A9 dk) (V0 _ (by rw[F4];omega) (I4 _) dc h.dc) (F9 _ (by rw[B7];have:=h.hk;omega) (D3 _) dk h.dk) _ _ _ hf0 hf1 hf2 hdf2 t.xs h.hxb h.hxs h.dx
 have hcl:=F4 t.cs
 rw[show A9 dc=false by rw[hdc];rfl] at hK
 have q0:g0.d=C2 (A9 g0.d) (A0 g0.cs):=(O5 g0.sld).symm
 have q1:g1.d=C2 (A9 g1.d) (A0 g1.cs):=(O5 g1.sld).symm
 have q2:g2.d=C2 (A9 g2.d) (A0 g2.cs):=(O5 g2.sld).symm
 have hg:(B2 t.cs)[((i:Nat):Int).toNat]?=some [.str co.nm,eI co.k,.bool co.nl]:=O2 hco
 have hg2:(B2 t.cs)[i]?=some [.str co.nm,eI co.k,.bool co.nl]:=O2 hco
 have hmm:=I4 t.cs
 have hilt:i<(B2 t.cs).length:=by rw[hcl];exact(B3.1 hco).1
 have e1:B2 (t.cs.set i ⟨co.nm,2,co.nl⟩)=(B2 t.cs).set i [.str co.nm,eI 2,.bool co.nl]:=by unfold B2;rw[W2]
 rw[e1]
 obtain⟨k,nm,to,⟨cn,ck,cl⟩,⟨vk,vn,vs⟩⟩:=c
 dsimp only at hk
 subst hk
 have hF:Bi.Pure Tryz.prog U5 [eT t.nm dc dk df dx,.d (.str nm)] (.d (eI i)):=hF
 rw[show dF t.fs=C2 false (H6 [g0,g1,g2]) by rw[hfs];rfl]
 generalize B2 t.cs=Cs at hK hcl hg hg2 hmm hilt q0 q1 q2 ⊢
 generalize A0 t.ks=Ks at hK hcl hg hg2 hmm hilt q0 q1 q2 ⊢
 generalize xL (t.xs.map (B9 0))=Xs at hK hcl hg hg2 hmm hilt q0 q1 q2 ⊢
 generalize A9 dk=b2 at hK hcl hg hg2 hmm hilt q0 q1 q2 ⊢
 generalize A0 g0.cs=G0 at hK hcl hg hg2 hmm hilt q0 q1 q2 ⊢
 generalize A9 g0.d=n0 at hK hcl hg hg2 hmm hilt q0 q1 q2 ⊢
 generalize A0 g1.cs=G1 at hK hcl hg hg2 hmm hilt q0 q1 q2 ⊢
 generalize A9 g1.d=n1 at hK hcl hg hg2 hmm hilt q0 q1 q2 ⊢
 generalize A0 g2.cs=G2 at hK hcl hg hg2 hmm hilt q0 q1 q2 ⊢
 generalize A9 g2.d=n2 at hK hcl hg hg2 hmm hilt q0 q1 q2 ⊢
 obtain⟨u0,hu0⟩:∃x,x=g0.tb:=⟨_,rfl⟩
 rw[<- hu0] at hK
 obtain⟨u1,hu1⟩:∃x,x=g1.tb:=⟨_,rfl⟩
 rw[<- hu1] at hK
 obtain⟨u2,hu2⟩:∃x,x=g2.tb:=⟨_,rfl⟩
 rw[<- hu2] at hK
 refine B5.deepP (Q:=λr os=>r=.tup [.agg [.d (.str t.nm),.arr 5 (Cs.set i [.str co.nm,eI 2,.bool co.nl]).length,.arr 6 Ks.length,.rs 8 3,.arr 9 Xs.length],.d (eI 0)]/\os[5]?=some (.arr (Cs.set i [.str co.nm,eI 2,.bool co.nl]) 3 0 false)/\os[6]?=some (.arr Ks 1 0 b2)/\os[8]?=some (.rarr [[.arr 10 G0.length,.d (.str u0)],[.arr 11 G1.length,.d (.str u1)],[.arr 12 G2.length,.d (.str u2)]] 2 false)/\os[9]?=some (.arr Xs 7 0 Xs.isEmpty)/\os[10]?=some (.arr G0 1 0 n0)/\os[11]?=some (.arr G1 1 0 n1)/\os[12]?=some (.arr G2 1 0 n2)) ?_ ?_
 ·refine V2.goO2 A6 rfl ?_
  rw[U4]
  repeat' first|refine st ?_|((with_reducible first|apply A8|apply A7);(·first|exact hC|exact hF))|((with_reducible first|apply I0|apply D7);(·exact hK);(try rintro _ _ ⟨rfl,rfl⟩))|((with_reducible apply I8);(·exact hK))|((with_reducible apply H8);refine st ?_;(with_reducible apply I5);(·exact rfl);refine st ?_;(with_reducible apply D7);(·exact hK);(try rintro _ _ ⟨rfl,rfl⟩))|(with_reducible first|apply A5|apply A4)<;>intro _
  exact⟨rfl,rfl,rfl,rfl,rfl,rfl,rfl,rfl⟩
 ·rintro r os ⟨rfl,hx0,hx1,hx2,hx3,hx4,hx5,hx6⟩
  refine V3 (rows:=[[.arr 10 G0.length,.d (.str u0)],[.arr 11 G1.length,.d (.str u1)],[.arr 12 G2.length,.d (.str u2)]]) (fs:=[g0,g1,g2]) (.inl (.inr ⟨5,_,3,0,false,rfl,hx0,rfl⟩)) hx1 hx2 hx3 rfl (λi e g he hg=>?_)
  match i,he,hg with
  |0,he,hg=>cases he;cases hg;exact⟨10,_,n0,by rw[hu0],hx4,q0⟩
  |1,he,hg=>cases he;cases hg;exact⟨11,_,n1,by rw[hu1],hx5,q1⟩
  |2,he,hg=>cases he;cases hg;exact⟨12,_,n2,by rw[hu2],hx6,q2⟩
  |i+3,he,hg=>simp at he
theorem C0O(t:Tb)(dc dk df dx:D)(h:M6 t dc dk df dx)(c:Ch)(hc:G7 c)(hq:D2 t c=0)(g0 g1 g2:Fo)(hfs:t.fs=[g0,g1,g2])(hk:c.k=2)(i:Nat)(hi:D6 c.nm t.cs=i)(hil:i<t.cs.length)(hdc:dc=.sl (B2 t.cs))(hkb:∀k∈t.ks,0<=k/\k<=1048576)(hfb:∀g∈t.fs,∀k∈g.cs,0<=k/\k<=1048576)(hxb:∀e∈t.xs.map (B9 0),e.bk<=1048576) :
  Pure Tryz.prog R3 [eT t.nm dc dk df dx,c.av] (.tup [eT t.nm (.sl (B2 (t.cs.eraseIdx i))) (C2 (A9 dk) (A0 (t.ks.map λc=>B0 c i))) (dF (t.fs.map (H9 i))) (C2 (xL (t.xs.map (B9 0))).isEmpty (xL ((t.xs.map (B9 0)).map (E3 (H7 t.cs.length i))))),.d (eI 0)]):=by
 have hC:=U3 t dc dk df dx h c hc
 rw[hq] at hC
 have hF:=R8 t.nm t.cs h.hl dc dk df dx h.dc c.nm
 have hl:=h.hl
 have hdf:=h.df
 have hfc:=h.hfc
 rw[hfs] at hdf hfc
 rw[hi] at hF
 have hdf2:df=.sl (R0 [⟨g0.d,A0 g0.cs,A9 g0.d,g0.tb⟩,⟨g1.d,A0 g1.cs,A9 g1.d,g1.tb⟩,⟨g2.d,A0 g2.cs,A9 g2.d,g2.tb⟩]):=by
  rcases hdf with ⟨_,h2⟩|h2
  ·cases h2
  ·exact h2
 have hf0:(Fi.mk g0.d (A0 g0.cs) (A9 g0.d) g0.tb).ok:=F9 _ (by rw[B7];have:=(hfc g0 (by simp)).1;omega) (D3 _) g0.d g0.sld
 have hf1:(Fi.mk g1.d (A0 g1.cs) (A9 g1.d) g1.tb).ok:=F9 _ (by rw[B7];have:=(hfc g1 (by simp)).1;omega) (D3 _) g1.d g1.sld
 have hf2:(Fi.mk g2.d (A0 g2.cs) (A9 g2.d) g2.tb).ok:=F9 _ (by rw[B7];have:=(hfc g2 (by simp)).1;omega) (D3 _) g2.d g2.sld
 have hK:=A4E t.nm dc dk df dx (B2 t.cs) (A0 t.ks) (A9 dc) (A9 dk) (V0 _ (by rw[F4];omega) (I4 _) dc h.dc) (F9 _ (by rw[B7];have:=h.hk;omega) (D3 _) dk h.dk) _ _ _ hf0 hf1 hf2 hdf2 t.xs h.hxb h.hxs h.dx
 have hcl:=F4 t.cs
 rw[show A9 dc=false by rw[hdc];rfl] at hK
 have hkN:A9 dk=true->t.ks=[]:=λhh=>by
  have:=l4 h.dk hh
  cases hks:t.ks with
  |nil=>rfl
  |cons a l=>rw[hks] at this;cases this
 have hxN:(xL (t.xs.map (B9 0))).isEmpty=true->t.xs.map (B9 0)=[]:=by
  intro hh
  cases hx:t.xs.map (B9 0) with
  |nil=>rfl
  |cons a l=>rw[hx] at hh;cases hh
 have hN0:A9 g0.d=true->g0.cs=[]:=λhh=>by
  have:=l4 g0.sld hh
  cases hks:g0.cs with
  |nil=>rfl
  |cons a l=>rw[hks] at this;cases this
 have hB0:=hfb g0 (by rw[hfs];simp)
 have hN1:A9 g1.d=true->g1.cs=[]:=λhh=>by
  have:=l4 g1.sld hh
  cases hks:g1.cs with
  |nil=>rfl
  |cons a l=>rw[hks] at this;cases this
 have hB1:=hfb g1 (by rw[hfs];simp)
 have hN2:A9 g2.d=true->g2.cs=[]:=λhh=>by
  have:=l4 g2.sld hh
  cases hks:g2.cs with
  |nil=>rfl
  |cons a l=>rw[hks] at this;cases this
 have hB2:=hfb g2 (by rw[hfs];simp)
 have hD:=λT0 T1 T2 T3 T4 T7=>C18 T0 T1 T2 T3 T4 T7 t.nm (B2 t.cs) (I4 _) i (by rw[hcl];exact hil) (by rw[hcl];exact hl) t.ks hkb h.hk (A9 dk) hkN (t.xs.map (B9 0)) (by rw[D5];exact h.hxs) hxb _ hxN g0.cs (A9 g0.d) g0.tb (hfc g0 (by simp)).1 hB0 hN0 g1.cs (A9 g1.d) g1.tb (hfc g1 (by simp)).1 hB1 hN1 g2.cs (A9 g2.d) g2.tb (hfc g2 (by simp)).1 hB2 hN2
 rw[hcl] at hD
 have hkl2:(A0 (t.ks.map λc=>B0 c i)).length=(A0 t.ks).length:=by rw[B7,B7,D5]
 have hxl2:(xL ((t.xs.map (B9 0)).map (E3 (H7 t.cs.length i)))).length=(xL (t.xs.map (B9 0))).length:=by rw[I6,I6,D5]
 have hkl20:(A0 (g0.cs.map λc=>B0 c i)).length=(A0 g0.cs).length:=by rw[B7,B7,D5]
 have hkl21:(A0 (g1.cs.map λc=>B0 c i)).length=(A0 g1.cs).length:=by rw[B7,B7,D5]
 have hkl22:(A0 (g2.cs.map λc=>B0 c i)).length=(A0 g2.cs).length:=by rw[B7,B7,D5]
 have q0:(H9 i g0).d=C2 (A9 g0.d) (A0 (g0.cs.map λc=>B0 c i)):=A13 i g0
 have q1:(H9 i g1).d=C2 (A9 g1.d) (A0 (g1.cs.map λc=>B0 c i)):=A13 i g1
 have q2:(H9 i g2).d=C2 (A9 g2.d) (A0 (g2.cs.map λc=>B0 c i)):=A13 i g2
 have e1:B2 (t.cs.eraseIdx i)=(B2 t.cs).eraseIdx i:=A3Z _ _
 rw[e1]
 obtain⟨k,nm,to,⟨cn,ck,cl⟩,⟨vk,vn,vs⟩⟩:=c
 dsimp only at hk
 subst hk
 have hF:Bi.Pure Tryz.prog U5 [eT t.nm dc dk df dx,.d (.str nm)] (.d (eI i)):=hF
 rw[show dF (t.fs.map (H9 i))=C2 false (H6 [H9 i g0,H9 i g1,H9 i g2]) by rw[hfs];rfl]
 rw[hcl] at hK
 generalize A0 (t.ks.map λc=>B0 c i)=K2 at hK hcl hkl2 hxl2 hkl20 hkl21 hkl22 q0 q1 q2 hD ⊢
 generalize xL ((t.xs.map (B9 0)).map (E3 (H7 t.cs.length i)))=X2 at hK hcl hkl2 hxl2 hkl20 hkl21 hkl22 q0 q1 q2 hD ⊢
 generalize (B2 t.cs).eraseIdx i=E2 at hK hcl hkl2 hxl2 hkl20 hkl21 hkl22 q0 q1 q2 hD ⊢
 generalize A0 (g0.cs.map λc=>B0 c i)=H0 at hK hcl hkl2 hxl2 hkl20 hkl21 hkl22 q0 q1 q2 hD ⊢
 generalize A0 (g1.cs.map λc=>B0 c i)=H1 at hK hcl hkl2 hxl2 hkl20 hkl21 hkl22 q0 q1 q2 hD ⊢
 generalize A0 (g2.cs.map λc=>B0 c i)=H2 at hK hcl hkl2 hxl2 hkl20 hkl21 hkl22 q0 q1 q2 hD ⊢
 generalize B2 t.cs=Cs at hK hcl hkl2 hxl2 hkl20 hkl21 hkl22 q0 q1 q2 hD ⊢
 generalize A0 t.ks=Ks at hK hcl hkl2 hxl2 hkl20 hkl21 hkl22 q0 q1 q2 hD ⊢
 generalize xL (t.xs.map (B9 0))=Xs at hK hcl hkl2 hxl2 hkl20 hkl21 hkl22 q0 q1 q2 hD ⊢
 generalize A9 dk=b2 at hK hcl hkl2 hxl2 hkl20 hkl21 hkl22 q0 q1 q2 hD ⊢
 generalize A0 g0.cs=G0 at hK hcl hkl2 hxl2 hkl20 hkl21 hkl22 q0 q1 q2 hD ⊢
 generalize A9 g0.d=n0 at hK hcl hkl2 hxl2 hkl20 hkl21 hkl22 q0 q1 q2 hD ⊢
 generalize A0 g1.cs=G1 at hK hcl hkl2 hxl2 hkl20 hkl21 hkl22 q0 q1 q2 hD ⊢
 generalize A9 g1.d=n1 at hK hcl hkl2 hxl2 hkl20 hkl21 hkl22 q0 q1 q2 hD ⊢
 generalize A0 g2.cs=G2 at hK hcl hkl2 hxl2 hkl20 hkl21 hkl22 q0 q1 q2 hD ⊢
 generalize A9 g2.d=n2 at hK hcl hkl2 hxl2 hkl20 hkl21 hkl22 q0 q1 q2 hD ⊢
 obtain⟨u0,hu0⟩:∃x,x=g0.tb:=⟨_,rfl⟩
 rw[<- hu0] at hK
 simp only[<- hu0] at hD
 obtain⟨u1,hu1⟩:∃x,x=g1.tb:=⟨_,rfl⟩
 rw[<- hu1] at hK
 simp only[<- hu1] at hD
 obtain⟨u2,hu2⟩:∃x,x=g2.tb:=⟨_,rfl⟩
 rw[<- hu2] at hK
 simp only[<- hu2] at hD
 refine B5.deepP (Q:=λr os=>r=.tup [.agg [.d (.str t.nm),.d (.sl E2),.arr 6 K2.length,.rs 8 3,.arr 9 X2.length],.d (eI 0)]/\os[6]?=some (.arr K2 1 0 b2)/\os[8]?=some (.rarr [[.arr 10 H0.length,.d (.str u0)],[.arr 11 H1.length,.d (.str u1)],[.arr 12 H2.length,.d (.str u2)]] 2 false)/\os[9]?=some (.arr X2 7 0 Xs.isEmpty)/\os[10]?=some (.arr H0 1 0 n0)/\os[11]?=some (.arr H1 1 0 n1)/\os[12]?=some (.arr H2 1 0 n2)) ?_ ?_
 ·rw[hkl2,hxl2]
  rw[hkl20,hkl21,hkl22]
  refine V2.goO2 A6 rfl ?_
  repeat' first|refine st ?_|((with_reducible first|apply A8|apply A7);(·first|exact hC|exact hF))|((with_reducible first|apply I0|apply D7);(·first|exact hK|exact hD _ _ _ _ _ _);(try rintro _ _ ⟨rfl,rfl⟩))|((with_reducible apply I8);(·first|exact hK|exact hD _ _ _ _ _ _))|((with_reducible apply H8);refine st ?_;(with_reducible apply I5);(·exact rfl);refine st ?_;(with_reducible apply D7);(·first|exact hK|exact hD _ _ _ _ _ _);(try rintro _ _ ⟨rfl,rfl⟩))|(with_reducible first|apply A5|apply A4)<;>intro _
  exact⟨rfl,rfl,rfl,rfl,rfl,rfl,rfl⟩
 ·rintro r os ⟨rfl,hx0,hx1,hx2,hx3,hx4,hx5⟩
  refine V3 (rows:=[[.arr 10 H0.length,.d (.str u0)],[.arr 11 H1.length,.d (.str u1)],[.arr 12 H2.length,.d (.str u2)]]) (fs:=[H9 i g0,H9 i g1,H9 i g2]) (.inl (.inl rfl)) hx0 hx1 hx2 rfl (λi e g he hg=>?_)
  match i,he,hg with
  |0,he,hg=>cases he;cases hg;exact⟨10,_,n0,by rw[hu0];rfl,hx3,q0⟩
  |1,he,hg=>cases he;cases hg;exact⟨11,_,n1,by rw[hu1];rfl,hx4,q1⟩
  |2,he,hg=>cases he;cases hg;exact⟨12,_,n2,by rw[hu2];rfl,hx5,q2⟩
  |i+3,he,hg=>simp at he
end Go.Proofs
end
