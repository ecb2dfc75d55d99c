/- Texts of this claim, joined. No condition. -/
import Derived.Test.YtnhhopmldgpglaaGreatDoorQ4
set_option linter.unusedSimpArgs false
set_option linter.unusedVariables false
set_option maxRecDepth 10000
set_option maxHeartbeats 4000000
section
namespace Go.Proofs
open Go.Bi
theorem C3h (T0 T1 T2 T3 T4 T7 : AO) (nm : List UInt8) (es : List (List D)) (hm : ∀ e ∈ es, e.length = 3) (i : Nat) (hi : i < es.length) (hel : es.length ≤ 1048576) (ks : List Int) (hkb : ∀ k ∈ ks, 0 ≤ k ∧ k ≤ 1048576) (hkl : ks.length ≤ 1048576) (kn : Bool) (hkn : kn = true → ks = []) (xs : List Ex) (hxl : xs.length ≤ 1048576) (hxb : ∀ e ∈ xs, e.bk ≤ 1048576) (xn : Bool) (hxn : xn = true → xs = []) :
    B0 Tryz.prog A0Y [.ptr 10 0, .d (eI i)] [T0, T1, T2, T3, T4, .arr es 3 0 false, .arr (A0 ks) 1 0 kn, T7, .rarr [] 2 true, .arr (xL xs) 7 0 xn, .cells [.d (.str nm), .arr 5 es.length, .arr 6 (A0 ks).length, .rs 8 0, .arr 9 (xL xs).length]]
      (fun r os => r = .tup [] ∧ os = [T0, T1, T2, T3, T4, .arr (es.eraseIdx i ++ [M3]) 3 (es.length - 1) false, .arr (A0 (ks.map fun c => A6 c i)) 1 0 kn, T7, .rarr [] 2 true, .arr (xL (xs.map (D8 (H5 es.length i)))) 7 0 xn,
        .cells [.d (.str nm), .d (.sl (es.eraseIdx i)), .arr 6 (A0 ks).length, .rs 8 0, .arr 9 (xL xs).length]]) := by
  have := B0.frame (K := fun r os => r = .tup [] ∧ os = [T0, T1, T2, T3, T4, .arr (es.eraseIdx i ++ [M3]) 3 (es.length - 1) false, .arr (A0 (ks.map fun c => A6 c i)) 1 0 kn, T7, .rarr [] 2 true, .arr (xL (xs.map (D8 (H5 es.length i)))) 7 0 xn,
        .cells [.d (.str nm), .d (.sl (es.eraseIdx i)), .arr 6 (A0 ks).length, .rs 8 0, .arr 9 (xL xs).length]]) (C3g nm es hm i hi hel ks hkb hkl kn hkn xs hxl hxb xn hxn) [10, 5, 6, 8, 9]
    [T0, T1, T2, T3, T4, .arr es 3 0 false, .arr (A0 ks) 1 0 kn, T7, .rarr [] 2 true, .arr (xL xs) 7 0 xn, .cells [.d (.str nm), .arr 5 es.length, .arr 6 (A0 ks).length, .rs 8 0, .arr 9 (xL xs).length]] rfl (by decide) (fun i o h => by
      match i, h with
      | 0, h => cases h; rfl
      | 1, h => cases h; rfl
      | 2, h => cases h; rfl
      | 3, h => cases h; rfl
      | 4, h => cases h; rfl
      | i + 5, h => simp at h) (fun a ha => by
        simp only [I6, o4, or_false] at ha
        rcases ha with rfl | rfl <;> simp [AV.bnd2, AV.bnd1]) (fun o ho => by
        simp only [I6, o4, or_false] at ho
        rcases ho with rfl | rfl | rfl | rfl | rfl
        · exact M6 rfl
        · exact M6 rfl
        · exact M6 rfl
        · exact M6 rfl
        · exact M6 rfl) (by
      rintro r bs' ⟨rfl, rfl⟩
      exact ⟨rfl, rfl⟩)
  exact this
theorem O6{d:D}{es:List (List D)}(h:B3 d es):B5 (A5 d) es=d:=by
 rcases h with ⟨rfl,rfl⟩|rfl<;>rfl
theorem W3{b:Bool}{es:List (List D)}(h:b=true->es=[]):B3 (B5 b es) es:=by
 cases b with
 |true=>exact .inl ⟨rfl,h rfl⟩
 |false=>exact .inr rfl
theorem m8{d:D}{es:List (List D)}(h:B3 d es)(hn:A5 d=true):es=[]:=by
 rcases h with ⟨_,h1⟩|rfl
 ·exact h1
 ·cases hn
theorem V6{os:List AO}{nm:List UInt8}{b f x:Nat}{dcv:AV}{dcd:D}{K X:List (List D)}{rows:List (List AV)}{fs:List Fo}{kn xn nl:Bool}{kz xz kf xf:Nat}{e:D}
  (h1:DC os dcv dcd) (h2:os[b]?=some (.arr K kz kf kn)) (h3:os[f]?=some (.rarr rows 2 nl)) (h4:os[x]?=some (.arr X xz xf xn)) (hl:fs.length=rows.length)
  (hr:∀(i:Nat) e (g:Fo),rows[i]?=some e->fs[i]?=some g->∃q es fl,e=[.arr q es.length,.d (.str g.tb)]/\os[q]?=some (.arr es 1 0 fl)/\g.d=B5 fl es) :
  DA os (.tup [.agg [.d (.str nm),dcv,.arr b K.length,.rs f rows.length,.arr x X.length],.d e]) (.tup [eT nm dcd (B5 kn K) (B5 nl (G5 fs)) (B5 xn X),.d e]):=by
 refine .inr ⟨_,_,rfl,rfl,rfl,λj c y hc hy=>?_⟩
 match j,hc,hy with
 |0,hc,hy=>
  cases hc;cases hy
  refine .inr ⟨_,[.str nm,dcd,B5 kn K,B5 nl (G5 fs),B5 xn X],rfl,rfl,rfl,λj c y hc hy=>?_⟩
  match j,hc,hy with
  |0,hc,hy=>cases hc;cases hy;exact .inl (.inl rfl)
  |1,hc,hy=>cases hc;cases hy;exact h1
  |2,hc,hy=>cases hc;cases hy;exact .inl (.inr ⟨b,K,kz,kf,kn,rfl,h2,rfl⟩)
  |3,hc,hy=>
   cases hc;cases hy
   refine .inr ⟨f,rows,2,nl,G5 fs,rfl,h3,by rw[A0C];exact hl,λi e e' he he'=>?_,rfl⟩
   obtain⟨g,hg,rfl⟩:∃g,fs[i]?=some g/\g.ds=e':=by
    unfold G5 at he'
    rw[F8] at he'
    exact F7.1 he'
   obtain⟨q,es,fl,rfl,h5,h6⟩:=hr i e g he hg
   refine⟨rfl,λj c x hc hx=>?_⟩
   match j,hc,hx with
   |0,hc,hx=>cases hc;cases hx;exact .inr ⟨q,es,1,0,fl,rfl,h5,h6⟩
   |1,hc,hx=>cases hc;cases hx;exact .inl rfl
   |j+2,hc,hx=>simp at hc
  |4,hc,hy=>cases hc;cases hy;exact .inl (.inr ⟨x,X,xz,xf,xn,rfl,h4,rfl⟩)
  |j+5,hc,hy=>simp at hc
 |1,hc,hy=>cases hc;cases hy;exact .inl ⟨e,.inl (.inl rfl),rfl⟩
 |j+2,hc,hy=>simp at hc
theorem A8K{α β:Type}(f:α->β):∀(l:List α)(i:Nat),(l.eraseIdx i).map f=(l.map f).eraseIdx i
 |[],i=>rfl
 |a::l,0=>rfl
 |a::l,i+1=>by simp[A8K f l i]
theorem A4B(l:List Co)(i:Nat):A9 (l.eraseIdx i)=(A9 l).eraseIdx i:=A8K _ _ _
def dF(l:List Fo):D:=B5 l.isEmpty (G5 l)
def I1(i:Nat)(g:Fo):Fo:=⟨g.nl,g.cs.map λc=>A6 c i,g.tb⟩
theorem A1D(i:Nat)(g:Fo):(I1 i g).d=B5 (A5 g.d) (A0 (g.cs.map λc=>A6 c i)):=by
 obtain⟨nl,cs,tb⟩:=g
 unfold I1 Fo.d ng
 cases nl<;>cases cs<;>rfl
def R7(v:Vl)(k:Int):Bool:=K7 v&&(decide (v.k=0)||decide (v.k=k))
def I4(row:List Vl)(ks:List Int):Bool:=decide (row.length=ks.length)&&(row.zip ks).all λp=>R7 p.1 p.2
theorem B8h{α:Type}{p:α->Bool}{l:List α}{i:Nat}{x:α}(h:l[i]?=some x):(l.take (i+1)).all p=((l.take i).all p&&p x):=by
 rw[P1,h];simp
theorem A8a{α:Type}{p:α->Bool}{l:List α}{i:Nat}{x:α}(h:l[i]?=some x)(hx:p x=false):l.all p=false:=by
 rw[Bool.eq_false_iff]
 intro e
 have:=O3.1 e x (B9 h)
 rw[hx] at this;cases this
theorem A7t(row:List Vl)(ks:List Int)(hr:row.length<=1048576)(hk:ks.length<=1048576)(hrs:∀v∈row,v.s.length<=1048576)(dr:D)(hdr:B3 dr (B1 row))(dk:D)(hdk:B3 dk (A0 ks)):Pure Tryz.prog B6H [.d dr,.d dk] (.d (.bool (I4 row ks))):=by
 refine C5f.go A4 rfl ?_
 have h1:=U9 row
 have hm:=x4 row
 have h2:=B4 ks
 have hm2:=C9 ks
 obtain⟨q,hq⟩:∃q,q=I4 row ks:=⟨_,rfl⟩
 rw[<- hq]
 by_cases hl:row.length=ks.length
 rotate_left
 ·have:q=false:=by rw[hq,I4,decide_eq_false hl];rfl
  rw[this]
  repeat' first|refine st ?_|refine⟨λ_=>?_,λ_=>?_⟩|fail
  all_goals first|rfl|(exfalso;omega)
 unfold I4 at hq
 rw[decide_eq_true hl,Y9] at hq
 have hl2:(B1 row).length=(A0 ks).length:=by omega
 repeat' first|refine st ?_|refine⟨λ_=>?_,λ_=>?_⟩|fail
 refine F2 A4 C8t C7l (λ(i:Nat)=>[.d (eI i)]) (λi=>[]) (λi=>i<=row.length/\((row.zip ks).take i).all (λp=>R7 p.1 p.2)=true) (λi=>row.length-i) 0 rfl rfl rfl rfl (λ_ _=>⟨rfl,rfl⟩) rfl ⟨by omega,rfl⟩ ?_
 repeat' first|refine st ?_|refine⟨λ_=>?_,λ_=>?_⟩|fail
 intro i ⟨h4,h5⟩
 cases hx:row[i]? with
 |some v=>
  have hlt:=(A7.1 hx).1
  obtain⟨k,hkx⟩:∃k,ks[i]?=some k:=⟨_,C3 (by omega)⟩
  have hz:(row.zip ks)[i]?=some (v,k):=A9P.2 ⟨hx,hkx⟩
  have hg:=A3K hx
  have hg2:=K5 hkx
  have hV:=A5j v (O4 (hrs v (B9 hx)) (by omega))
  have hs:=B8h (p:=λp=>R7 p.1 p.2) hz
  rw[h5,Y9] at hs
  dsimp only at hs
  cases hv:K7 v with
  |false=>
   rw[hv] at hV
   have hb:R7 v k=false:=by rw[R7,hv];rfl
   have hf:=A8a (p:=λp=>R7 p.1 p.2) hz hb
   rw[hf] at hq
   repeat' first|refine st ?_|refine⟨λ_=>?_,λ_=>?_⟩|fail
   all_goals (rw[hq])
  |true=>
   rw[hv] at hV
   by_cases hk0:v.k=0
   ·have hb:R7 v k=true:=by rw[R7,hv,decide_eq_true hk0];rfl
    repeat' first|refine st ?_|refine⟨λ_=>?_,λ_=>?_⟩|fail
    exact⟨i+1,rfl,rfl,rfl,by omega,by omega,hs.trans hb⟩
   ·by_cases hkk:v.k=k
    ·have hb:R7 v k=true:=by rw[R7,hv,decide_eq_true hkk];simp
     repeat' first|refine st ?_|refine⟨λ_=>?_,λ_=>?_⟩|fail
     exact⟨i+1,rfl,rfl,rfl,by omega,by omega,hs.trans hb⟩
    ·have hb:R7 v k=false:=by rw[R7,hv,decide_eq_false hkk,decide_eq_false hk0];rfl
     have hf:=A8a (p:=λp=>R7 p.1 p.2) hz hb
     rw[hf] at hq
     repeat' first|refine st ?_|refine⟨λ_=>?_,λ_=>?_⟩|fail
     all_goals (rw[hq])
 |none=>
  have hge:=C8.1 hx
  rw[J5 (by rw[List.length_zip];omega)] at h5
  rw[h5] at hq
  repeat' first|refine st ?_|refine⟨λ_=>?_,λ_=>?_⟩|fail
  all_goals (rw[hq])
theorem B9q:∀{l:List (Int×Int)},fe l=0->∀x∈l,x.2=0
 |[],_,x,hx=>by cases hx
 |y::l,h,x,hx=>by
  unfold fe at h
  by_cases hy:y.2=0
  ·rw[if_pos hy] at h
   rcases I6.1 hx with rfl|hx
   ·exact hy
   ·exact B9q h x hx
  ·rw[if_neg hy] at h;exact absurd h hy
theorem D7Q(v:Vl):(z8 v).k=v.k\/(z8 v).k=0:=by
 unfold z8
 split
 ·exact .inl rfl
 ·exact .inr rfl
def Knd(l:List Vl)(ks:List Int):Prop:=l.length=ks.length/\∀i,(h:i<l.length)->(h2:i<ks.length)->l[i].k=ks[i]\/l[i].k=0
theorem Knd.all{l:List Vl}{ks:List Int}(h:Knd l ks){r:Int}(hr:∀x∈ks,x=0\/x=r):∀v∈l,v.k=r\/v.k=0:=by
 intro v hv
 obtain⟨i,hi,rfl⟩:=A4h.1 hv
 have h2:i<ks.length:=by have:=h.1;omega
 have h3:=h.2 i hi h2
 have h4:=hr ks[i] (A2a h2)
 omega
theorem A1b(op n:Int)(v:Vl)(nm:List UInt8)(nl:Bool)(args:List Ex):F6 (.mk op n v nm nl args)=.mk op n v nm true (args.map F6):=by
 unfold F6
 rw[A4Q]
 split<;>rfl
theorem A8L{α β:Type}{f g:α->β}{l:List α}(h:∀a∈l,f a=g a):l.map f=l.map g:=T9 h
theorem A0K{α β γ:Type}{f:β->γ}{g:α->β}{h:α->γ}{l:List α}(hh:∀a∈l,f (g a)=h a):(l.map g).map f=l.map h:=by
 rw[l7];exact T9 hh
theorem B12:∀e:Ex,F6 (F6 e)=F6 e:=by
 refine Ex.ind λop n v nm nl args ih=>?_
 rw[A1b,A1b,A0K (h:=F6) λa ha=>ih a ha]
theorem D81{n:Int}(h1:IntKind.i64.min<=n)(h2:n<=IntKind.i64.max):w64 (n+0)=n:=by
 have e1:IntKind.i64.min=-9223372036854775808:=rfl
 have e2:IntKind.i64.max=9223372036854775807:=rfl
 rw[Int.add_zero]
 show IntKind.i64.wrap n=n
 rw[IntKind.wrap_i64]
 omega
theorem C1Q:∀e:Ex,e.Rg->B7 0 e=F6 e:=by
 refine Ex.ind λop n v nm nl args ih hr=>?_
 cases hr with
 |mk h1 h2 h=>
  rw[C1R,A1b,A8L (g:=F6) λa ha=>ih a ha (h a ha),D81 h1 h2]
  split<;>rfl
theorem B91:∀e:Ex,L9 (F6 e)=L9 e:=by
 refine Ex.ind λop n v nm nl args ih=>?_
 rw[A1b,A2S,A2S,A0K (h:=L9) λa ha=>ih a ha]
theorem B90(ks:List Int):∀e:Ex,F5 ks (F6 e)=F5 ks e:=by
 refine Ex.ind λop n v nm nl args ih=>?_
 rw[A1b,A1a,A1a,C6,A0K (h:=F5 ks) λa ha=>ih a ha]
theorem A8u{α:Type}{f g:α->List Int}:∀{l:List α},(∀a∈l,f a=g a)->l.flatMap f=l.flatMap g
 |[],_=>rfl
 |a::l,h=>by rw[A28,A28,h a (by simp),A8u λb hb=>h b (by simp[hb])]
theorem A8t{α β:Type}(f:α->β)(g:β->List Int):∀l:List α,(l.map f).flatMap g=l.flatMap λa=>g (f a)
 |[]=>rfl
 |a::l=>by rw[Q8,A28,A28,A8t f g l]
theorem D3u:∀e:Ex,L0 (F6 e)=L0 e:=by
 refine Ex.ind λop n v nm nl args ih=>?_
 rw[A1b,A3T,A3T,A8t,A8u (g:=L0) λa ha=>ih a ha]
theorem D3t(e:Ex):N7 (F6 e)=N7 e:=by unfold N7;rw[D3u]
theorem B13:∀e:Ex,e.Rg->(F6 e).Rg:=by
 refine Ex.ind λop n v nm nl args ih hr=>?_
 cases hr with
 |mk h1 h2 h=>
  rw[A1b]
  refine .mk h1 h2 λa ha=>?_
  obtain⟨b,hb,rfl⟩:=D9.1 ha
  exact ih b hb (h b hb)
theorem B8v(op n n':Int)(v:Vl)(nm:List UInt8)(nl:Bool)(args args':List Ex)(h:H4 (xL args')<=H4 (xL args)):(Ex.mk op n' v nm true args').bk<=(Ex.mk op n v nm nl args).bk:=by
 rw[Ex.bk,Ex.bk,Ex.ds_mk,Ex.ds_mk]
 simp only[E4,S8,D2L]
 omega
theorem A6b:∀e:Ex,(F6 e).bk<=e.bk:=by
 refine Ex.ind λop n v nm nl args ih=>?_
 rw[A1b]
 exact B8v _ _ _ _ _ _ _ _ (B8z F6 args ih)
def dnC(i:Nat):Ex->Ex
 |.mk op n v nm nl args=>.mk op (A6 n i) v nm nl args
def N4(i:Nat)(e:Ex):Ex:=O5 (dnC i) e
theorem A2T(i:Nat)(op n:Int)(v:Vl)(nm:List UInt8)(nl:Bool)(args:List Ex):N4 i (.mk op n v nm nl args)=.mk op (if op=2 then A6 n i else n) v nm true (args.map (N4 i)):=by
 unfold N4
 rw[A4Q]
 split<;>rfl
theorem D3J(i:Nat):∀e:Ex,N4 i (F6 e)=N4 i e:=by
 refine Ex.ind λop n v nm nl args ih=>?_
 rw[A1b,A2T,A2T,A0K (h:=N4 i) λa ha=>ih a ha]
theorem D3I(i:Nat):∀e:Ex,(N4 i e).bk<=e.bk:=by
 refine Ex.ind λop n v nm nl args ih=>?_
 rw[A2T]
 exact B8v _ _ _ _ _ _ _ _ (B8z (N4 i) args ih)
theorem D2w{n:Int}(i:Nat)(h1:IntKind.i64.min<=n)(h2:n<=IntKind.i64.max):IntKind.i64.min<=A6 n i/\A6 n i<=IntKind.i64.max:=by
 have e1:IntKind.i64.min=-9223372036854775808:=rfl
 have e2:IntKind.i64.max=9223372036854775807:=rfl
 unfold A6
 split<;>omega
theorem D3L(i:Nat):∀e:Ex,e.Rg->(N4 i e).Rg:=by
 refine Ex.ind λop n v nm nl args ih hr=>?_
 cases hr with
 |mk h1 h2 h=>
  rw[A2T]
  have hb:=D2w i h1 h2
  refine .mk (by split;exact hb.1;exact h1) (by split;exact hb.2;exact h2) λa ha=>?_
  obtain⟨b,hb,rfl⟩:=D9.1 ha
  exact ih b hb (h b hb)
theorem D3K(i:Nat):∀e:Ex,L9 (N4 i e)=L9 e:=by
 refine Ex.ind λop n v nm nl args ih=>?_
 rw[A2T,A2S,A2S,A0K (h:=L9) λa ha=>ih a ha]
theorem B0W{ks:List Int}{op n:Int}{v:Vl}{nm:List UInt8}{nl:Bool}{args:List Ex}(h:(F5 ks (.mk op n v nm nl args)).2=0) :
  (S4 op args.length).2=true/\M8 op n v nm args.length=true/\(op=2->0<=n/\n<ks.length/\args=[]/\nm=[]/\v=F4)/\(op≠2->∀a∈args,(F5 ks a).2=0):=by
 rw[A1a] at h
 unfold S0 at h
 by_cases h1:(S4 op args.length).2=false
 ·rw[if_pos h1] at h;cases h
 by_cases h2:M8 op n v nm args.length=false
 ·rw[if_neg h1,if_pos h2] at h;cases h
 rw[if_neg h1,if_neg h2] at h
 have h2':M8 op n v nm args.length=true:=by simpa using h2
 refine⟨by simpa using h1,h2',λho=>?_,λho a ha=>?_⟩
 ·subst ho
  rw[if_pos rfl] at h
  rw[B1p] at h2'
  obtain⟨a1,a2,a3,a4,a5⟩:=of_decide_eq_true h2'
  have hv:v=F4:=by
   obtain⟨x,y,z⟩:=v
   simp only at a3 a4 a5
   subst a3;subst a4;subst a5;rfl
  by_cases hn:0<=n/\n<ks.length
  ·exact⟨hn.1,hn.2,A2K.1 a1,a2,hv⟩
  ·rw[if_neg hn] at h;cases h
 ·rw[if_neg ho] at h
  by_cases hf:fe (args.map (F5 ks))=0
  ·exact B9q hf _ (D9.2 ⟨a,ha,rfl⟩)
  ·rw[if_neg hf] at h
   exact absurd h hf
theorem D5y{m:Nat}(i:Nat){n:Int}(h0:0<=n)(h1:n<m):(H5 m i).getD n.toNat A8P=mvE n i:=by
 have hl:n.toNat<m:=by omega
 unfold H5
 rw[E8,F8,List.getElem?_range hl,A10,l9]
 congr 1
 omega
theorem D7s{ks:List Int}{m:Nat}(i:Nat)(hm:ks.length=m):∀e:Ex,(F5 ks e).2=0->D8 (H5 m i) (F6 e)=N4 i e:=by
 refine Ex.ind λop n v nm nl args ih h=>?_
 obtain⟨_,_,h3,h4⟩:=B0W h
 rw[A1b,A2T]
 unfold D8
 rw[A4Q]
 by_cases ho:op=2
 ·obtain⟨a1,a2,rfl,rfl,rfl⟩:=h3 ho
  subst ho
  rw[if_pos rfl,if_pos rfl]
  have hin:inC (H5 m i) n F4 [] 0=true:=by
   unfold inC
   rw[A1l]
   exact decide_eq_true ⟨rfl,rfl,⟨rfl,rfl,rfl⟩,a1,by omega⟩
  show(if inC (H5 m i) n F4 [] 0=true then F6 ((H5 m i).getD n.toNat A8P) else _)=_
  rw[if_pos hin,D5y i a1 (by omega)]
  unfold mvE
  rw[A1b]
  rfl
 ·rw[if_neg ho,if_neg ho,A0K (f:=O5 (A3e (H5 m i))) (h:=N4 i) λa ha=>ih a ha (h4 ho a ha)]
theorem D4l(ks:List Int)(i:Nat){n:Int}(h0:0<=n)(hne:n≠i):(ks.eraseIdx i).getD (A6 n i).toNat 0=ks.getD n.toNat 0:=by
 rw[E8,E8,A4f]
 unfold A6
 by_cases h:(i:Int)<n
 ·rw[if_pos h,if_neg (by omega)]
  congr 2
  omega
 ·rw[if_neg h,if_pos (by omega)]
theorem D39{ks:List Int}{i:Nat}(hi:i<ks.length):∀e:Ex,(F5 ks e).2=0->¬(i:Int)∈L0 e->F5 (ks.eraseIdx i) (N4 i e)=F5 ks e:=by
 refine Ex.ind λop n v nm nl args ih h hi'=>?_
 obtain⟨h1,h2,h3,h4⟩:=B0W h
 rw[A3T] at hi'
 rw[A2T,A1a,A1a,C6]
 by_cases ho:op=2
 ·obtain⟨a1,a2,rfl,rfl,rfl⟩:=h3 ho
  subst ho
  have hne:n≠i:=λe=>hi' (by rw[e];simp)
  rw[if_pos rfl]
  unfold S0
  have hf:M8 2 (A6 n i) F4 [] ([]:List Ex).length=true:=by rw[B1p];exact decide_eq_true ⟨rfl,rfl,rfl,rfl,rfl⟩
  have hlen:(ks.eraseIdx i).length=ks.length-1:=by rw[A1s,if_pos hi]
  have hb:0<=A6 n i/\A6 n i<(ks.eraseIdx i).length:=by rw[hlen];unfold A6;split<;>omega
  rw[h1,h2,hf,if_neg (by decide),if_neg (by decide),if_pos rfl,if_pos hb,if_neg (by decide),if_neg (by decide),if_pos rfl,if_pos ⟨a1,a2⟩,D4l ks i a1 hne]
 ·rw[if_neg ho]
  unfold S0
  rw[if_neg ho,if_neg ho,A0K (f:=F5 (ks.eraseIdx i)) (g:=N4 i) (h:=F5 ks) λa ha=>ih a ha (h4 ho a ha) λhm=>hi' (P4.2 (.inr (A4g.2 ⟨a,ha,hm⟩)))]
theorem B8Q{n:Int}{ks:List Int}{rs:List (Int×Int)}(h0:0<=n)(h1:n<ks.length):S0 2 n F4 [] ks 0 rs=(ks.getD n.toNat 0,0):=by
 have hf:M8 2 n F4 [] 0=true:=by rw[B1p];exact decide_eq_true ⟨rfl,rfl,rfl,rfl,rfl⟩
 have hc:(S4 2 (0:Nat)).2=true:=by decide
 unfold S0
 rw[hc,hf,if_neg (by decide),if_neg (by decide),if_pos rfl,if_pos ⟨h0,h1⟩]
theorem D3a{ks:List Int}(k:Int):∀e:Ex,(F5 ks e).2=0->F5 (ks++[k]) e=F5 ks e:=by
 refine Ex.ind λop n v nm nl args ih h=>?_
 obtain⟨h1,h2,h3,h4⟩:=B0W h
 rw[A1a,A1a]
 by_cases ho:op=2
 ·obtain⟨a1,a2,rfl,rfl,rfl⟩:=h3 ho
  subst ho
  rw[P9,B8Q a1 a2,B8Q a1 (by rw[J0];simp;omega)]
  have:(ks++[k]).getD n.toNat 0=ks.getD n.toNat 0:=by
   rw[E8,E8,K4 (by omega)]
  rw[this]
 ·unfold S0
  rw[if_neg ho,if_neg ho,A8L (f:=F5 (ks++[k])) (g:=F5 ks) λa ha=>ih a ha (h4 ho a ha)]
theorem D3c{ks:List Int}{i:Nat}(k:Int):∀e:Ex,¬(i:Int)∈L0 e->F5 (ks.set i k) e=F5 ks e:=by
 refine Ex.ind λop n v nm nl args ih hi=>?_
 rw[A3T] at hi
 rw[A1a,A1a,A8L (f:=F5 (ks.set i k)) (g:=F5 ks) λa ha=>ih a ha λhm=>hi (P4.2 (.inr (A4g.2 ⟨a,ha,hm⟩)))]
 unfold S0
 rw[U6]
 by_cases ho:op=2
 ·subst ho
  have hne:n≠i:=λe=>hi (by rw[e];simp)
  by_cases hn:0<=n/\n<ks.length
  ·have:(ks.set i k).getD n.toNat 0=ks.getD n.toNat 0:=by
    rw[E8,E8,P3 (by omega)]
   rw[this]
  ·simp only[hn,if_false]
 ·simp only[ho,if_false]
def acF:List Vl->List Co->Int
 |v::r,c::l=>if K7 v=false then 8 else if v.k=0 then (if c.nl then acF r l else 12) else if v.k=c.k then acF r l else 7
 |_,_=>0
def E7(row:List Vl)(N7:List Co):Int:=if row.length=N7.length then acF row N7 else 13
def pick(row:List Vl)(ks:List Int):List Vl:=ks.map (vAt row)
theorem D7O(v:Vl):A54 v v=0:=by
 have h:A0y v.s v.s=0:=(B0Z v.s v.s).2.2.1.2 rfl
 have h2:∀n:Int,A2R n n=0:=λn=>by unfold A2R;rw[if_neg (by omega),if_neg (by omega)]
 unfold A54
 rw[h,h2,h2];rfl
theorem C4p(v:Vl):Pure Tryz.prog A9U [eV v,eV v] (.d (eI 0)):=by
 have h:=C4o v v
 rw[D7O] at h
 exact h
theorem C4w(row:List Vl)(hr:row.length<=1048576)(d d':D)(hd:B3 d (B1 row))(hd':B3 d' (B1 row)):Pure Tryz.prog B01 [.d d,.d d'] (.d (.bool true)):=by
 have hC:Pure Tryz.prog B6G [.d d,.d d'] (.d (eI 0)):=by
  refine C5d.go A4 rfl ?_
  have h1:=U9 row
  have hm:=x4 row
  repeat' first|refine st ?_|refine⟨λ_=>?_,λ_=>?_⟩|fail
  refine F2 A4 C8s C7k (λ(i:Nat)=>[.d (eI i)]) (λi=>[]) (λi=>i<=row.length) (λi=>row.length-i) 0 rfl rfl rfl rfl (λ_ _=>⟨rfl,rfl⟩) rfl (R1 _) ?_
  repeat' first|refine st ?_|refine⟨λ_=>?_,λ_=>?_⟩|fail
  intro i h4
  cases hx:row[i]? with
  |some v=>
   have hlt:=(A7.1 hx).1
   have hg:=A3K hx
   have hR:=C4p v
   repeat' first|refine st ?_|refine⟨λ_=>?_,λ_=>?_⟩|fail
   exact⟨i+1,rfl,rfl,rfl,by omega,by omega⟩
  |none=>
   have hge:=C8.1 hx
   repeat' first|refine st ?_|refine⟨λ_=>?_,λ_=>?_⟩|fail
   all_goals rfl
 refine C5e.go A4 rfl ?_
 repeat' first|refine st ?_|refine⟨λ_=>?_,λ_=>?_⟩|fail
 all_goals rfl
theorem C22{t:Tb}(h:H9 t=0):L5 t.nm=true/\w8 t.cs=0/\A0G t.cs t.ks=0/\A1L t=0:=by
 unfold H9 at h
 split at h
 ·rename_i h1
  split at h
  ·rename_i h2
   split at h
   ·rename_i h3;exact⟨h1,h2,h3,h⟩
   ·rename_i h3;exact absurd h h3
  ·rename_i h2;exact absurd h h2
 ·cases h
theorem B8U{l:List Co}(h:w8 l=0):1<=l.length/\l.length<=12/\o8 [] l=0:=by
 unfold w8 at h
 split at h
 ·rename_i h1;exact⟨h1.1,h1.2,h⟩
 ·cases h
theorem B8W:∀{l:List Co}{seen:List (List UInt8)},o8 seen l=0->∀(i:Nat) c,l[i]?=some c->L5 c.nm=true/\1<=c.k/\c.k<=3/\¬c.nm∈seen/\∀(j:Nat) d,l[j]?=some d->d.nm=c.nm->j=i
 |[],_,_,i,c,hi=>by simp at hi
 |a::r,seen,h,i,c,hi=>by
  unfold o8 at h
  split at h
  ·rename_i h1
   split at h
   ·rename_i h2
    split at h
    ·cases h
    ·rename_i h3
     have ih:=B8W h
     cases i with
     |zero=>
      simp only[A29,A11] at hi
      subst hi
      refine⟨h1,h2.1,h2.2,h3,λj d hj e=>?_⟩
      cases j with
      |zero=>rfl
      |succ j=>
       rw[l6] at hj
       exact absurd (by simp[e]) (ih j d hj).2.2.2.1
     |succ i=>
      rw[l6] at hi
      obtain⟨g1,g2,g3,g4,g5⟩:=ih i c hi
      refine⟨g1,g2,g3,λhm=>g4 (by simp[hm]),λj d hj e=>?_⟩
      cases j with
      |zero=>
       simp only[A29,A11] at hj
       subst hj
       exact absurd (by simp[e]) g4
      |succ j=>
       rw[l6] at hj
       rw[g5 j d hj e]
   ·cases h
  ·cases h
theorem B9v{nm:List UInt8}:∀{l:List Co}{s i:Nat}{c:Co},l[i]?=some c->c.nm=nm->(∀(j:Nat) d,l[j]?=some d->d.nm=nm->j=i)->m7 nm s l=(s+i:Nat)
 |[],s,i,c,hi,_,_=>by simp at hi
 |a::r,s,i,c,hi,e,hu=>by
  unfold m7
  cases i with
  |zero=>
   simp only[A29,A11] at hi
   subst hi
   rw[if_pos e];simp
  |succ i=>
   rw[if_neg (λh=>by have:=hu 0 a rfl h;omega)]
   rw[l6] at hi
   rw[B9v (s:=s+1) hi e (λj d hj e'=>by have:=hu (j+1) d (by rw[l6];exact hj) e';omega)]
   congr 1;omega
theorem D4t{l:List Co}(h:w8 l=0){i:Nat}{c:Co}(hi:l[i]?=some c):D4 c.nm l=i:=by
 have:=B8W (B8U h).2.2 i c hi
 have:=B9v (s:=0) hi rfl this.2.2.2.2
 rw[D4,this];simp
def Tb.Rg(t:Tb):Prop:=∀e∈t.xs,e.Rg
def U0(f:Fo):Fo:=⟨false,f.cs,f.tb⟩
def nf(t:Tb):Tb:=⟨t.nm,t.cs,t.ks,t.fs.map U0,t.xs.map F6⟩
theorem D5E(t:Tb):nf (nf t)=nf t:=by
 unfold nf
 congr 1
 ·rw[l7];rfl
 ·exact A0K λa ha=>B12 a
theorem B9Q(n:Nat):∀l:List Fo,V7 n (l.map U0)=V7 n l
 |[]=>rfl
 |f::r=>by rw[Q8,V7,V7,B9Q n r];rfl
theorem D36(ks:List Int)(e:Ex):A0x ks (F6 e)=A0x ks e:=by unfold A0x A1J;rw[B91,B90]
theorem B8L(ks:List Int):∀l:List Ex,w7 ks (l.map F6)=w7 ks l
 |[]=>rfl
 |f::r=>by rw[Q8,w7,w7,B8L ks r,D36]
theorem A77(t:Tb):H9 (nf t)=H9 t:=by
 unfold H9 A1L A1I nf
 dsimp only
 rw[C6,C6,B9Q,B8L]
theorem D7M(t:Tb):c9 (nf t)=c9 t:=by
 unfold c9 A2B A7b nf
 dsimp only
 rw[A8t,A8t,A8u (f:=λa=>(U0 a).cs) (g:=Fo.cs) λa _=>rfl,A8u (f:=λa=>N7 (F6 a)) (g:=N7) λa _=>D3t a]
theorem A2Z(t:Tb)(c:Ch):C7 (nf t) c=C7 t c:=by
 unfold C7
 rw[A77]
 unfold A3F
 rw[D7M]
 rfl
def D7(t:Tb)(c:Ch):Tb:=
 if c.k=1 then ⟨t.nm,t.cs++[c.co],t.ks,t.fs,t.xs.map F6⟩
 else if c.k=2 then ⟨t.nm,t.cs.eraseIdx (D4 c.nm t.cs).toNat,t.ks.map (λx=>A6 x (D4 c.nm t.cs).toNat),t.fs.map (I1 (D4 c.nm t.cs).toNat),t.xs.map (N4 (D4 c.nm t.cs).toNat)⟩
 else if c.k=3 then ⟨t.nm,t.cs.set (D4 c.nm t.cs).toNat ⟨c.to,(t.cs.getD (D4 c.nm t.cs).toNat ⟨[],0,false⟩).k,(t.cs.getD (D4 c.nm t.cs).toNat ⟨[],0,false⟩).nl⟩,t.ks,t.fs,t.xs.map F6⟩
 else ⟨t.nm,t.cs.set (D4 c.nm t.cs).toNat ⟨(t.cs.getD (D4 c.nm t.cs).toNat ⟨[],0,false⟩).nm,2,(t.cs.getD (D4 c.nm t.cs).toNat ⟨[],0,false⟩).nl⟩,t.ks,t.fs,t.xs.map F6⟩
theorem A4T(t:Tb)(c:Ch):nf (D7 (nf t) c)=nf (D7 t c):=by
 have e1:(t.fs.map U0).map U0=t.fs.map U0:=by rw[l7];rfl
 have e2:((t.xs.map F6).map F6).map F6=(t.xs.map F6).map F6:=A0K λa ha=>B12 a
 have e3 (i:Nat):((t.fs.map U0).map (I1 i)).map U0=(t.fs.map (I1 i)).map U0:=by rw[l7,l7,l7];rfl
 have e4 (i:Nat):((t.xs.map F6).map (N4 i))=t.xs.map (N4 i):=A0K λa ha=>D3J i a
 unfold D7
 split
 ·unfold nf;dsimp only;rw[e1,e2]
 ·split
  ·unfold nf;dsimp only;rw[e3,e4]
  ·split
   ·unfold nf;dsimp only;rw[e1,e2]
   ·unfold nf;dsimp only;rw[e1,e2]
theorem D4o{t:Tb}(h:t.Rg)(c:Ch):(D7 t c).Rg:=by
 have h1:∀e∈t.xs.map F6,e.Rg:=λe he=>by
  obtain⟨a,ha,rfl⟩:=D9.1 he
  exact B13 a (h a ha)
 unfold D7
 split
 ·exact h1
 ·split
  ·intro e he
   obtain⟨a,ha,rfl⟩:=D9.1 he
   exact D3L _ a (h a ha)
  ·split<;>exact h1
theorem p8{t:Tb}{c:Ch}(h:C7 t c=0):H9 t=0/\(1<=c.k/\c.k<=4)/\A3d c=false/\(c.k=1->A0t t c=0)/\(c.k≠1->A3F t c=0):=by
 unfold C7 at h
 by_cases h1:H9 t=0
 ·rw[if_neg (by simpa using h1)] at h
  by_cases h2:1<=c.k/\c.k<=4
  ·rw[if_neg (by simpa using h2)] at h
   cases h3:A3d c with
   |true=>rw[h3,if_pos rfl] at h;cases h
   |false=>
    rw[h3,if_neg (by decide)] at h
    exact⟨h1,h2,rfl,λhk=>by rw[if_pos hk] at h;exact h,λhk=>by rw[if_neg hk] at h;exact h⟩
  ·rw[if_pos h2] at h;cases h
 ·rw[if_pos h1] at h;exact absurd h h1
theorem B8d{t:Tb}{c:Ch}(h:A0t t c=0):t.cs.length<12/\L5 c.co.nm=true/\(1<=c.co.k/\c.co.k<=3)/\D4 c.co.nm t.cs<0/\K7 c.df=true/\(c.df.k=0->c.co.nl=true)/\(c.df.k≠0->c.df.k=c.co.k):=by
 unfold A0t at h
 repeat' split at h
 all_goals first|(cases h;done)|skip
 rename_i h1 h2 h3 h4 h5 h6 h7
 refine⟨by omega,by simpa using h2,by omega,by omega,by simpa using h5,λe=>?_,λe=>?_⟩
 ·cases hh:c.co.nl with
  |true=>rfl
  |false=>exact absurd ⟨e,hh⟩ h6
 ·by_cases hh:c.df.k=c.co.k
  ·exact hh
  ·exact absurd ⟨e,hh⟩ h7
theorem A08{t:Tb}{c:Ch}(h:A3F t c=0):∃(i:Nat)(co:Co),D4 c.nm t.cs=i/\t.cs[i]?=some co/\co.nm=c.nm/\(c.k≠3->¬(i:Int)∈c9 t)/\(c.k=4->co.k≠2)/\(c.k=3->L5 c.to=true/\D4 c.to t.cs<0):=by
 unfold A3F at h
 by_cases h0:D4 c.nm t.cs<0
 ·rw[if_pos h0] at h;cases h
 rw[if_neg h0] at h
 obtain⟨co,hc,hn⟩:=B1i (nm:=c.nm) (l:=t.cs) (by omega)
 have hi:D4 c.nm t.cs=((D4 c.nm t.cs).toNat:Int):=by omega
 by_cases h1:c.k≠3/\0<(c9 t).count (D4 c.nm t.cs)
 ·rw[if_pos h1] at h;cases h
 rw[if_neg h1] at h
 by_cases h2:c.k=4/\j5 t (D4 c.nm t.cs)=2
 ·rw[if_pos h2] at h;cases h
 rw[if_neg h2] at h
 by_cases h3:c.k=3/\L5 c.to=false
 ·rw[if_pos h3] at h;cases h
 rw[if_neg h3] at h
 by_cases h4:c.k=3/\0<=D4 c.to t.cs
 ·rw[if_pos h4] at h;cases h
 refine⟨_,co,hi,hc,hn,λhk hm=>h1 ⟨hk,?_⟩,λhk hh=>h2 ⟨hk,?_⟩,λhk=>⟨?_,?_⟩⟩
 ·rw[hi];exact List.count_pos_iff.2 hm
 ·unfold j5;rw[hc];exact hh
 ·cases hh:L5 c.to with
  |true=>rfl
  |false=>exact absurd ⟨hk,hh⟩ h3
 ·by_cases hh:D4 c.to t.cs<0
  ·exact hh
  ·exact absurd ⟨hk,by omega⟩ h4
structure Vd(t:Tb):Prop where
 nm:L5 t.nm=true
 l1:1<=t.cs.length
 l2:t.cs.length<=12
 co:∀c∈t.cs,L5 c.nm=true/\1<=c.k/\c.k<=3
 nd:(t.cs.map Co.nm).Nodup
 k0:t.ks≠[]
 ks:∀k∈t.ks,0<=k/\k<t.cs.length/\(t.cs.getD k.toNat ⟨[],0,false⟩).nl=false
 ka:t.ks.Pairwise (·<·)
 fl:t.fs.length<=4
 fs:∀f∈t.fs,L5 f.tb=true/\f.cs≠[]/\(∀c∈f.cs,0<=c/\c<t.cs.length)/\f.cs.Nodup
 xl:t.xs.length<=4
 xs:∀x∈t.xs,L9 x<=24/\(F5 (kd t.cs) x).2=0/\((F5 (kd t.cs) x).1=3\/(F5 (kd t.cs) x).1=0)
theorem B11:∀{l:List Co}{seen:List (List UInt8)},o8 seen l=0↔(∀c∈l,L5 c.nm=true/\1<=c.k/\c.k<=3)/\(l.map Co.nm).Nodup/\∀c∈l,¬c.nm∈seen
 |[],seen=>by simp[o8]
 |a::r,seen=>by
  unfold o8
  by_cases h1:L5 a.nm=true
  ·rw[if_pos h1]
   by_cases h2:1<=a.k/\a.k<=3
   ·rw[if_pos h2]
    by_cases h3:a.nm∈seen
    ·rw[if_pos h3]
     constructor
     ·intro h;cases h
     ·intro h;exact absurd h3 (h.2.2 a (by simp))
    ·rw[if_neg h3,B11]
     simp only[I6,Q8,A2L,P4,o4,or_false,not_or]
     constructor
     ·rintro⟨g1,g2,g3⟩
      refine⟨λc hc=>?_,⟨λhm=>?_,g2⟩,λc hc=>?_⟩
      ·rcases hc with rfl|hc
       ·exact⟨h1,h2.1,h2.2⟩
       ·exact g1 c hc
      ·obtain⟨c,hc,e⟩:=D9.1 hm
       exact(g3 c hc).2 e
      ·rcases hc with rfl|hc
       ·exact h3
       ·exact(g3 c hc).1
     ·rintro⟨g1,⟨g2,g3⟩,g4⟩
      exact⟨λc hc=>g1 c (.inr hc),g3,λc hc=>⟨g4 c (.inr hc),λe=>g2 (D9.2 ⟨c,hc,e⟩)⟩⟩
   ·rw[if_neg h2]
    constructor
    ·intro h;cases h
    ·intro h;exact absurd (h.1 a (by simp)).2 h2
  ·rw[if_neg h1]
   constructor
   ·intro h;cases h
   ·intro h;exact absurd (h.1 a (by simp)).1 h1
theorem B1D{l:List Co}:∀{ks:List Int}{p:Option Int},j7 l p ks=0↔(∀k∈ks,0<=k/\k<l.length/\(l.getD k.toNat ⟨[],0,false⟩).nl=false)/\ks.Pairwise (·<·)/\∀q,p=some q->∀k∈ks,q<k
 |[],p=>by simp[j7]
 |a::r,p=>by
  have ih:=B1D (l:=l) (ks:=r) (p:=some a)
  unfold j7
  by_cases h1:0<=a/\a<l.length
  ·rw[if_pos h1]
   have key:(if (l.getD a.toNat ⟨[],0,false⟩).nl=true then 12 else j7 l (some a) r)=0↔(l.getD a.toNat ⟨[],0,false⟩).nl=false/\j7 l (some a) r=0:=by
    cases hh:(l.getD a.toNat ⟨[],0,false⟩).nl with
    |true=>simp
    |false=>simp
   cases p with
   |none=>
    dsimp only
    rw[key,ih]
    simp only[I6,A03,forall_eq_or_imp]
    constructor
    ·rintro⟨g1,g2,g3,g4⟩
     exact⟨⟨⟨h1.1,h1.2,g1⟩,g2⟩,⟨g4 a rfl,g3⟩,λq hq=>by cases hq⟩
    ·rintro⟨⟨g1,g2⟩,⟨g3,g4⟩,g5⟩
     exact⟨g1.2.2,g2,g4,λq hq k hk=>by cases hq;exact g3 k hk⟩
   |some q=>
    dsimp only
    by_cases h2:a<=q
    ·rw[if_pos h2]
     constructor
     ·intro h;cases h
     ·intro h
      have:=h.2.2 q rfl a (by simp)
      omega
    ·rw[if_neg h2,key,ih]
     simp only[I6,A03,forall_eq_or_imp]
     constructor
     ·rintro⟨g1,g2,g3,g4⟩
      refine⟨⟨⟨h1.1,h1.2,g1⟩,g2⟩,⟨g4 a rfl,g3⟩,λq' hq=>?_⟩
      cases hq
      exact⟨by omega,λk hk=>by have:=g4 a rfl k hk;omega⟩
     ·rintro⟨⟨g1,g2⟩,⟨g3,g4⟩,g5⟩
      exact⟨g1.2.2,g2,g4,λq' hq k hk=>by cases hq;exact g3 k hk⟩
  ·rw[if_neg h1]
   constructor
   ·intro h;cases h
   ·intro h;exact absurd ⟨(h.1 a (by simp)).1,(h.1 a (by simp)).2.1⟩ h1
theorem B9n{n:Nat}:∀{l seen:List Int},p9 n seen l=0↔(∀c∈l,0<=c/\c<n)/\l.Nodup/\∀c∈l,¬c∈seen
 |[],seen=>by simp[p9]
 |a::r,seen=>by
  unfold p9
  by_cases h:(0<=a/\a<n)/\¬a∈seen
  ·rw[if_pos h,B9n]
   simp only[I6,A2L,P4,o4,or_false,not_or,forall_eq_or_imp]
   constructor
   ·rintro⟨g1,g2,g3⟩
    exact⟨⟨h.1,g1⟩,⟨λhm=>(g3 a hm).2 rfl,g2⟩,h.2,λc hc=>(g3 c hc).1⟩
   ·rintro⟨⟨g1,g2⟩,⟨g3,g4⟩,g5,g6⟩
    exact⟨g2,g4,λc hc=>⟨g6 c hc,λe=>g3 (e▸hc)⟩⟩
  ·rw[if_neg h]
   constructor
   ·intro h;cases h
   ·intro hh;exact absurd ⟨hh.1 a (by simp),hh.2.2 a (by simp)⟩ h
theorem B1s{n:Nat}:∀{l:List Fo},V7 n l=0↔∀f∈l,L5 f.tb=true/\f.cs≠[]/\(∀c∈f.cs,0<=c/\c<n)/\f.cs.Nodup
 |[]=>by simp[V7]
 |f::r=>by
  have h1:A0E n f=0↔L5 f.tb=true/\f.cs≠[]/\(∀c∈f.cs,0<=c/\c<n)/\f.cs.Nodup:=by
   unfold A0E
   by_cases g1:L5 f.tb=true
   ·rw[if_pos g1]
    by_cases g2:f.cs.length=0
    ·rw[if_pos g2]
     constructor
     ·intro h;cases h
     ·intro h;exact absurd (A2K.1 g2) h.2.1
    ·rw[if_neg g2,B9n]
     constructor
     ·rintro⟨a,b,_⟩;exact⟨g1,λe=>g2 (by rw[e];rfl),a,b⟩
     ·rintro⟨_,_,a,b⟩;exact⟨a,b,by simp⟩
   ·rw[if_neg g1]
    constructor
    ·intro h;cases h
    ·intro h;exact absurd h.1 g1
  unfold V7
  simp only[I6,forall_eq_or_imp]
  rw[<- h1,<- B1s (l:=r)]
  by_cases h2:A0E n f=0
  ·rw[if_pos h2];simp[h2]
  ·rw[if_neg h2];simp[h2]
theorem D37{ks:List Int}{x:Ex}:A0x ks x=0↔L9 x<=24/\(F5 ks x).2=0/\((F5 ks x).1=3\/(F5 ks x).1=0):=by
 unfold A0x A1J
 by_cases h1:24<L9 x
 ·rw[if_pos h1]
  constructor
  ·intro h;simp at h
  ·intro h;omega
 ·rw[if_neg h1]
  by_cases h2:(F5 ks x).2=0
  ·rw[if_pos h2]
   by_cases h3:(F5 ks x).1=3\/(F5 ks x).1=0
   ·rw[if_pos h3];simp[h2,h3];omega
   ·rw[if_neg h3];simp[h3]
  ·rw[if_neg h2];simp[h2]
theorem B0V{ks:List Int}:∀{l:List Ex},w7 ks l=0↔∀x∈l,L9 x<=24/\(F5 ks x).2=0/\((F5 ks x).1=3\/(F5 ks x).1=0)
 |[]=>by simp[w7]
 |f::r=>by
  unfold w7
  simp only[I6,forall_eq_or_imp]
  rw[<- D37,<- B0V (l:=r)]
  by_cases h2:A0x ks f=0
  ·rw[if_pos h2];simp[h2]
  ·rw[if_neg h2];simp[h2]
theorem V3{t:Tb}:H9 t=0↔Vd t:=by
 constructor
 ·intro h
  obtain⟨h1,h2,h3,h4⟩:=C22 h
  obtain⟨l1,l2,h5⟩:=B8U h2
  obtain⟨c1,c2,_⟩:=B11.1 h5
  unfold A0G at h3
  have k0:t.ks.length≠0:=by intro e;rw[if_pos e] at h3;cases h3
  rw[if_neg k0] at h3
  obtain⟨k1,k2,_⟩:=B1D.1 h3
  unfold A1L at h4
  have f0:t.fs.length<=4:=by
   by_cases e:t.fs.length<=4
   ·exact e
   ·rw[if_neg e] at h4;cases h4
  rw[if_pos f0] at h4
  by_cases f1:V7 t.cs.length t.fs=0
  ·rw[if_pos f1] at h4
   unfold A1I at h4
   have x0:t.xs.length<=4:=by
    by_cases e:t.xs.length<=4
    ·exact e
    ·rw[if_neg e] at h4;cases h4
   rw[if_pos x0] at h4
   exact⟨h1,l1,l2,c1,c2,λe=>k0 (by rw[e];rfl),k1,k2,f0,B1s.1 f1,x0,B0V.1 h4⟩
  ·rw[if_neg f1] at h4;exact absurd h4 f1
 ·intro h
  have h2:w8 t.cs=0:=by
   unfold w8
   rw[if_pos ⟨h.l1,h.l2⟩]
   exact B11.2 ⟨h.co,h.nd,by simp⟩
  have h3:A0G t.cs t.ks=0:=by
   unfold A0G
   rw[if_neg (λe=>h.k0 (A2K.1 e))]
   exact B1D.2 ⟨h.ks,h.ka,λq hq=>by cases hq⟩
  have h4:A1L t=0:=by
   unfold A1L A1I
   rw[if_pos h.fl,if_pos (B1s.2 h.fs),if_pos h.xl]
   exact B0V.2 h.xs
  unfold H9
  rw[if_pos h.nm,if_pos h2,if_pos h3,h4]
end Go.Proofs
end
section
set_option maxHeartbeats 8000000
namespace Go.Proofs
open Go.Bi
theorem C2K(t:Tb)(dc dk df dx:D)(h:N6 t dc dk df dx)(c:Ch)(hc:H6 c)(hq:C7 t c=0)(hfs:t.fs=[])(hk:c.k=1) :
  Pure Tryz.prog Q9 [eT t.nm dc dk df dx,c.av] (.tup [eT t.nm (.sl (A9 (t.cs++[c.co]))) (B5 (A5 dk) (A0 t.ks)) (dF t.fs) (B5 (xL (t.xs.map (B7 0))).isEmpty (xL (t.xs.map (B7 0)))),.d (eI 0)]):=by
 have hC:=U4 t dc dk df dx h c hc
 rw[hq] at hC
 have hF:=S7 t.nm t.cs h.hl dc dk df dx h.dc c.nm
 have hl:=h.hl
 have hdf:=h.df
 have hfc:=h.hfc
 rw[hfs] at hdf hfc
 have hK:=A5a t.nm dc dk df dx (A9 t.cs) (A0 t.ks) (A5 dc) (A5 dk) (V4 _ (by rw[F3];omega) (H8 _) dc h.dc) (G4 _ (by rw[B4];have:=h.hk;omega) (C9 _) dk h.dk) hdf t.xs h.hxb h.hxs h.dx
 have hcl:=F3 t.cs
 have e1:A9 (t.cs++[c.co])=A9 t.cs++[c.co.ds]:=by simp[A9]
 rw[e1]
 obtain⟨k,nm,to,⟨cn,ck,cl⟩,⟨vk,vn,vs⟩⟩:=c
 dsimp only at hk
 subst hk
 obtain⟨f,hf⟩:∃f,f=D4 nm t.cs:=⟨_,rfl⟩
 have hF:Bi.Pure Tryz.prog U7 [eT t.nm dc dk df dx,.d (.str nm)] (.d (eI f)):=by rw[hf];exact hF
 rw[show dF t.fs=B5 true (G5 []) by rw[hfs];rfl]
 generalize A9 t.cs=Cs at hK hcl ⊢
 generalize A0 t.ks=Ks at hK hcl ⊢
 generalize xL (t.xs.map (B7 0))=Xs at hK hcl ⊢
 generalize A5 dk=b2 at hK hcl ⊢
 generalize A5 dc=b1 at hK hcl ⊢
 refine B0.deepP (Q:=λr os=>r=.tup [.agg [.d (.str t.nm),.arr 5 (Cs++[[.str cn,eI ck,.bool cl]]).length,.arr 6 Ks.length,.rs 8 0,.arr 9 Xs.length],.d (eI 0)]/\os[5]?=some (.arr (Cs++[[.str cn,eI ck,.bool cl]]) 3 0 false)/\os[6]?=some (.arr Ks 1 0 b2)/\os[8]?=some (.rarr [] 2 true)/\os[9]?=some (.arr Xs 7 0 Xs.isEmpty)) ?_ ?_
 ·refine V5.goO2 A4 rfl ?_
  repeat' first|refine st ?_|((with_reducible first|apply I5|apply I8);(·exact hK);(try rintro _ _ ⟨rfl,rfl⟩))|((with_reducible apply I9);(·exact hK))|refine⟨λ_=>?_,λ_=>?_⟩|fail
  exact⟨rfl,rfl,rfl,rfl,rfl⟩
 ·rintro r os ⟨rfl,hx0,hx1,hx2,hx3⟩
  refine V6 (rows:=[]) (fs:=[]) (.inl (.inr ⟨5,_,3,0,false,rfl,hx0,rfl⟩)) hx1 hx2 hx3 rfl (λi e g he hg=>?_)
  match i,he,hg with
  |i+0,he,hg=>simp at he
theorem C2M(t:Tb)(dc dk df dx:D)(h:N6 t dc dk df dx)(c:Ch)(hc:H6 c)(hq:C7 t c=0)(hfs:t.fs=[])(hk:c.k=3)(i:Nat)(hi:D4 c.nm t.cs=i)(co:Co)(hco:t.cs[i]?=some co)(hdc:dc=.sl (A9 t.cs)) :
  Pure Tryz.prog Q9 [eT t.nm dc dk df dx,c.av] (.tup [eT t.nm (.sl (A9 (t.cs.set i ⟨c.to,co.k,co.nl⟩))) (B5 (A5 dk) (A0 t.ks)) (dF t.fs) (B5 (xL (t.xs.map (B7 0))).isEmpty (xL (t.xs.map (B7 0)))),.d (eI 0)]):=by
 have hC:=U4 t dc dk df dx h c hc
 rw[hq] at hC
 have hF:=S7 t.nm t.cs h.hl dc dk df dx h.dc c.nm
 have hl:=h.hl
 have hdf:=h.df
 have hfc:=h.hfc
 rw[hfs] at hdf hfc
 rw[hi] at hF
 have hK:=A5a t.nm dc dk df dx (A9 t.cs) (A0 t.ks) (A5 dc) (A5 dk) (V4 _ (by rw[F3];omega) (H8 _) dc h.dc) (G4 _ (by rw[B4];have:=h.hk;omega) (C9 _) dk h.dk) hdf t.xs h.hxb h.hxs h.dx
 have hcl:=F3 t.cs
 rw[show A5 dc=false by rw[hdc];rfl] at hK
 have hg:(A9 t.cs)[((i:Nat):Int).toNat]?=some [.str co.nm,eI co.k,.bool co.nl]:=L4 hco
 have hg2:(A9 t.cs)[i]?=some [.str co.nm,eI co.k,.bool co.nl]:=L4 hco
 have hmm:=H8 t.cs
 have hilt:i<(A9 t.cs).length:=by rw[hcl];exact(A7.1 hco).1
 have e1:A9 (t.cs.set i ⟨c.to,co.k,co.nl⟩)=(A9 t.cs).set i [.str c.to,eI co.k,.bool co.nl]:=by unfold A9;rw[W8]
 rw[e1]
 obtain⟨k,nm,to,⟨cn,ck,cl⟩,⟨vk,vn,vs⟩⟩:=c
 dsimp only at hk
 subst hk
 have hF:Bi.Pure Tryz.prog U7 [eT t.nm dc dk df dx,.d (.str nm)] (.d (eI i)):=hF
 rw[show dF t.fs=B5 true (G5 []) by rw[hfs];rfl]
 generalize A9 t.cs=Cs at hK hcl hg hg2 hmm hilt ⊢
 generalize A0 t.ks=Ks at hK hcl hg hg2 hmm hilt ⊢
 generalize xL (t.xs.map (B7 0))=Xs at hK hcl hg hg2 hmm hilt ⊢
 generalize A5 dk=b2 at hK hcl hg hg2 hmm hilt ⊢
 refine B0.deepP (Q:=λr os=>r=.tup [.agg [.d (.str t.nm),.arr 5 (Cs.set i [.str to,eI co.k,.bool co.nl]).length,.arr 6 Ks.length,.rs 8 0,.arr 9 Xs.length],.d (eI 0)]/\os[5]?=some (.arr (Cs.set i [.str to,eI co.k,.bool co.nl]) 3 0 false)/\os[6]?=some (.arr Ks 1 0 b2)/\os[8]?=some (.rarr [] 2 true)/\os[9]?=some (.arr Xs 7 0 Xs.isEmpty)) ?_ ?_
 ·refine V5.goO2 A4 rfl ?_
  rw[U6]
  repeat' first|refine st ?_|((with_reducible first|apply I5|apply I8);(·exact hK);(try rintro _ _ ⟨rfl,rfl⟩))|((with_reducible apply I9);(·exact hK))|refine⟨λ_=>?_,λ_=>?_⟩|fail
  exact⟨rfl,rfl,rfl,rfl,rfl⟩
 ·rintro r os ⟨rfl,hx0,hx1,hx2,hx3⟩
  refine V6 (rows:=[]) (fs:=[]) (.inl (.inr ⟨5,_,3,0,false,rfl,hx0,rfl⟩)) hx1 hx2 hx3 rfl (λi e g he hg=>?_)
  match i,he,hg with
  |i+0,he,hg=>simp at he
theorem C2N(t:Tb)(dc dk df dx:D)(h:N6 t dc dk df dx)(c:Ch)(hc:H6 c)(hq:C7 t c=0)(hfs:t.fs=[])(hk:c.k=4)(i:Nat)(hi:D4 c.nm t.cs=i)(co:Co)(hco:t.cs[i]?=some co)(hdc:dc=.sl (A9 t.cs)) :
  Pure Tryz.prog Q9 [eT t.nm dc dk df dx,c.av] (.tup [eT t.nm (.sl (A9 (t.cs.set i ⟨co.nm,2,co.nl⟩))) (B5 (A5 dk) (A0 t.ks)) (dF t.fs) (B5 (xL (t.xs.map (B7 0))).isEmpty (xL (t.xs.map (B7 0)))),.d (eI 0)]):=by
 have hC:=U4 t dc dk df dx h c hc
 rw[hq] at hC
 have hF:=S7 t.nm t.cs h.hl dc dk df dx h.dc c.nm
 have hl:=h.hl
 have hdf:=h.df
 have hfc:=h.hfc
 rw[hfs] at hdf hfc
 rw[hi] at hF
 have hK:=A5a t.nm dc dk df dx (A9 t.cs) (A0 t.ks) (A5 dc) (A5 dk) (V4 _ (by rw[F3];omega) (H8 _) dc h.dc) (G4 _ (by rw[B4];have:=h.hk;omega) (C9 _) dk h.dk) hdf t.xs h.hxb h.hxs h.dx
 have hcl:=F3 t.cs
 rw[show A5 dc=false by rw[hdc];rfl] at hK
 have hg:(A9 t.cs)[((i:Nat):Int).toNat]?=some [.str co.nm,eI co.k,.bool co.nl]:=L4 hco
 have hg2:(A9 t.cs)[i]?=some [.str co.nm,eI co.k,.bool co.nl]:=L4 hco
 have hmm:=H8 t.cs
 have hilt:i<(A9 t.cs).length:=by rw[hcl];exact(A7.1 hco).1
 have e1:A9 (t.cs.set i ⟨co.nm,2,co.nl⟩)=(A9 t.cs).set i [.str co.nm,eI 2,.bool co.nl]:=by unfold A9;rw[W8]
 rw[e1]
 obtain⟨k,nm,to,⟨cn,ck,cl⟩,⟨vk,vn,vs⟩⟩:=c
 dsimp only at hk
 subst hk
 have hF:Bi.Pure Tryz.prog U7 [eT t.nm dc dk df dx,.d (.str nm)] (.d (eI i)):=hF
 rw[show dF t.fs=B5 true (G5 []) by rw[hfs];rfl]
 generalize A9 t.cs=Cs at hK hcl hg hg2 hmm hilt ⊢
 generalize A0 t.ks=Ks at hK hcl hg hg2 hmm hilt ⊢
 generalize xL (t.xs.map (B7 0))=Xs at hK hcl hg hg2 hmm hilt ⊢
 generalize A5 dk=b2 at hK hcl hg hg2 hmm hilt ⊢
 refine B0.deepP (Q:=λr os=>r=.tup [.agg [.d (.str t.nm),.arr 5 (Cs.set i [.str co.nm,eI 2,.bool co.nl]).length,.arr 6 Ks.length,.rs 8 0,.arr 9 Xs.length],.d (eI 0)]/\os[5]?=some (.arr (Cs.set i [.str co.nm,eI 2,.bool co.nl]) 3 0 false)/\os[6]?=some (.arr Ks 1 0 b2)/\os[8]?=some (.rarr [] 2 true)/\os[9]?=some (.arr Xs 7 0 Xs.isEmpty)) ?_ ?_
 ·refine V5.goO2 A4 rfl ?_
  rw[U6]
  repeat' first|refine st ?_|((with_reducible first|apply I5|apply I8);(·exact hK);(try rintro _ _ ⟨rfl,rfl⟩))|((with_reducible apply I9);(·exact hK))|refine⟨λ_=>?_,λ_=>?_⟩|fail
  exact⟨rfl,rfl,rfl,rfl,rfl⟩
 ·rintro r os ⟨rfl,hx0,hx1,hx2,hx3⟩
  refine V6 (rows:=[]) (fs:=[]) (.inl (.inr ⟨5,_,3,0,false,rfl,hx0,rfl⟩)) hx1 hx2 hx3 rfl (λi e g he hg=>?_)
  match i,he,hg with
  |i+0,he,hg=>simp at he
theorem C2L(t:Tb)(dc dk df dx:D)(h:N6 t dc dk df dx)(c:Ch)(hc:H6 c)(hq:C7 t c=0)(hfs:t.fs=[])(hk:c.k=2)(i:Nat)(hi:D4 c.nm t.cs=i)(hil:i<t.cs.length)(hdc:dc=.sl (A9 t.cs))(hkb:∀k∈t.ks,0<=k/\k<=1048576)(hfb:∀g∈t.fs,∀k∈g.cs,0<=k/\k<=1048576)(hxb:∀e∈t.xs.map (B7 0),e.bk<=1048576) :
  Pure Tryz.prog Q9 [eT t.nm dc dk df dx,c.av] (.tup [eT t.nm (.sl (A9 (t.cs.eraseIdx i))) (B5 (A5 dk) (A0 (t.ks.map λc=>A6 c i))) (dF (t.fs.map (I1 i))) (B5 (xL (t.xs.map (B7 0))).isEmpty (xL ((t.xs.map (B7 0)).map (D8 (H5 t.cs.length i))))),.d (eI 0)]):=by
 have hC:=U4 t dc dk df dx h c hc
 rw[hq] at hC
 have hF:=S7 t.nm t.cs h.hl dc dk df dx h.dc c.nm
 have hl:=h.hl
 have hdf:=h.df
 have hfc:=h.hfc
 rw[hfs] at hdf hfc
 rw[hi] at hF
 have hK:=A5a t.nm dc dk df dx (A9 t.cs) (A0 t.ks) (A5 dc) (A5 dk) (V4 _ (by rw[F3];omega) (H8 _) dc h.dc) (G4 _ (by rw[B4];have:=h.hk;omega) (C9 _) dk h.dk) hdf t.xs h.hxb h.hxs h.dx
 have hcl:=F3 t.cs
 rw[show A5 dc=false by rw[hdc];rfl] at hK
 have hkN:A5 dk=true->t.ks=[]:=λhh=>by
  have:=m8 h.dk hh
  cases hks:t.ks with
  |nil=>rfl
  |cons a l=>rw[hks] at this;cases this
 have hxN:(xL (t.xs.map (B7 0))).isEmpty=true->t.xs.map (B7 0)=[]:=by
  intro hh
  cases hx:t.xs.map (B7 0) with
  |nil=>rfl
  |cons a l=>rw[hx] at hh;cases hh
 have hD:=λT0 T1 T2 T3 T4 T7=>C3h T0 T1 T2 T3 T4 T7 t.nm (A9 t.cs) (H8 _) i (by rw[hcl];exact hil) (by rw[hcl];exact hl) t.ks hkb h.hk (A5 dk) hkN (t.xs.map (B7 0)) (by rw[C6];exact h.hxs) hxb _ hxN 
 rw[hcl] at hD
 have hkl2:(A0 (t.ks.map λc=>A6 c i)).length=(A0 t.ks).length:=by rw[B4,B4,C6]
 have hxl2:(xL ((t.xs.map (B7 0)).map (D8 (H5 t.cs.length i)))).length=(xL (t.xs.map (B7 0))).length:=by rw[I7,I7,C6]
 have e1:A9 (t.cs.eraseIdx i)=(A9 t.cs).eraseIdx i:=A4B _ _
 rw[e1]
 obtain⟨k,nm,to,⟨cn,ck,cl⟩,⟨vk,vn,vs⟩⟩:=c
 dsimp only at hk
 subst hk
 have hF:Bi.Pure Tryz.prog U7 [eT t.nm dc dk df dx,.d (.str nm)] (.d (eI i)):=hF
 rw[show dF (t.fs.map (I1 i))=B5 true (G5 []) by rw[hfs];rfl]
 rw[hcl] at hK
 generalize A0 (t.ks.map λc=>A6 c i)=K2 at hK hcl hkl2 hxl2 hD ⊢
 generalize xL ((t.xs.map (B7 0)).map (D8 (H5 t.cs.length i)))=X2 at hK hcl hkl2 hxl2 hD ⊢
 generalize (A9 t.cs).eraseIdx i=E2 at hK hcl hkl2 hxl2 hD ⊢
 generalize A9 t.cs=Cs at hK hcl hkl2 hxl2 hD ⊢
 generalize A0 t.ks=Ks at hK hcl hkl2 hxl2 hD ⊢
 generalize xL (t.xs.map (B7 0))=Xs at hK hcl hkl2 hxl2 hD ⊢
 generalize A5 dk=b2 at hK hcl hkl2 hxl2 hD ⊢
 refine B0.deepP (Q:=λr os=>r=.tup [.agg [.d (.str t.nm),.d (.sl E2),.arr 6 K2.length,.rs 8 0,.arr 9 X2.length],.d (eI 0)]/\os[6]?=some (.arr K2 1 0 b2)/\os[8]?=some (.rarr [] 2 true)/\os[9]?=some (.arr X2 7 0 Xs.isEmpty)) ?_ ?_
 ·rw[hkl2,hxl2]
  refine V5.goO2 A4 rfl ?_
  repeat' first|refine st ?_|((with_reducible first|apply I5|apply I8);(·first|exact hK|exact hD _ _ _ _ _ _);(try rintro _ _ ⟨rfl,rfl⟩))|((with_reducible apply I9);(·first|exact hK|exact hD _ _ _ _ _ _))|refine⟨λ_=>?_,λ_=>?_⟩|fail
  exact⟨rfl,rfl,rfl,rfl⟩
 ·rintro r os ⟨rfl,hx0,hx1,hx2⟩
  refine V6 (rows:=[]) (fs:=[]) (.inl (.inl rfl)) hx0 hx1 hx2 rfl (λi e g he hg=>?_)
  match i,he,hg with
  |i+0,he,hg=>simp at he
end Go.Proofs
end
section
set_option maxHeartbeats 8000000
namespace Go.Proofs
open Go.Bi
theorem C3i(nm:List UInt8)(es:List (List D))(hm:∀e∈es,e.length=3)(i:Nat)(hi:i<es.length)(hel:es.length<=1048576)(ks:List Int)(hkb:∀k∈ks,0<=k/\k<=1048576)(hkl:ks.length<=1048576)(kn:Bool)(hkn:kn=true->ks=[])(xs:List Ex)(hxl:xs.length<=1048576)(hxb:∀e∈xs,e.bk<=1048576)(xn:Bool)(hxn:xn=true->xs=[])(c0:List Int)(b0:Bool)(t0:List UInt8)(hc0:c0.length<=1048576)(hcb0:∀k∈c0,0<=k/\k<=1048576)(hn0:b0=true->c0=[]) :
  B0 Tryz.prog A0Y [.ptr 0 0,.d (eI i)] [.cells [.d (.str nm),.arr 1 es.length,.arr 2 (A0 ks).length,.rs 3 1,.arr 4 (xL xs).length],.arr es 3 0 false,.arr (A0 ks) 1 0 kn,.rarr [[.arr 5 (A0 c0).length,.d (.str t0)]] 2 false,.arr (xL xs) 7 0 xn,.arr (A0 c0) 1 0 b0]
   (λr os=>r=.tup []/\os=[.cells [.d (.str nm),.d (.sl (es.eraseIdx i)),.arr 2 (A0 ks).length,.rs 3 1,.arr 4 (xL xs).length],.arr (es.eraseIdx i++[M3]) 3 (es.length-1) false,.arr (A0 (ks.map λc=>A6 c i)) 1 0 kn,.rarr [[.arr 5 (A0 c0).length,.d (.str t0)]] 2 false,.arr (xL (xs.map (D8 (H5 es.length i)))) 7 0 xn,.arr (A0 (c0.map λc=>A6 c i)) 1 0 b0]):=by
 have hD:=fun {os:List AO} (ho:os[1]?=some (.arr es 3 0 false))=>A5l es hm i hi ho
 refine A5t.goX A4 rfl ?_
 repeat' first|refine st ?_|refine⟨λ_=>?_,λ_=>?_⟩|fail
 refine A00 4 7 rfl rfl ?_
 repeat' first|refine st ?_|refine⟨λ_=>?_,λ_=>?_⟩|fail
 refine I2 A4 A5D A5y (λ(k:Nat) (A:List (List D))=>[.arr 6 A.length,.d (eI k)]) (λk A=>[.cells [.d (.str nm),.arr 1 es.length,.arr 2 (A0 ks).length,.rs 3 1,.arr 4 (xL xs).length],.arr es 3 0 false,.arr (A0 ks) 1 0 kn,.rarr [[.arr 5 (A0 c0).length,.d (.str t0)]] 2 false,.arr (xL xs) 7 0 xn,.arr (A0 c0) 1 0 b0,.arr A 7 0 A.isEmpty]) (λk A=>k<=es.length/\A=xL (H5 k i)) (λk A=>es.length-k) 0 [] rfl rfl rfl rfl (λ_ _ _=>⟨rfl,rfl⟩) rfl ⟨by omega,by simp[H5,xL]⟩ ?_
 repeat' first|refine st ?_|refine⟨λ_=>?_,λ_=>?_⟩|fail
 intro k A ⟨h4,h5⟩
 have hAl:A.length=k:=by rw[h5,I7,A1l]
 have hAm:∀e∈A,e.length=7:=by rw[h5];exact O7 _
 by_cases hlt:k<es.length
 ·have hB:=W7 k i (by omega) (by omega)
  have hs:=A6G k i
  rw[<- h5] at hs
  obtain⟨b,hb⟩:∃b,b=A6 k i:=⟨_,rfl⟩
  rw[<- hb] at hB hs
  clear h5
  repeat' first|refine st ?_|refine⟨λ_=>?_,λ_=>?_⟩|fail
  refine⟨k+1,A++[[.int .i64 2,eI b,.int .i64 0,.int .i64 0,.str [],.str [],.nil]],?_,rfl,?_,by omega,by omega,hs⟩
  ·rfl
  ·rw[show(A++[[.int .i64 2,eI b,.int .i64 0,.int .i64 0,.str [],.str [],.nil]]).isEmpty=false by simp]
   first|rfl|skip
 ·have hke:k=es.length:=by omega
  rw[hke] at h5
  have hDc:=hD (os:=[.cells [.d (.str nm),.arr 1 es.length,.arr 2 (A0 ks).length,.rs 3 1,.arr 4 (xL xs).length],.arr es 3 0 false,.arr (A0 ks) 1 0 kn,.rarr [[.arr 5 (A0 c0).length,.d (.str t0)]] 2 false,.arr (xL xs) 7 0 xn,.arr (A0 c0) 1 0 b0,.arr A 7 0 A.isEmpty]) rfl
  obtain⟨es',hes'⟩:∃e,e=es.eraseIdx i:=⟨_,rfl⟩
  rw[<- hes'] at hDc ⊢
  obtain⟨M0,hM0⟩:∃L,L=H5 es.length i:=⟨_,rfl⟩
  have hMl:M0.length<=1048576:=by rw[hM0,A1l];exact hel
  rw[<- hM0] at h5 ⊢
  obtain⟨N0,hN0⟩:∃K,K=A0 (c0.map λc=>A6 c i):=⟨_,rfl⟩
  rw[<- hN0]
  repeat' first|(with_reducible apply A35)|refine st ?_|((with_reducible first|apply I5|apply I8);(·exact hDc);(try rintro _ _ ⟨rfl,rfl⟩))|((with_reducible apply I9);(·exact hDc))|refine⟨λ_=>?_,λ_=>?_⟩|fail
  refine F2 A4 A5E A5z (λ(j:Nat)=>[.d (eI j)]) (λj=>[.cells [.d (.str nm),.d (.sl es'),.arr 2 (A0 ks).length,.rs 3 1,.arr 4 (xL xs).length],.arr (es'++[M3]) 3 (es.length-1) false,.arr (A0 (D2 ks (λc=>A6 c i) j)) 1 0 kn,.rarr [[.arr 5 (A0 c0).length,.d (.str t0)]] 2 false,.arr (xL xs) 7 0 xn,.arr (A0 c0) 1 0 b0,.arr A 7 0 A.isEmpty]) (λj=>j<=ks.length) (λj=>ks.length-j) 0 rfl rfl rfl (by rw[s6];rfl) (λ_ _=>⟨rfl,rfl⟩) rfl (by omega) ?_
  repeat' first|refine st ?_|refine⟨λ_=>?_,λ_=>?_⟩|fail
  intro j h6
  have hKl:=s4 ks (λc=>A6 c i) j h6
  cases hy:ks[j]? with
  |some c=>
   obtain⟨hlt2,he2⟩:=A7.1 hy
   have hkf:kn=false:=by
    cases kn with
    |false=>rfl
    |true=>rw[hkn rfl] at hlt2;simp at hlt2
   subst hkf
   have hg:=K5 (s0 (λc=>A6 c i) hy)
   have hset:=s5 (λc=>A6 c i) hy
   obtain⟨cb1,cb2⟩:=hkb c (B9 hy)
   have hB:=W7 c i (by omega) (by omega)
   have hks:=B4 ks
   obtain⟨y,hyy⟩:∃y,y=A6 c i:=⟨_,rfl⟩
   rw[<- hyy] at hB hset
   have hset2:(A0 (D2 ks (λc=>A6 c i) j)).set j [eI y]=A0 (D2 ks (λc=>A6 c i) (j+1)):=by rw[p7,hset]
   have hml:=B4 (D2 ks (λc=>A6 c i) j)
   have hmm2:=C9 (D2 ks (λc=>A6 c i) j)
   obtain⟨X,hX⟩:∃X,X=A0 (D2 ks (λc=>A6 c i) j):=⟨_,rfl⟩
   rw[<- hX] at hg hset2 hml hmm2 ⊢
   repeat' first|refine st ?_|refine⟨λ_=>?_,λ_=>?_⟩|fail
   refine⟨j+1,rfl,rfl,?_,by omega,by omega⟩
   rw[show((j:Int)).toNat=j from G7 j,hset2]
  |none=>
   have hge:=C8.1 hy
   have hjk:j=ks.length:=by omega
   subst hjk
   rw[r9]
   have hks:=B4 ks
   obtain⟨K',hK'⟩:∃K,K=A0 (ks.map λc=>A6 c i):=⟨_,rfl⟩
   rw[<- hK']
   repeat' first|refine st ?_|refine⟨λ_=>?_,λ_=>?_⟩|fail
   refine A26 2 ?_
   refine Q5 A4 ?_
   repeat' first|refine st ?_|refine⟨λ_=>?_,λ_=>?_⟩|fail
   refine F2 A4 A1x A1w (λ(j:Nat)=>[.d (eI j)]) (λj=>[.cells [.d (.str nm),.d (.sl es'),.arr 2 (A0 ks).length,.rs 3 1,.arr 4 (xL xs).length],.arr (es'++[M3]) 3 (es.length-1) false,.arr K' 1 0 kn,.rarr [[.arr 5 (A0 c0).length,.d (.str t0)]] 2 false,.arr (xL xs) 7 0 xn,.arr (A0 (D2 c0 (λc=>A6 c i) j)) 1 0 b0,.arr A 7 0 A.isEmpty,.cells [.arr 5 (A0 c0).length,.d (.str t0)]]) (λj=>j<=c0.length) (λj=>c0.length-j) 0 rfl rfl rfl (by rw[s6];rfl) (λ_ _=>⟨rfl,rfl⟩) rfl (by omega) ?_
   repeat' first|refine st ?_|refine⟨λ_=>?_,λ_=>?_⟩|fail
   intro j h6
   have hKl:=s4 c0 (λc=>A6 c i) j h6
   cases hy:c0[j]? with
   |some c=>
    obtain⟨hlt2,he2⟩:=A7.1 hy
    have hkf:b0=false:=by
     cases b0 with
     |false=>rfl
     |true=>rw[hn0 rfl] at hlt2;simp at hlt2
    subst hkf
    have hg:=K5 (s0 (λc=>A6 c i) hy)
    have hset:=s5 (λc=>A6 c i) hy
    obtain⟨cb1,cb2⟩:=hcb0 c (B9 hy)
    have hB:=W7 c i (by omega) (by omega)
    have hks:=B4 c0
    obtain⟨y,hyy⟩:∃y,y=A6 c i:=⟨_,rfl⟩
    rw[<- hyy] at hB hset
    have hset2:(A0 (D2 c0 (λc=>A6 c i) j)).set j [eI y]=A0 (D2 c0 (λc=>A6 c i) (j+1)):=by rw[p7,hset]
    have hml:=B4 (D2 c0 (λc=>A6 c i) j)
    have hmm2:=C9 (D2 c0 (λc=>A6 c i) j)
    obtain⟨X,hX⟩:∃X,X=A0 (D2 c0 (λc=>A6 c i) j):=⟨_,rfl⟩
    rw[<- hX] at hg hset2 hml hmm2 ⊢
    repeat' first|refine st ?_|refine⟨λ_=>?_,λ_=>?_⟩|fail
    refine⟨j+1,rfl,rfl,?_,by omega,by omega⟩
    rw[show((j:Int)).toNat=j from G7 j,hset2]
   |none=>
    have hge:=C8.1 hy
    have hjk:j=c0.length:=by omega
    subst hjk
    rw[r9]
    have hks:=B4 c0
    rw[<- hN0]
    repeat' first|refine st ?_|refine⟨λ_=>?_,λ_=>?_⟩|fail
    refine Q5 A4 ?_
    repeat' first|refine st ?_|refine⟨λ_=>?_,λ_=>?_⟩|fail
    have hAe:A.isEmpty=false:=by cases A with
     |nil=>simp at hAl;omega
     |cons a l=>rfl
    rw[hAe]
    have hXl:=I7 xs
    refine A2F 4 (id:=6) (len:=A.length) (sz:=7) (frz:=0) (nl:=false) (es:=A) rfl rfl rfl ?_
    rw[if_neg (by decide:¬(false=true))]
    repeat' first|refine st ?_|refine⟨λ_=>?_,λ_=>?_⟩|fail
    refine F2 A4 A5F A5A (λ(q:Nat)=>[.d (eI q)]) (λq=>[.cells [.d (.str nm),.d (.sl es'),.arr 2 (A0 ks).length,.rs 3 1,.arr 4 (xL xs).length],.arr (es'++[M3]) 3 (es.length-1) false,.arr K' 1 0 kn,.rarr [[.arr 5 (A0 c0).length,.d (.str t0)]] 2 false,.arr (xL (L7 xs (D8 M0) q)) 7 0 xn,.arr N0 1 0 b0,.arr A 7 A.length false,.cells [.arr 5 (A0 c0).length,.d (.str t0)]]) (λq=>q<=xs.length) (λq=>xs.length-q) 0 rfl rfl rfl (by rw[A6E];rfl) (λ_ _=>⟨rfl,rfl⟩) rfl (by omega) ?_
    repeat' first|refine st ?_|refine⟨λ_=>?_,λ_=>?_⟩|fail
    intro q h7
    have hMb:∀a∈M0,a.bk<=1048576:=by
     intro a ha
     rw[hM0] at ha
     obtain⟨b,_,rfl⟩:=D9.1 ha
     unfold mvE Ex.bk
     rw[Ex.ds_mk]
     exact P5 rfl
    have hXql:=A6C xs (D8 M0) q h7
    cases hx:xs[q]? with
    |some x=>
     obtain⟨hlt3,he3⟩:=A7.1 hx
     have hxf:xn=false:=by
      cases xn with
      |false=>rfl
      |true=>rw[hxn rfl] at hlt3;simp at hlt3
     subst hxf
     have hg:=A6B (D8 M0) hx
     have hset:=A6D (D8 M0) hx
     have hS:=A5g M0 hMl hMb (.sl A) (by rw[h5];exact J7) x (hxb x (B9 hx))
     have hq1:=I7 (L7 xs (D8 M0) q)
     have hq2:=O7 (L7 xs (D8 M0) q)
     obtain⟨z,hz⟩:∃z,z=D8 M0 x:=⟨_,rfl⟩
     rw[<- hz] at hS hset
     have hset2:(xL (L7 xs (D8 M0) q)).set q z.ds=xL (L7 xs (D8 M0) (q+1)):=by rw[<- hset];unfold xL;rw[W8]
     obtain⟨o1,n1,v1,m1,l1,a1⟩:=x
     obtain⟨o2,n2,v2,m2,l2,a2⟩:=z
     have hg:=o3 _ _ _ _ _ _ _ hg
     rw[Ex.av_mk,Ex.av_mk] at hS
     rw[Ex.ds_mk] at hset2
     obtain⟨X,hX⟩:∃X,X=xL (L7 xs (D8 M0) q):=⟨_,rfl⟩
     rw[<- hX] at hg hset2 hq1 hq2 ⊢
     repeat' first|refine st ?_|refine⟨λ_=>?_,λ_=>?_⟩|fail
     refine⟨q+1,rfl,rfl,?_,by omega,by omega⟩
     rw[show((q:Int)).toNat=q from G7 q,hset2]
    |none=>
     have hge:=C8.1 hx
     have hqk:q=xs.length:=by omega
     subst hqk
     rw[A6A]
     repeat' first|refine st ?_|refine⟨λ_=>?_,λ_=>?_⟩|fail
     exact⟨rfl,rfl⟩
theorem C3j(T0 T1 T2 T3 T4 T7:AO)(nm:List UInt8)(es:List (List D))(hm:∀e∈es,e.length=3)(i:Nat)(hi:i<es.length)(hel:es.length<=1048576)(ks:List Int)(hkb:∀k∈ks,0<=k/\k<=1048576)(hkl:ks.length<=1048576)(kn:Bool)(hkn:kn=true->ks=[])(xs:List Ex)(hxl:xs.length<=1048576)(hxb:∀e∈xs,e.bk<=1048576)(xn:Bool)(hxn:xn=true->xs=[])(c0:List Int)(b0:Bool)(t0:List UInt8)(hc0:c0.length<=1048576)(hcb0:∀k∈c0,0<=k/\k<=1048576)(hn0:b0=true->c0=[]) :
  B0 Tryz.prog A0Y [.ptr 11 0,.d (eI i)] [T0,T1,T2,T3,T4,.arr es 3 0 false,.arr (A0 ks) 1 0 kn,T7,.rarr [[.arr 10 (A0 c0).length,.d (.str t0)]] 2 false,.arr (xL xs) 7 0 xn,.arr (A0 c0) 1 0 b0,.cells [.d (.str nm),.arr 5 es.length,.arr 6 (A0 ks).length,.rs 8 1,.arr 9 (xL xs).length]]
   (λr os=>r=.tup []/\os=[T0,T1,T2,T3,T4,.arr (es.eraseIdx i++[M3]) 3 (es.length-1) false,.arr (A0 (ks.map λc=>A6 c i)) 1 0 kn,T7,.rarr [[.arr 10 (A0 c0).length,.d (.str t0)]] 2 false,.arr (xL (xs.map (D8 (H5 es.length i)))) 7 0 xn,.arr (A0 (c0.map λc=>A6 c i)) 1 0 b0,.cells [.d (.str nm),.d (.sl (es.eraseIdx i)),.arr 6 (A0 ks).length,.rs 8 1,.arr 9 (xL xs).length]]):=by
 have:=B0.frame (K:=λr os=>r=.tup []/\os=[T0,T1,T2,T3,T4,.arr (es.eraseIdx i++[M3]) 3 (es.length-1) false,.arr (A0 (ks.map λc=>A6 c i)) 1 0 kn,T7,.rarr [[.arr 10 (A0 c0).length,.d (.str t0)]] 2 false,.arr (xL (xs.map (D8 (H5 es.length i)))) 7 0 xn,.arr (A0 (c0.map λc=>A6 c i)) 1 0 b0,.cells [.d (.str nm),.d (.sl (es.eraseIdx i)),.arr 6 (A0 ks).length,.rs 8 1,.arr 9 (xL xs).length]]) (C3i nm es hm i hi hel ks hkb hkl kn hkn xs hxl hxb xn hxn c0 b0 t0 hc0 hcb0 hn0) [11,5,6,8,9,10]
  [T0,T1,T2,T3,T4,.arr es 3 0 false,.arr (A0 ks) 1 0 kn,T7,.rarr [[.arr 10 (A0 c0).length,.d (.str t0)]] 2 false,.arr (xL xs) 7 0 xn,.arr (A0 c0) 1 0 b0,.cells [.d (.str nm),.arr 5 es.length,.arr 6 (A0 ks).length,.rs 8 1,.arr 9 (xL xs).length]] rfl (by decide) (λi o h=>by
   match i,h with
   |0,h=>cases h;rfl
   |1,h=>cases h;rfl
   |2,h=>cases h;rfl
   |3,h=>cases h;rfl
   |4,h=>cases h;rfl
   |5,h=>cases h;rfl
   |i+6,h=>simp at h) (λa ha=>by
    simp only[I6,o4,or_false] at ha
    rcases ha with rfl|rfl<;>simp[AV.bnd2,AV.bnd1]) (λo ho=>by
    simp only[I6,o4,or_false] at ho
    rcases ho with rfl|rfl|rfl|rfl|rfl|rfl
    ·exact M6 rfl
    ·exact M6 rfl
    ·exact M6 rfl
    ·exact M6 rfl
    ·exact M6 rfl
    ·exact M6 rfl
    ) (by
   rintro r bs' ⟨rfl,rfl⟩
   exact⟨rfl,rfl⟩)
 exact this
end Go.Proofs
end
section
set_option maxHeartbeats 8000000
namespace Go.Proofs
open Go.Bi
theorem C2O(t:Tb)(dc dk df dx:D)(h:N6 t dc dk df dx)(c:Ch)(hc:H6 c)(hq:C7 t c=0)(g0:Fo)(hfs:t.fs=[g0])(hk:c.k=1) :
  Pure Tryz.prog Q9 [eT t.nm dc dk df dx,c.av] (.tup [eT t.nm (.sl (A9 (t.cs++[c.co]))) (B5 (A5 dk) (A0 t.ks)) (dF t.fs) (B5 (xL (t.xs.map (B7 0))).isEmpty (xL (t.xs.map (B7 0)))),.d (eI 0)]):=by
 have hC:=U4 t dc dk df dx h c hc
 rw[hq] at hC
 have hF:=S7 t.nm t.cs h.hl dc dk df dx h.dc c.nm
 have hl:=h.hl
 have hdf:=h.df
 have hfc:=h.hfc
 rw[hfs] at hdf hfc
 have hdf2:df=.sl (R6 [⟨g0.d,A0 g0.cs,A5 g0.d,g0.tb⟩]):=by
  rcases hdf with ⟨_,h2⟩|h2
  ·cases h2
  ·exact h2
 have hf0:(Fi.mk g0.d (A0 g0.cs) (A5 g0.d) g0.tb).ok:=G4 _ (by rw[B4];have:=(hfc g0 (by simp)).1;omega) (C9 _) g0.d g0.sld
 have hK:=A5b t.nm dc dk df dx (A9 t.cs) (A0 t.ks) (A5 dc) (A5 dk) (V4 _ (by rw[F3];omega) (H8 _) dc h.dc) (G4 _ (by rw[B4];have:=h.hk;omega) (C9 _) dk h.dk) _ hf0 hdf2 t.xs h.hxb h.hxs h.dx
 have hcl:=F3 t.cs
 have q0:g0.d=B5 (A5 g0.d) (A0 g0.cs):=(O6 g0.sld).symm
 have e1:A9 (t.cs++[c.co])=A9 t.cs++[c.co.ds]:=by simp[A9]
 rw[e1]
 obtain⟨k,nm,to,⟨cn,ck,cl⟩,⟨vk,vn,vs⟩⟩:=c
 dsimp only at hk
 subst hk
 obtain⟨f,hf⟩:∃f,f=D4 nm t.cs:=⟨_,rfl⟩
 have hF:Bi.Pure Tryz.prog U7 [eT t.nm dc dk df dx,.d (.str nm)] (.d (eI f)):=by rw[hf];exact hF
 rw[show dF t.fs=B5 false (G5 [g0]) by rw[hfs];rfl]
 generalize A9 t.cs=Cs at hK hcl q0 ⊢
 generalize A0 t.ks=Ks at hK hcl q0 ⊢
 generalize xL (t.xs.map (B7 0))=Xs at hK hcl q0 ⊢
 generalize A5 dk=b2 at hK hcl q0 ⊢
 generalize A5 dc=b1 at hK hcl q0 ⊢
 generalize A0 g0.cs=G0 at hK hcl q0 ⊢
 generalize A5 g0.d=n0 at hK hcl q0 ⊢
 obtain⟨u0,hu0⟩:∃x,x=g0.tb:=⟨_,rfl⟩
 rw[<- hu0] at hK
 refine B0.deepP (Q:=λr os=>r=.tup [.agg [.d (.str t.nm),.arr 5 (Cs++[[.str cn,eI ck,.bool cl]]).length,.arr 6 Ks.length,.rs 8 1,.arr 9 Xs.length],.d (eI 0)]/\os[5]?=some (.arr (Cs++[[.str cn,eI ck,.bool cl]]) 3 0 false)/\os[6]?=some (.arr Ks 1 0 b2)/\os[8]?=some (.rarr [[.arr 10 G0.length,.d (.str u0)]] 2 false)/\os[9]?=some (.arr Xs 7 0 Xs.isEmpty)/\os[10]?=some (.arr G0 1 0 n0)) ?_ ?_
 ·refine V5.goO2 A4 rfl ?_
  repeat' first|refine st ?_|((with_reducible first|apply I5|apply I8);(·exact hK);(try rintro _ _ ⟨rfl,rfl⟩))|((with_reducible apply I9);(·exact hK))|refine⟨λ_=>?_,λ_=>?_⟩|fail
  exact⟨rfl,rfl,rfl,rfl,rfl,rfl⟩
 ·rintro r os ⟨rfl,hx0,hx1,hx2,hx3,hx4⟩
  refine V6 (rows:=[[.arr 10 G0.length,.d (.str u0)]]) (fs:=[g0]) (.inl (.inr ⟨5,_,3,0,false,rfl,hx0,rfl⟩)) hx1 hx2 hx3 rfl (λi e g he hg=>?_)
  match i,he,hg with
  |0,he,hg=>cases he;cases hg;exact⟨10,_,n0,by rw[hu0],hx4,q0⟩
  |i+1,he,hg=>simp at he
theorem C2Q(t:Tb)(dc dk df dx:D)(h:N6 t dc dk df dx)(c:Ch)(hc:H6 c)(hq:C7 t c=0)(g0:Fo)(hfs:t.fs=[g0])(hk:c.k=3)(i:Nat)(hi:D4 c.nm t.cs=i)(co:Co)(hco:t.cs[i]?=some co)(hdc:dc=.sl (A9 t.cs)) :
  Pure Tryz.prog Q9 [eT t.nm dc dk df dx,c.av] (.tup [eT t.nm (.sl (A9 (t.cs.set i ⟨c.to,co.k,co.nl⟩))) (B5 (A5 dk) (A0 t.ks)) (dF t.fs) (B5 (xL (t.xs.map (B7 0))).isEmpty (xL (t.xs.map (B7 0)))),.d (eI 0)]):=by
 have hC:=U4 t dc dk df dx h c hc
 rw[hq] at hC
 have hF:=S7 t.nm t.cs h.hl dc dk df dx h.dc c.nm
 have hl:=h.hl
 have hdf:=h.df
 have hfc:=h.hfc
 rw[hfs] at hdf hfc
 rw[hi] at hF
 have hdf2:df=.sl (R6 [⟨g0.d,A0 g0.cs,A5 g0.d,g0.tb⟩]):=by
  rcases hdf with ⟨_,h2⟩|h2
  ·cases h2
  ·exact h2
 have hf0:(Fi.mk g0.d (A0 g0.cs) (A5 g0.d) g0.tb).ok:=G4 _ (by rw[B4];have:=(hfc g0 (by simp)).1;omega) (C9 _) g0.d g0.sld
 have hK:=A5b t.nm dc dk df dx (A9 t.cs) (A0 t.ks) (A5 dc) (A5 dk) (V4 _ (by rw[F3];omega) (H8 _) dc h.dc) (G4 _ (by rw[B4];have:=h.hk;omega) (C9 _) dk h.dk) _ hf0 hdf2 t.xs h.hxb h.hxs h.dx
 have hcl:=F3 t.cs
 rw[show A5 dc=false by rw[hdc];rfl] at hK
 have q0:g0.d=B5 (A5 g0.d) (A0 g0.cs):=(O6 g0.sld).symm
 have hg:(A9 t.cs)[((i:Nat):Int).toNat]?=some [.str co.nm,eI co.k,.bool co.nl]:=L4 hco
 have hg2:(A9 t.cs)[i]?=some [.str co.nm,eI co.k,.bool co.nl]:=L4 hco
 have hmm:=H8 t.cs
 have hilt:i<(A9 t.cs).length:=by rw[hcl];exact(A7.1 hco).1
 have e1:A9 (t.cs.set i ⟨c.to,co.k,co.nl⟩)=(A9 t.cs).set i [.str c.to,eI co.k,.bool co.nl]:=by unfold A9;rw[W8]
 rw[e1]
 obtain⟨k,nm,to,⟨cn,ck,cl⟩,⟨vk,vn,vs⟩⟩:=c
 dsimp only at hk
 subst hk
 have hF:Bi.Pure Tryz.prog U7 [eT t.nm dc dk df dx,.d (.str nm)] (.d (eI i)):=hF
 rw[show dF t.fs=B5 false (G5 [g0]) by rw[hfs];rfl]
 generalize A9 t.cs=Cs at hK hcl hg hg2 hmm hilt q0 ⊢
 generalize A0 t.ks=Ks at hK hcl hg hg2 hmm hilt q0 ⊢
 generalize xL (t.xs.map (B7 0))=Xs at hK hcl hg hg2 hmm hilt q0 ⊢
 generalize A5 dk=b2 at hK hcl hg hg2 hmm hilt q0 ⊢
 generalize A0 g0.cs=G0 at hK hcl hg hg2 hmm hilt q0 ⊢
 generalize A5 g0.d=n0 at hK hcl hg hg2 hmm hilt q0 ⊢
 obtain⟨u0,hu0⟩:∃x,x=g0.tb:=⟨_,rfl⟩
 rw[<- hu0] at hK
 refine B0.deepP (Q:=λr os=>r=.tup [.agg [.d (.str t.nm),.arr 5 (Cs.set i [.str to,eI co.k,.bool co.nl]).length,.arr 6 Ks.length,.rs 8 1,.arr 9 Xs.length],.d (eI 0)]/\os[5]?=some (.arr (Cs.set i [.str to,eI co.k,.bool co.nl]) 3 0 false)/\os[6]?=some (.arr Ks 1 0 b2)/\os[8]?=some (.rarr [[.arr 10 G0.length,.d (.str u0)]] 2 false)/\os[9]?=some (.arr Xs 7 0 Xs.isEmpty)/\os[10]?=some (.arr G0 1 0 n0)) ?_ ?_
 ·refine V5.goO2 A4 rfl ?_
  rw[U6]
  repeat' first|refine st ?_|((with_reducible first|apply I5|apply I8);(·exact hK);(try rintro _ _ ⟨rfl,rfl⟩))|((with_reducible apply I9);(·exact hK))|refine⟨λ_=>?_,λ_=>?_⟩|fail
  exact⟨rfl,rfl,rfl,rfl,rfl,rfl⟩
 ·rintro r os ⟨rfl,hx0,hx1,hx2,hx3,hx4⟩
  refine V6 (rows:=[[.arr 10 G0.length,.d (.str u0)]]) (fs:=[g0]) (.inl (.inr ⟨5,_,3,0,false,rfl,hx0,rfl⟩)) hx1 hx2 hx3 rfl (λi e g he hg=>?_)
  match i,he,hg with
  |0,he,hg=>cases he;cases hg;exact⟨10,_,n0,by rw[hu0],hx4,q0⟩
  |i+1,he,hg=>simp at he
theorem C2R(t:Tb)(dc dk df dx:D)(h:N6 t dc dk df dx)(c:Ch)(hc:H6 c)(hq:C7 t c=0)(g0:Fo)(hfs:t.fs=[g0])(hk:c.k=4)(i:Nat)(hi:D4 c.nm t.cs=i)(co:Co)(hco:t.cs[i]?=some co)(hdc:dc=.sl (A9 t.cs)) :
  Pure Tryz.prog Q9 [eT t.nm dc dk df dx,c.av] (.tup [eT t.nm (.sl (A9 (t.cs.set i ⟨co.nm,2,co.nl⟩))) (B5 (A5 dk) (A0 t.ks)) (dF t.fs) (B5 (xL (t.xs.map (B7 0))).isEmpty (xL (t.xs.map (B7 0)))),.d (eI 0)]):=by
 have hC:=U4 t dc dk df dx h c hc
 rw[hq] at hC
 have hF:=S7 t.nm t.cs h.hl dc dk df dx h.dc c.nm
 have hl:=h.hl
 have hdf:=h.df
 have hfc:=h.hfc
 rw[hfs] at hdf hfc
 rw[hi] at hF
 have hdf2:df=.sl (R6 [⟨g0.d,A0 g0.cs,A5 g0.d,g0.tb⟩]):=by
  rcases hdf with ⟨_,h2⟩|h2
  ·cases h2
  ·exact h2
 have hf0:(Fi.mk g0.d (A0 g0.cs) (A5 g0.d) g0.tb).ok:=G4 _ (by rw[B4];have:=(hfc g0 (by simp)).1;omega) (C9 _) g0.d g0.sld
 have hK:=A5b t.nm dc dk df dx (A9 t.cs) (A0 t.ks) (A5 dc) (A5 dk) (V4 _ (by rw[F3];omega) (H8 _) dc h.dc) (G4 _ (by rw[B4];have:=h.hk;omega) (C9 _) dk h.dk) _ hf0 hdf2 t.xs h.hxb h.hxs h.dx
 have hcl:=F3 t.cs
 rw[show A5 dc=false by rw[hdc];rfl] at hK
 have q0:g0.d=B5 (A5 g0.d) (A0 g0.cs):=(O6 g0.sld).symm
 have hg:(A9 t.cs)[((i:Nat):Int).toNat]?=some [.str co.nm,eI co.k,.bool co.nl]:=L4 hco
 have hg2:(A9 t.cs)[i]?=some [.str co.nm,eI co.k,.bool co.nl]:=L4 hco
 have hmm:=H8 t.cs
 have hilt:i<(A9 t.cs).length:=by rw[hcl];exact(A7.1 hco).1
 have e1:A9 (t.cs.set i ⟨co.nm,2,co.nl⟩)=(A9 t.cs).set i [.str co.nm,eI 2,.bool co.nl]:=by unfold A9;rw[W8]
 rw[e1]
 obtain⟨k,nm,to,⟨cn,ck,cl⟩,⟨vk,vn,vs⟩⟩:=c
 dsimp only at hk
 subst hk
 have hF:Bi.Pure Tryz.prog U7 [eT t.nm dc dk df dx,.d (.str nm)] (.d (eI i)):=hF
 rw[show dF t.fs=B5 false (G5 [g0]) by rw[hfs];rfl]
 generalize A9 t.cs=Cs at hK hcl hg hg2 hmm hilt q0 ⊢
 generalize A0 t.ks=Ks at hK hcl hg hg2 hmm hilt q0 ⊢
 generalize xL (t.xs.map (B7 0))=Xs at hK hcl hg hg2 hmm hilt q0 ⊢
 generalize A5 dk=b2 at hK hcl hg hg2 hmm hilt q0 ⊢
 generalize A0 g0.cs=G0 at hK hcl hg hg2 hmm hilt q0 ⊢
 generalize A5 g0.d=n0 at hK hcl hg hg2 hmm hilt q0 ⊢
 obtain⟨u0,hu0⟩:∃x,x=g0.tb:=⟨_,rfl⟩
 rw[<- hu0] at hK
 refine B0.deepP (Q:=λr os=>r=.tup [.agg [.d (.str t.nm),.arr 5 (Cs.set i [.str co.nm,eI 2,.bool co.nl]).length,.arr 6 Ks.length,.rs 8 1,.arr 9 Xs.length],.d (eI 0)]/\os[5]?=some (.arr (Cs.set i [.str co.nm,eI 2,.bool co.nl]) 3 0 false)/\os[6]?=some (.arr Ks 1 0 b2)/\os[8]?=some (.rarr [[.arr 10 G0.length,.d (.str u0)]] 2 false)/\os[9]?=some (.arr Xs 7 0 Xs.isEmpty)/\os[10]?=some (.arr G0 1 0 n0)) ?_ ?_
 ·refine V5.goO2 A4 rfl ?_
  rw[U6]
  repeat' first|refine st ?_|((with_reducible first|apply I5|apply I8);(·exact hK);(try rintro _ _ ⟨rfl,rfl⟩))|((with_reducible apply I9);(·exact hK))|refine⟨λ_=>?_,λ_=>?_⟩|fail
  exact⟨rfl,rfl,rfl,rfl,rfl,rfl⟩
 ·rintro r os ⟨rfl,hx0,hx1,hx2,hx3,hx4⟩
  refine V6 (rows:=[[.arr 10 G0.length,.d (.str u0)]]) (fs:=[g0]) (.inl (.inr ⟨5,_,3,0,false,rfl,hx0,rfl⟩)) hx1 hx2 hx3 rfl (λi e g he hg=>?_)
  match i,he,hg with
  |0,he,hg=>cases he;cases hg;exact⟨10,_,n0,by rw[hu0],hx4,q0⟩
  |i+1,he,hg=>simp at he
theorem C2P(t:Tb)(dc dk df dx:D)(h:N6 t dc dk df dx)(c:Ch)(hc:H6 c)(hq:C7 t c=0)(g0:Fo)(hfs:t.fs=[g0])(hk:c.k=2)(i:Nat)(hi:D4 c.nm t.cs=i)(hil:i<t.cs.length)(hdc:dc=.sl (A9 t.cs))(hkb:∀k∈t.ks,0<=k/\k<=1048576)(hfb:∀g∈t.fs,∀k∈g.cs,0<=k/\k<=1048576)(hxb:∀e∈t.xs.map (B7 0),e.bk<=1048576) :
  Pure Tryz.prog Q9 [eT t.nm dc dk df dx,c.av] (.tup [eT t.nm (.sl (A9 (t.cs.eraseIdx i))) (B5 (A5 dk) (A0 (t.ks.map λc=>A6 c i))) (dF (t.fs.map (I1 i))) (B5 (xL (t.xs.map (B7 0))).isEmpty (xL ((t.xs.map (B7 0)).map (D8 (H5 t.cs.length i))))),.d (eI 0)]):=by
 have hC:=U4 t dc dk df dx h c hc
 rw[hq] at hC
 have hF:=S7 t.nm t.cs h.hl dc dk df dx h.dc c.nm
 have hl:=h.hl
 have hdf:=h.df
 have hfc:=h.hfc
 rw[hfs] at hdf hfc
 rw[hi] at hF
 have hdf2:df=.sl (R6 [⟨g0.d,A0 g0.cs,A5 g0.d,g0.tb⟩]):=by
  rcases hdf with ⟨_,h2⟩|h2
  ·cases h2
  ·exact h2
 have hf0:(Fi.mk g0.d (A0 g0.cs) (A5 g0.d) g0.tb).ok:=G4 _ (by rw[B4];have:=(hfc g0 (by simp)).1;omega) (C9 _) g0.d g0.sld
 have hK:=A5b t.nm dc dk df dx (A9 t.cs) (A0 t.ks) (A5 dc) (A5 dk) (V4 _ (by rw[F3];omega) (H8 _) dc h.dc) (G4 _ (by rw[B4];have:=h.hk;omega) (C9 _) dk h.dk) _ hf0 hdf2 t.xs h.hxb h.hxs h.dx
 have hcl:=F3 t.cs
 rw[show A5 dc=false by rw[hdc];rfl] at hK
 have hkN:A5 dk=true->t.ks=[]:=λhh=>by
  have:=m8 h.dk hh
  cases hks:t.ks with
  |nil=>rfl
  |cons a l=>rw[hks] at this;cases this
 have hxN:(xL (t.xs.map (B7 0))).isEmpty=true->t.xs.map (B7 0)=[]:=by
  intro hh
  cases hx:t.xs.map (B7 0) with
  |nil=>rfl
  |cons a l=>rw[hx] at hh;cases hh
 have hN0:A5 g0.d=true->g0.cs=[]:=λhh=>by
  have:=m8 g0.sld hh
  cases hks:g0.cs with
  |nil=>rfl
  |cons a l=>rw[hks] at this;cases this
 have hB0:=hfb g0 (by rw[hfs];simp)
 have hD:=λT0 T1 T2 T3 T4 T7=>C3j T0 T1 T2 T3 T4 T7 t.nm (A9 t.cs) (H8 _) i (by rw[hcl];exact hil) (by rw[hcl];exact hl) t.ks hkb h.hk (A5 dk) hkN (t.xs.map (B7 0)) (by rw[C6];exact h.hxs) hxb _ hxN g0.cs (A5 g0.d) g0.tb (hfc g0 (by simp)).1 hB0 hN0
 rw[hcl] at hD
 have hkl2:(A0 (t.ks.map λc=>A6 c i)).length=(A0 t.ks).length:=by rw[B4,B4,C6]
 have hxl2:(xL ((t.xs.map (B7 0)).map (D8 (H5 t.cs.length i)))).length=(xL (t.xs.map (B7 0))).length:=by rw[I7,I7,C6]
 have hkl20:(A0 (g0.cs.map λc=>A6 c i)).length=(A0 g0.cs).length:=by rw[B4,B4,C6]
 have q0:(I1 i g0).d=B5 (A5 g0.d) (A0 (g0.cs.map λc=>A6 c i)):=A1D i g0
 have e1:A9 (t.cs.eraseIdx i)=(A9 t.cs).eraseIdx i:=A4B _ _
 rw[e1]
 obtain⟨k,nm,to,⟨cn,ck,cl⟩,⟨vk,vn,vs⟩⟩:=c
 dsimp only at hk
 subst hk
 have hF:Bi.Pure Tryz.prog U7 [eT t.nm dc dk df dx,.d (.str nm)] (.d (eI i)):=hF
 rw[show dF (t.fs.map (I1 i))=B5 false (G5 [I1 i g0]) by rw[hfs];rfl]
 rw[hcl] at hK
 generalize A0 (t.ks.map λc=>A6 c i)=K2 at hK hcl hkl2 hxl2 hkl20 q0 hD ⊢
 generalize xL ((t.xs.map (B7 0)).map (D8 (H5 t.cs.length i)))=X2 at hK hcl hkl2 hxl2 hkl20 q0 hD ⊢
 generalize (A9 t.cs).eraseIdx i=E2 at hK hcl hkl2 hxl2 hkl20 q0 hD ⊢
 generalize A0 (g0.cs.map λc=>A6 c i)=H0 at hK hcl hkl2 hxl2 hkl20 q0 hD ⊢
 generalize A9 t.cs=Cs at hK hcl hkl2 hxl2 hkl20 q0 hD ⊢
 generalize A0 t.ks=Ks at hK hcl hkl2 hxl2 hkl20 q0 hD ⊢
 generalize xL (t.xs.map (B7 0))=Xs at hK hcl hkl2 hxl2 hkl20 q0 hD ⊢
 generalize A5 dk=b2 at hK hcl hkl2 hxl2 hkl20 q0 hD ⊢
 generalize A0 g0.cs=G0 at hK hcl hkl2 hxl2 hkl20 q0 hD ⊢
 generalize A5 g0.d=n0 at hK hcl hkl2 hxl2 hkl20 q0 hD ⊢
 obtain⟨u0,hu0⟩:∃x,x=g0.tb:=⟨_,rfl⟩
 rw[<- hu0] at hK
 simp only[<- hu0] at hD
 refine B0.deepP (Q:=λr os=>r=.tup [.agg [.d (.str t.nm),.d (.sl E2),.arr 6 K2.length,.rs 8 1,.arr 9 X2.length],.d (eI 0)]/\os[6]?=some (.arr K2 1 0 b2)/\os[8]?=some (.rarr [[.arr 10 H0.length,.d (.str u0)]] 2 false)/\os[9]?=some (.arr X2 7 0 Xs.isEmpty)/\os[10]?=some (.arr H0 1 0 n0)) ?_ ?_
 ·rw[hkl2,hxl2]
  rw[hkl20]
  refine V5.goO2 A4 rfl ?_
  repeat' first|refine st ?_|((with_reducible first|apply I5|apply I8);(·first|exact hK|exact hD _ _ _ _ _ _);(try rintro _ _ ⟨rfl,rfl⟩))|((with_reducible apply I9);(·first|exact hK|exact hD _ _ _ _ _ _))|refine⟨λ_=>?_,λ_=>?_⟩|fail
  exact⟨rfl,rfl,rfl,rfl,rfl⟩
 ·rintro r os ⟨rfl,hx0,hx1,hx2,hx3⟩
  refine V6 (rows:=[[.arr 10 H0.length,.d (.str u0)]]) (fs:=[I1 i g0]) (.inl (.inl rfl)) hx0 hx1 hx2 rfl (λi e g he hg=>?_)
  match i,he,hg with
  |0,he,hg=>cases he;cases hg;exact⟨10,_,n0,by rw[hu0];rfl,hx3,q0⟩
  |i+1,he,hg=>simp at he
end Go.Proofs
end
