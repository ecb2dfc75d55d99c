/- Texts of this claim, joined. No condition. -/
import Derived.Test.YtnhhopmldgpglaaGreatDoorQ9
import Derived.Shelf.LaysM
import Derived.Shelf.Strconv.Itoa3
import Derived.Shelf.Strings.Search3
import Derived.Shelf.Strings.Replace
import Derived.Test.YtnhhopmldgpglaaGreatDoorProg
import Derived.Shelf.Spec.SlicesGrow
import Derived.Ground.Names8Prog
import Derived.Test.YtnhhopmldgpglaaGreatDoorNm
import Derived.Lib.Replace
import Derived.Lib.IndexMore
import Derived.Lib.ItoaLen
import Derived.Lib.ItoaMem
set_option linter.unusedSimpArgs false
set_option linter.unusedVariables false
set_option maxRecDepth 10000
set_option maxHeartbeats 4000000
section
namespace Go.Proofs
open Go.Bi
def A4N(nm:List UInt8):List En->Prop
 |[]=>True
 |e::r=>O8 e.ch=true/\e.cr.t.nm=nm/\H8 e.cr.t=0/\(∀x∈r,O8 x.ch=false)/\(e.cr.runs (r.map En.ch)).2.2=0
structure Inv(c:List En):Prop where
 sel:∀nm,A4N nm (H7 F9 nm c)
 tm:∀e∈c,0<=e.tm/\e.tm<F9
 so:c.Pairwise λa b=>a.tm<=b.tm
theorem B8q:∀(r:List En)(t:TD),(∀x∈r,O8 x.ch=false)->r.foldl (λt e=>if O8 e.ch then e.cr else t) t=t
 |[],t,_=>rfl
 |e::r,t,h=>by
  rw[List.foldl_cons,h e (by simp)]
  exact B8q r t λx hx=>h x (by simp[hx])
theorem B71{nm:List UInt8}{e:En}{r:List En}(h:A4N nm (e::r)):x3 (e::r)=true/\u7 (e::r)=e.cr/\Q8 (e::r)=r.map En.ch/\rhT (e::r)=e.cr/\rhC (e::r)=r.map En.ch/\rhB (e::r)=true:=by
 obtain⟨h1,h2,h3,h4,h5⟩:=h
 refine⟨h1,?_,?_,?_,?_,?_⟩
 ·show(if O8 e.ch then e.cr else P1)=e.cr
  rw[if_pos h1]
 ·unfold Q8;rw[if_pos (show x3 (e::r)=true from h1)];rfl
 ·unfold rhT;rw[List.foldl_cons,h1];exact B8q r e.cr h4
 ·unfold rhC
  rw[A2I,h1]
  simp only[Bool.not_true,N8,if_false]
  rw[List.filter_eq_self.2 λx hx=>by rw[h4 x hx];rfl]
 ·unfold rhB;rw[List.any_cons,h1];rfl
theorem B72{nm:List UInt8}{e:En}{r:List En}(h:A4N nm (e::r)):J7 (e::r)=((e.cr.runs (r.map En.ch)).1,r.length,true):=by
 obtain⟨a1,a2,a3,a4,a5,a6⟩:=B71 h
 obtain⟨h1,h2,h3,h4,h5⟩:=h
 have hn:(e.cr.runs (r.map En.ch)).2.1=r.length:=by
  unfold TD.runs at h5 ⊢
  rw[if_pos h3] at h5 ⊢
  rw[(A7O _ _ _ (TD.cp_vd h3) h5).2,C7];omega
 unfold J7
 rw[if_pos a1,a2,a3,hn,h5]
 rfl
theorem B0c{a b:Tb}(h:nf a=nf b):a.nm=b.nm/\a.cs=b.cs/\a.ks=b.ks:=by
 obtain⟨_,_,_,_,_⟩:=a
 obtain⟨_,_,_,_,_⟩:=b
 injection h with h1 h2 h3
 exact⟨h1,h2,h3⟩
theorem C8r{c:List En}(h:Inv c)(nm:List UInt8):nm∈X9 F9 c↔H7 F9 nm c≠[]:=by
 constructor
 ·intro hm
  unfold X9 at hm
  obtain⟨e,he,rfl⟩:=E6.1 hm
  obtain⟨he,_⟩:=A0q.1 he
  obtain⟨he,h2⟩:=A0q.1 he
  refine List.ne_nil_of_mem (a:=e) (A0q.2 ⟨he,?_⟩)
  unfold T5
  unfold erB at h2
  rw[h2];simp
 ·intro hne
  have hs:=h.sel nm
  cases hq:H7 F9 nm c with
  |nil=>exact absurd hq hne
  |cons e r=>
   rw[hq] at hs
   have hm:e∈H7 F9 nm c:=by rw[hq];simp
   obtain⟨h1,h2⟩:=A0q.1 hm
   unfold T5 at h2
   rw[K7] at h2
   have h3:=of_decide_eq_true h2.2
   rw[<- h3]
   exact E6.2 ⟨e,A0q.2 ⟨A0q.2 ⟨h1,h2.1⟩,hs.1⟩,rfl⟩
theorem D28(l:List (List UInt8))(nm:List UInt8):(r6 l).contains nm=true↔nm∈l:=by
 rw[List.contains_iff_mem]
 exact(D27 l).mem_iff
theorem B8A:∀(l:List Ch)(x:TD)(i:Nat)(c:Ch),(TD.run x i l).2.2=0->D7 (TD.run x i l).1.t c=0->(TD.run x i (l++[c])).2.2=0
 |[],x,i,c,_,h=>by
  show(TD.run x i [c]).2.2=0
  have h:D7 x.t c=0:=h
  unfold TD.run
  rw[if_pos h]
  rfl
 |a::l,x,i,c,h1,h2=>by
  show(TD.run x i (a::(l++[c]))).2.2=0
  unfold TD.run at h1 h2 ⊢
  by_cases hq:D7 x.t a=0
  ·rw[if_pos hq] at h1 h2 ⊢
   exact B8A l _ _ c h1 h2
  ·rw[if_neg hq] at h1
   exact absurd h1 hq
theorem D1R(at':Int)(nm:List UInt8)(c:List En)(e:En):H7 at' nm (c++[e])=H7 at' nm c++if T5 at' nm e then [e] else []:=by
 unfold H7
 rw[List.filter_append,A2I]
 cases T5 at' nm e<;>rfl
theorem C9F{c:List En}(h:Inv c){e:En}(he:K5 c e=0):Inv (c++[e]):=by
 unfold K5 at he
 by_cases h0:X3 c e.tm=0
 rotate_left
 ·rw[if_neg h0] at he;exact absurd he h0
 rw[if_pos h0] at he
 have ht:0<=e.tm/\e.tm<F9:=by
  unfold X3 at h0
  by_cases g:e.tm<0\/1099511627776<=e.tm
  ·rw[if_pos g] at h0;exact absurd h0 (by decide)
  ·unfold F9;omega
 have hl:∀a∈c,a.tm<=e.tm:=by
  intro a ha
  unfold X3 at h0
  rw[if_neg (by unfold F9 at ht;omega)] at h0
  obtain⟨i,hi⟩:=A12.1 ha
  have hlt:=(B2.1 hi).1
  have hx:c[c.length-1]?=some (c[c.length-1]'(by omega)):=C5 (by omega)
  rw[hx] at h0
  dsimp only at h0
  have h1:¬e.tm<(c[c.length-1]'(by omega)).tm:=λg=>by rw[if_pos g] at h0;exact absurd h0 (by decide)
  by_cases hi2:i=c.length-1
  ·subst hi2
   rw[hx] at hi
   injection hi with hi
   rw[<- hi];omega
  ·have hp:=List.pairwise_iff_getElem.1 h.so i (c.length-1) hlt (by omega) (by omega)
   rw[C5 hlt] at hi
   injection hi with hi
   rw[hi] at hp
   omega
 refine⟨λnm=>?_,λa ha=>?_,?_⟩
 ·rw[D1R]
  cases hnb:T5 F9 nm e with
  |false=>
   rw[if_neg (by decide),A1C]
   exact h.sel nm
  |true=>
   rw[if_pos rfl]
   unfold T5 at hnb
   rw[K7] at hnb
   have htb:=of_decide_eq_true hnb.2
   subst htb
   have hs:=h.sel e.tb
   cases hb:O8 e.ch with
   |false=>
    rw[hb,if_pos rfl] at he
    cases hz:zeB e.cr.t with
    |false=>rw[hz,if_pos rfl] at he;exact absurd he (by decide)
    |true=>
     rw[hz,if_neg (by decide)] at he
     unfold W5 at he
     rw[if_neg (by rw[h0];decide)] at he
     cases hq:H7 F9 e.tb c with
     |nil=>
      rw[hq] at he
      have he:(11:Int)=0:=he
      exact absurd he (by decide)
     |cons e0 r=>
      rw[hq] at hs he
      rw[B72 hs] at he
      dsimp only at he
      rw[if_neg (show ¬(true=false) by decide)] at he
      by_cases h64:(64:Nat)<=r.length
      ·rw[if_pos h64] at he;exact absurd he (by decide)
      rw[if_neg h64] at he
      obtain⟨a1,a2,a3,a4,a5⟩:=hs
      refine⟨a1,a2,a3,λx hx=>?_,?_⟩
      ·rcases R3.1 hx with hx|hx
       ·exact a4 x hx
       ·rw[Z3.1 hx];exact hb
      ·show(e0.cr.runs ((r++[e]).map En.ch)).2.2=0
       rw[A11]
       unfold TD.runs at a5 he ⊢
       rw[if_pos a3] at a5 he ⊢
       exact B8A _ _ _ _ a5 he
   |true=>
    rw[hb,if_neg (by decide)] at he
    by_cases hn:e.tb=e.cr.t.nm
    rotate_left
    ·rw[if_neg hn] at he;exact absurd he (by decide)
    rw[if_pos hn] at he
    unfold W7 at he
    rw[if_pos h0] at he
    by_cases hv:H8 e.cr.t=0
    rotate_left
    ·rw[if_neg hv] at he;exact absurd he hv
    rw[if_pos hv] at he
    by_cases h16:16<=(X9 F9 c).length
    ·rw[if_pos h16] at he;exact absurd he (by decide)
    rw[if_neg h16] at he
    by_cases hm:e.cr.t.nm∈X9 F9 c
    ·rw[if_pos ((D28 _ _).2 hm)] at he;exact absurd he (by decide)
    cases hq:H7 F9 e.tb c with
    |nil=>
     refine⟨hb,hn.symm,hv,λx hx=>absurd hx (by simp),?_⟩
     show(e.cr.runs []).2.2=0
     unfold TD.runs
     rw[if_pos hv]
     rfl
    |cons e0 r=>
     rw[<- hn] at hm
     exact absurd ((C8r h _).2 (by rw[hq];simp)) hm
 ·rcases R3.1 ha with ha|ha
  ·exact h.tm a ha
  ·rw[Z3.1 ha];exact ht
 ·rw[List.pairwise_append]
  exact⟨h.so,List.pairwise_singleton _ _,λa ha b hb=>by rw[Z3.1 hb];exact hl a ha⟩
theorem C9E:Inv []:=⟨λ_=>trivial,λe he=>absurd he (by simp),List.Pairwise.nil⟩
theorem B5N:∀(l c:List En),Inv c->Z6 K5 c l=0->Inv (c++l)
 |[],c,h,_=>by rw[A1C];exact h
 |e::r,c,h,hc=>by
  unfold Z6 at hc
  by_cases h0:K5 c e=0
  ·rw[if_pos h0] at hc
   have:=B5N r _ (C9F h h0) hc
   rwa [List.append_assoc] at this
  ·rw[if_neg h0] at hc
   exact absurd hc h0
def En.cpR(e:En):En:=⟨e.tm,e.tb,e.cr.cpR,e.ch⟩
theorem En.cpR_ok{e:En}(h:e.ok):e.cpR.ok:=⟨TD.cpR_ok h.cr,h.ch,h.tb⟩
def kCh(k:Int):Ch:=⟨k,[],[],⟨[],0,false⟩,⟨0,0,[]⟩⟩
def Z8(at':Int)(x:TD):En:=⟨at',x.t.nm,x,kCh 0⟩
def X7(at':Int)(nm:List UInt8)(ch:Ch):En:=⟨at',nm,P1,ch⟩
theorem C9I(k:Int):I1 (kCh k):=⟨S8 _,S8 _,S8 _,S8 _⟩
theorem B61{at':Int}{x:TD}(h:x.ok):(Z8 at' x).ok:=⟨h,C9I 0,h.tok.hn⟩
theorem B5g{at':Int}{nm:List UInt8}{ch:Ch}(h:I1 ch)(hn:nm.length<=1048576):(X7 at' nm ch).ok:=⟨A2E,h,hn⟩
theorem C01(l:List (List D))(hl:l.length<=1048577)(hm:∀e∈l,e.length=16)(d:D)(hd:B8 d l):B4 Tryz.prog B4J [.d d] [] (λr os=>r=.arr 0 l.length/\os=[.arr l 16 0 (A7 d)]):=by
 rcases hd with ⟨rfl,rfl⟩|rfl
 ·refine B4.own_nil 16 (by decide) ?_
  refine B1J.go A6 rfl ?_
  repeat' first|refine st ?_|((with_reducible apply D1);conv=>whnf)|(with_reducible first|apply A5|apply A4)<;>intro _
 ·refine B1J.goO A6 rfl ?_
  have h0:([]:List (List D)).length=0:=rfl
  have h00:(([]:List (List D))++l).length=l.length:=rfl
  have hb:(([]:List (List D)).length+l.length)*240<=140737488355328/\([]:List (List D)).length+l.length<=9223372036854775807:=by rw[h0];omega
  repeat' first|refine st ?_|((with_reducible apply D1);conv=>whnf)|(with_reducible first|apply A5|apply A4)<;>intro _
  all_goals (refine⟨rfl,?_⟩;cases l<;>rfl)
def En.cpP(e:En):En:=⟨e.tm,e.tb,e.cr.cp,e.ch⟩
theorem En.cpP_ok{e:En}(h:e.ok):e.cpP.ok:=⟨TD.cp_ok h.cr,h.ch,h.tb⟩
theorem B13(c:List En)(hc:c.length<=1048575)(hok:∀e∈c,e.ok)(hf:∀e∈c,e.cr.t.fs.length<=4)(d:D)(hd:B8 d (E8 c))(e:En)(he:e.ok)(hef:e.cr.t.fs.length<=4) :
  Pure Tryz.prog A8F [.d d,e.av] (.d (.sl (E8 ((c++[e]).map En.cpP)))):=by
 have h1:=A0b (c++[e])
 have hm:=A1f (c++[e])
 have hg0:=λi x=>@A5t (c++[e]) i x
 have hok':∀x∈c++[e],x.ok:=λx hx=>by
  rcases R3.1 hx with hx|hx
  ·exact hok x hx
  ·rw[Z3.1 hx];exact he
 have hf':∀x∈c++[e],x.cr.t.fs.length<=4:=λx hx=>by
  rcases R3.1 hx with hx|hx
  ·exact hf x hx
  ·rw[Z3.1 hx];exact hef
 have hK:=C01 (E8 c) (by rw[A0b];omega) (A1f c) d hd
 have hl0:=A0b c
 have hm0:=A1f c
 have hs0:E8 (c++[e])=E8 c++[e.ds]:=by simp[E8]
 obtain⟨R,hR⟩:∃R,R=E8 ((c++[e]).map En.cpP):=⟨_,rfl⟩
 rw[<- hR]
 obtain⟨w,hw⟩:∃w,w=c++[e]:=⟨_,rfl⟩
 rw[<- hw] at h1 hm hg0 hR hok' hf' hs0
 have hwl:w.length=c.length+1:=by rw[hw];simp
 clear hok hf he hef hw
 obtain⟨es,hes⟩:∃es,es=E8 c:=⟨_,rfl⟩
 rw[<- hes] at hl0 hm0 hd hK hs0
 clear hes
 rw[hs0] at h1 hm hg0
 clear hs0
 obtain⟨tm,tb,⟨⟨nm,cs,ks,fs,xs⟩,dc,dk,df,dx⟩,⟨k,cnm,to,⟨cn,ck,cl⟩,⟨vk,vn,vs⟩⟩⟩:=e
 have hbd:(es.length+1)*240<=140737488355328:=by omega
 have h1:(es++[[eI tm,.str tb,.str nm,dc,dk,df,dx,eI k,.str cnm,.str to,.str cn,eI ck,.bool cl,eI vk,eI vn,.str vs]]).length=w.length:=h1
 have hm:∀x∈(es++[[eI tm,.str tb,.str nm,dc,dk,df,dx,eI k,.str cnm,.str to,.str cn,eI ck,.bool cl,eI vk,eI vn,.str vs]]),x.length=16:=hm
 have hg0:∀(i:Nat) (x:En),w[i]?=some x->(es++[[eI tm,.str tb,.str nm,dc,dk,df,dx,eI k,.str cnm,.str to,.str cn,eI ck,.bool cl,eI vk,eI vn,.str vs]])[i]?=some x.ds:=hg0
 show Bi.Pure Tryz.prog A8F [.d d,.agg [.d (eI tm),.d (.str tb),.d (.str nm),.d dc,.d dk,.d df,.d dx,.d (eI k),.d (.str cnm),.d (.str to),.d (.str cn),.d (eI ck),.d (.bool cl),.d (eI vk),.d (eI vn),.d (.str vs)]] (.d (.sl R))
 refine C26.go A6 rfl ?_
 repeat' first|refine st ?_|((with_reducible apply D1);conv=>whnf)|((with_reducible apply V7);(·exact hK))|(with_reducible first|apply A5|apply A4)<;>intro _
 refine r8 5 16 rfl rfl ?_
 refine P5 A6 C4z C3J (λ(i:Nat) (A:List (List D))=>[.arr 2 A.length,.d (eI i)]) (λi A=>[.cells [.d (eI tm),.d (.str tb),.d (.str nm),.d dc,.d dk,.d df,.d dx,.d (eI k),.d (.str cnm),.d (.str to),.d (.str cn),.d (eI ck),.d (.bool cl),.d (eI vk),.d (eI vn),.d (.str vs)],.arr (es++[[eI tm,.str tb,.str nm,dc,dk,df,dx,eI k,.str cnm,.str to,.str cn,eI ck,.bool cl,eI vk,eI vn,.str vs]]) 16 0 false,.arr A 16 0 A.isEmpty]) (λi A=>i<=w.length/\A=E8 ((w.take i).map En.cpP)) (λi A=>w.length-i) 0 [] rfl rfl rfl rfl (λ_ _ _=>⟨rfl,rfl⟩) rfl ⟨by omega,rfl⟩ ?_
 repeat' first|refine st ?_|((with_reducible apply D1);conv=>whnf)|(with_reducible first|apply A5|apply A4)<;>intro _
 intro i A ⟨g1,g2⟩
 have hAl:A.length<=i:=by
  rw[g2,A0b,C7,P8];omega
 have hAm:∀x∈A,x.length=16:=by rw[g2];exact A1f _
 have hbd:(A.length+1)*240<=140737488355328:=by omega
 cases hx:w[i]? with
 |some x=>
  have hlt:=(B2.1 hx).1
  have hg:(es++[[eI tm,.str tb,.str nm,dc,dk,df,dx,eI k,.str cnm,.str to,.str cn,eI ck,.bool cl,eI vk,eI vn,.str vs]])[((i:Nat):Int).toNat]?=some x.ds:=hg0 i x hx
  have hil:(i:Int)<(es++[[eI tm,.str tb,.str nm,dc,dk,df,dx,eI k,.str cnm,.str to,.str cn,eI ck,.bool cl,eI vk,eI vn,.str vs]]).length:=by omega
  have hmx:=C3 hx
  have hX:=A6s x.cr (hok' x hmx).cr (hf' x hmx)
  have hs:E8 ((w.take (i+1)).map En.cpP)=A++[x.cpP.ds]:=by
   rw[g2,S0,hx,A11];simp[E8]
  unfold En.cpP at hs
  clear g2
  obtain⟨z,hz⟩:∃z,z=x.cr.cp:=⟨_,rfl⟩
  rw[<- hz] at hX hs
  clear hz hx hg0 hm hR
  obtain⟨xtm,xtb,⟨⟨xnm,xcs,xks,xfs,xxs⟩,xdc,xdk,xdf,xdx⟩,⟨xk,xcnm,xto,⟨xcn,xck,xcl⟩,⟨xvk,xvn,xvs⟩⟩⟩:=x
  obtain⟨⟨znm,zcs,zks,zfs,zxs⟩,zdc,zdk,zdf,zdx⟩:=z
  have hs:E8 ((w.take (i+1)).map En.cpP)=A++[[eI xtm,D.str xtb,.str znm,zdc,zdk,zdf,zdx,eI xk,.str xcnm,.str xto,.str xcn,eI xck,.bool xcl,eI xvk,eI xvn,.str xvs]]:=hs
  have hg:(es++[[eI tm,.str tb,.str nm,dc,dk,df,dx,eI k,.str cnm,.str to,.str cn,eI ck,.bool cl,eI vk,eI vn,.str vs]])[((i:Nat):Int).toNat]?=some [eI xtm,.str xtb,.str xnm,xdc,xdk,xdf,xdx,eI xk,.str xcnm,.str xto,.str xcn,eI xck,.bool xcl,eI xvk,eI xvn,.str xvs]:=hg
  have hX:Bi.Pure Tryz.prog A0s [eT xnm xdc xdk xdf xdx] (eT znm zdc zdk zdf zdx):=hX
  have hne:(A++[[eI xtm,D.str xtb,.str znm,zdc,zdk,zdf,zdx,eI xk,.str xcnm,.str xto,.str xcn,eI xck,.bool xcl,eI xvk,eI xvn,.str xvs]]).isEmpty=false:=by simp
  repeat' first|refine st ?_|((with_reducible apply D1);conv=>whnf)|((with_reducible first|apply A9|apply A8);(·exact hX))|(with_reducible first|apply A5|apply A4)<;>intro _
  refine⟨i+1,_,?_,rfl,?_,by omega,by omega,hs.symm⟩
  ·simp
  ·rw[hne];rfl
 |none=>
  have hge:=E4.1 hx
  have hil:((es++[[eI tm,.str tb,.str nm,dc,dk,df,dx,eI k,.str cnm,.str to,.str cn,eI ck,.bool cl,eI vk,eI vn,.str vs]]).length:Int)<=i:=by omega
  rw[P2 hge,<- hR] at g2
  have hne:A.isEmpty=false:=by
   have:A.length=w.length:=by rw[g2,hR,A0b,C7]
   cases A with
   |nil=>simp at this;omega
   |cons a r=>rfl
  clear hR hg0 hx
  subst g2
  repeat' first|refine st ?_|((with_reducible apply D1);conv=>whnf)|(with_reducible first|apply A5|apply A4)<;>intro _
  all_goals first|(exfalso;omega)|(rw[hne];rfl)
def nT(x:TD):TD:=⟨nf x.t,.nil,.nil,.nil,.nil⟩
def nE(e:En):En:=⟨e.tm,e.tb,nT e.cr,e.ch⟩
theorem D0f(e:En):nE e.cpP=nE e:=by
 unfold nE nT En.cpP
 dsimp only
 rw[A2s]
theorem A7x(l:List En):(l.map En.cpP).map nE=l.map nE:=by
 rw[V4];exact S7 λe _=>D0f e
theorem A9I{p:En->Bool}(hp:∀e,p (nE e)=p e)(l:List En):(l.map nE).filter p=(l.filter p).map nE:=by
 rw[List.filter_map]
 congr 1
 exact List.filter_congr λe _=>hp e
theorem A4g(at':Int)(nm:List UInt8)(c:List En):H7 at' nm (c.map nE)=(H7 at' nm c).map nE:=A9I (λ_=>rfl) c
theorem C8s(at':Int)(c:List En):X9 at' (c.map nE)=X9 at' c:=by
 unfold X9
 rw[A9I (λ_=>rfl),A9I (λ_=>rfl),V4]
 rfl
theorem B0F(c:List En)(t:Int):X3 (c.map nE) t=X3 c t:=by
 unfold X3
 rw[C7,F4]
 cases c[c.length-1]?<;>rfl
theorem D1N{x y:TD}(h:nf x.t=nf y.t)(l:List Ch):(x.runs l).2=(y.runs l).2/\nf (x.runs l).1.t=nf (y.runs l).1.t:=by
 unfold TD.runs
 have ht:H8 x.t=H8 y.t:=by rw[<- A4m,h,A4m]
 rw[ht]
 by_cases h0:H8 y.t=0
 ·rw[if_pos h0,if_pos h0]
  obtain⟨h1,h2,h3⟩:=B8y l x.cp y.cp 0 0 (by rw[A2s,A2s,h])
  exact⟨Prod.ext (by omega) h1,h3⟩
 ·rw[if_neg h0,if_neg h0];exact⟨rfl,rfl⟩
theorem A7A(s:List En):(J7 (s.map nE)).2=(J7 s).2/\nf (J7 (s.map nE)).1.t=nf (J7 s).1.t:=by
 cases s with
 |nil=>exact⟨rfl,rfl⟩
 |cons e r=>
  have hb:x3 ((e::r).map nE)=x3 (e::r):=rfl
  have hc:Q8 ((e::r).map nE)=Q8 (e::r):=by
   unfold Q8
   rw[hb]
   by_cases h:x3 (e::r)=true
   ·rw[if_pos h,if_pos h]
    show(r.map nE).map En.ch=r.map En.ch
    rw[V4];rfl
   ·rw[if_neg h,if_neg h]
  have ht:nf (u7 ((e::r).map nE)).t=nf (u7 (e::r)).t:=by
   show nf (if O8 e.ch then nT e.cr else P1).t=nf (if O8 e.ch then e.cr else P1).t
   cases O8 e.ch
   ·rfl
   ·exact B7J _
  obtain⟨k1,k2⟩:=D1N ht (Q8 (e::r))
  unfold J7
  rw[hb,hc]
  by_cases h:x3 (e::r)=true
  ·rw[if_pos h,if_pos h]
   dsimp only
   rw[k1]
   exact⟨rfl,k2⟩
  ·rw[if_neg h,if_neg h];exact⟨rfl,rfl⟩
theorem D38(t:Tb):zeB (nf t)=zeB t:=by
 have k:∀{α β:Type} (f:α->β) (l:List α),(l.map f).isEmpty=l.isEmpty:=λf l=>by cases l<;>rfl
 unfold zeB nf
 dsimp only
 rw[k,k]
theorem D1d(x:TD)(c:List En)(nm:List UInt8):(o9 (nT x) (c.map nE) nm).2=(o9 x c nm).2/\(o9 (nT x) (c.map nE) nm).1.t.cs=(o9 x c nm).1.t.cs/\(o9 (nT x) (c.map nE) nm).1.t.ks=(o9 x c nm).1.t.ks:=by
 unfold o9
 by_cases hn:nm=x.t.nm
 ·rw[if_pos hn,if_pos (show nm=(nT x).t.nm from hn)];exact⟨rfl,rfl,rfl⟩
 ·rw[if_neg hn,if_neg (show ¬nm=(nT x).t.nm from hn),A4g]
  obtain⟨h1,h2⟩:=A7A (H7 F9 nm c)
  obtain⟨_,b2,b3⟩:=B0c h2
  exact⟨by rw[h1],b2,b3⟩
theorem B6W(x:TD)(c:List En):∀l:List Fo,A2n (nT x) (c.map nE) (l.map M9)=A2n x c l
 |[]=>rfl
 |f::r=>by
  obtain⟨h1,h2,h3⟩:=D1d x c f.tb
  have e:frE (nT x) (c.map nE) (M9 f)=frE x c f:=by
   unfold frE
   rw[show(M9 f).tb=f.tb from rfl,h1,h2,h3]
   rfl
  show(if frE (nT x) (c.map nE) (M9 f)=0 then A2n (nT x) (c.map nE) (r.map M9) else frE (nT x) (c.map nE) (M9 f))=_
  rw[e,B6W x c r]
  rfl
theorem C8t(c:List En)(at':Int)(x:TD):W7 (c.map nE) at' (nT x)=W7 c at' x:=by
 unfold W7
 rw[B0F,show H8 (nT x).t=H8 x.t from A4m x.t,C8s,show(nT x).t.nm=x.t.nm from rfl,show(nT x).t.fs=x.t.fs.map M9 from rfl,B6W]
theorem C7b(c:List En)(at':Int)(nm:List UInt8)(ch:Ch):W5 (c.map nE) at' nm ch=W5 c at' nm ch:=by
 unfold W5
 rw[B0F,A4g]
 obtain⟨h1,h2⟩:=A7A (H7 F9 nm c)
 rw[h1,show D7 (J7 ((H7 F9 nm c).map nE)).1.t ch=D7 (J7 (H7 F9 nm c)).1.t ch by rw[<- A2m,h2,A2m]]
theorem C8Q(c:List En)(e:En):K5 (c.map nE) (nE e)=K5 c e:=by
 unfold K5
 show(if X3 (c.map nE) e.tm=0 then (if O8 e.ch=false then (if zeB (nf e.cr.t)=false then 8 else W5 (c.map nE) e.tm e.tb e.ch) else (if e.tb=e.cr.t.nm then W7 (c.map nE) e.tm (nT e.cr) else 8)) else X3 (c.map nE) e.tm)=_
 rw[B0F,D38,C7b,C8t]
theorem A9k:∀(l p:List En),Z6 K5 (p.map nE) (l.map nE)=Z6 K5 p l
 |[],p=>rfl
 |e::r,p=>by
  show(if K5 (p.map nE) (nE e)=0 then Z6 K5 (p.map nE++[nE e]) (r.map nE) else K5 (p.map nE) (nE e))=_
  rw[C8Q,show p.map nE++[nE e]=(p++[e]).map nE by simp,A9k r]
  rfl
theorem B5L{a b:List En}(h:a.map nE=b.map nE):Z6 K5 [] a=Z6 K5 [] b:=by
 have h1:=A9k a []
 have h2:=A9k b []
 rw[h] at h1
 exact h1.symm.trans h2
theorem A9m:∀(l p:List En)(e:En),Z6 K5 p (l++[e])=if Z6 K5 p l=0 then K5 (p++l) e else Z6 K5 p l
 |[],p,e=>by
  show(if K5 p e=0 then 0 else K5 p e)=if (0:Int)=0 then K5 (p++[]) e else 0
  rw[if_pos rfl,A1C]
  split
  ·rename_i h;exact h.symm
  ·rfl
 |a::r,p,e=>by
  show(if K5 p a=0 then Z6 K5 (p++[a]) (r++[e]) else K5 p a)=if (if K5 p a=0 then Z6 K5 (p++[a]) r else K5 p a)=0 then _ else (if K5 p a=0 then Z6 K5 (p++[a]) r else K5 p a)
  by_cases h:K5 p a=0
  ·rw[if_pos h,if_pos h,A9m r (p++[a]) e,List.append_assoc];rfl
  ·rw[if_neg h,if_neg h,if_neg h]
theorem B6f{c:List En}{e:En}(h:K5 c e=0):e.cr.t.fs.length<=4:=by
 unfold K5 at h
 by_cases h0:X3 c e.tm=0
 rotate_left
 ·rw[if_neg h0] at h;exact absurd h h0
 rw[if_pos h0] at h
 cases hb:O8 e.ch with
 |false=>
  rw[hb,if_pos rfl] at h
  cases hz:zeB e.cr.t with
  |false=>rw[hz,if_pos rfl] at h;exact absurd h (by decide)
  |true=>
   unfold zeB at hz
   simp only[K7,s5] at hz
   rw[hz.2.2.2.1];decide
 |true=>
  rw[hb,if_neg (by decide)] at h
  by_cases hn:e.tb=e.cr.t.nm
  ·rw[if_pos hn] at h
   unfold W7 at h
   rw[if_pos h0] at h
   by_cases ht:H8 e.cr.t=0
   ·exact(m5.1 ht).fl
   ·rw[if_neg ht] at h;exact absurd h ht
  ·rw[if_neg hn] at h;exact absurd h (by decide)
theorem B5M:∀(l p:List En),Z6 K5 p l=0->∀e∈l,e.cr.t.fs.length<=4
 |[],_,_,e,he=>absurd he (by simp)
 |a::r,p,h,e,he=>by
  have h:(if K5 p a=0 then Z6 K5 (p++[a]) r else K5 p a)=0:=h
  by_cases g:K5 p a=0
  ·rw[if_pos g] at h
   rcases L4.1 he with rfl|he
   ·exact B6f g
   ·exact B5M r _ h e he
  ·rw[if_neg g] at h;exact absurd h g
theorem C8q{ch:Ch}(h:O8 ch=true):ch=kCh 0:=by
 unfold O8 at h
 simp only[K7,decide_eq_true_eq,Bool.not_eq_true'] at h
 obtain⟨k,cnm,to,⟨cn,ck,cl⟩,⟨vk,vn,vs⟩⟩:=ch
 dsimp only at h
 obtain⟨rfl,rfl,rfl,rfl,rfl,rfl,rfl,rfl,rfl⟩:=h
 rfl
theorem C98(t:Tb):D7 t (kCh 0)=D7 t (kCh (-1))/\D7 t (kCh 0)≠0:=by
 unfold D7 kCh
 dsimp only
 by_cases h:H8 t=0
 ·rw[if_neg (λg=>g h),if_pos (show ¬(1<=(0:Int)/\(0:Int)<=4) by decide),if_neg (λg=>g h),if_pos (show ¬(1<=(-1:Int)/\(-1:Int)<=4) by decide)]
  exact⟨rfl,by decide⟩
 ·rw[if_pos h,if_pos h];exact⟨rfl,h⟩
theorem C7c(c:List En)(at':Int)(nm:List UInt8):W5 c at' nm (kCh 0)=W5 c at' nm (kCh (-1))/\W5 c at' nm (kCh 0)≠0:=by
 unfold W5
 obtain⟨h1,h2⟩:=C98 (J7 (H7 F9 nm c)).1.t
 rw[<- h1]
 refine⟨rfl,?_⟩
 split
 ·assumption
 ·split
  ·decide
  ·split
   ·decide
   ·exact h2
theorem C8R(c:List En)(at':Int)(nm:List UInt8){ch:Ch}(h:O8 ch=false):K5 c (X7 at' nm ch)=W5 c at' nm ch:=by
 unfold K5 X7
 dsimp only
 rw[h,if_pos rfl,if_neg (show ¬zeB P1.t=false by decide)]
 split
 ·rfl
 ·rename_i g
  unfold W5
  rw[if_pos g]
theorem B6e(c:List En)(at':Int)(x:TD):K5 c (Z8 at' x)=W7 c at' x:=by
 unfold K5 Z8
 dsimp only
 rw[show O8 (kCh 0)=true from rfl,if_neg (show ¬(true=false) by decide),if_pos rfl]
 split
 ·rfl
 ·rename_i g
  unfold W7
  rw[if_neg g]
def wtP(c:List En)(e:En)(q:Int):D:=if q=0 then .sl (E8 ((c++[e]).map En.cpP)) else .nil
theorem B0Z(c:List En)(hc:c.length<=1048575)(hok:∀e∈c,e.ok)(hf:∀e∈c,e.cr.t.fs.length<=4)(d:D)(hd:B8 d (E8 c))(at':Int)(x:TD)(hx:x.ok) :
  Pure Tryz.prog A52 [.d d,.d (eI at'),x.av] (.tup [.d (wtP c (Z8 at' x) (W7 c at' x)),.d (eI (W7 c at' x))]):=by
 have hK:=C00 c (by omega) hok d hd at' x hx
 by_cases h0:W7 c at' x=0
 ·have hW:=B13 c hc hok hf d hd (Z8 at' x) (B61 hx) (B6f ((B6e c at' x).trans h0))
  unfold wtP
  rw[h0] at hK ⊢
  rw[if_pos rfl]
  obtain⟨w,hw⟩:∃w,w=E8 ((c++[Z8 at' x]).map En.cpP):=⟨_,rfl⟩
  rw[<- hw] at hW ⊢
  clear hw h0
  obtain⟨⟨nm,cs,ks,fs,xs⟩,dc,dk,df,dx⟩:=x
  refine B1v.go A6 rfl ?_
  repeat' first|refine st ?_|((with_reducible first|apply A9|apply A8);(·first|exact hK|exact hW))|(with_reducible first|apply A5|apply A4)<;>intro _
  all_goals rfl
 ·unfold wtP
  rw[if_neg h0]
  obtain⟨q,hq⟩:∃q,q=W7 c at' x:=⟨_,rfl⟩
  rw[<- hq] at hK h0 ⊢
  clear hq
  obtain⟨⟨nm,cs,ks,fs,xs⟩,dc,dk,df,dx⟩:=x
  refine B1v.go A6 rfl ?_
  repeat' first|refine st ?_|((with_reducible first|apply A9|apply A8);(·exact hK))|(with_reducible first|apply A5|apply A4)<;>intro _
  all_goals rfl
theorem B9V(c:List En)(hc:c.length<=1048575)(hok:∀e∈c,e.ok)(hf:∀e∈c,e.cr.t.fs.length<=4)(d:D)(hd:B8 d (E8 c))(at':Int)(nm:List UInt8)(hn:nm.length<=1048576)(ch:Ch)(hch:I1 ch) :
  Pure Tryz.prog A51 [.d d,.d (eI at'),.d (.str nm),ch.av] (.tup [.d (wtP c (X7 at' nm ch) (W5 c at' nm ch)),.d (eI (W5 c at' nm ch))]):=by
 have hK:=B9Z c (by omega) hok d hd at' nm ch hch
 have hW:=B13 c hc hok hf d hd (X7 at' nm ch) (B5g hch hn) (show([]:List Fo).length<=4 by decide)
 unfold wtP
 obtain⟨w,hw⟩:∃w,w=E8 ((c++[X7 at' nm ch]).map En.cpP):=⟨_,rfl⟩
 rw[<- hw] at hW ⊢
 obtain⟨q,hq⟩:∃q,q=W5 c at' nm ch:=⟨_,rfl⟩
 rw[<- hq] at hK ⊢
 clear hq hw
 obtain⟨k,cnm,to,⟨cn,ck,cl⟩,⟨vk,vn,vs⟩⟩:=ch
 by_cases h0:q=0
 ·subst h0
  rw[if_pos rfl]
  refine B1t.go A6 rfl ?_
  repeat' first|refine st ?_|((with_reducible first|apply A9|apply A8);(·first|exact hK|exact hW))|(with_reducible first|apply A5|apply A4)<;>intro _
  all_goals rfl
 ·rw[if_neg h0]
  refine B1t.go A6 rfl ?_
  repeat' first|refine st ?_|((with_reducible first|apply A9|apply A8);(·exact hK))|(with_reducible first|apply A5|apply A4)<;>intro _
  all_goals rfl
theorem B98{c:List En}{e:En}(h:∀x∈c,x.ok)(he:e.ok):∀x∈(c++[e]).map En.cpP,x.ok:=λx hx=>by
 obtain⟨y,hy,rfl⟩:=E6.1 hx
 rcases R3.1 hy with hy|hy
 ·exact En.cpP_ok (h y hy)
 ·rw[Z3.1 hy];exact En.cpP_ok he
end Go.Proofs
end
section
namespace Go.Proofs
open Go.Shelf
def Tryz.laysM171_ren:Go.Shelf.Ren:=⟨fun|171=>110|243=>142|246=>181|283=>207|284=>208|285=>209|286=>210|129=>171|317=>230|318=>231|319=>232|320=>233|337=>244|338=>245|n=>n,fun|3=>3|9=>9|2=>2|4=>4|171=>212|0=>0|53=>179|37=>189|5=>5|173=>214|212=>230|51=>177|20=>20|213=>231|46=>147|232=>244|233=>245|n=>n,fun|17=>0|18=>4|19=>5|n=>n⟩
theorem Tryz.laysM171:Go.Proofs.LaysM.n171 Tryz.prog Tryz.laysM171_ren:={
 mixed:=by kernel_rfl
 f129:=Tryz.func171.trans (congrArg some (by kernel_rfl))
 f171:=Tryz.func110.trans (congrArg some (by kernel_rfl))
 f243:=Tryz.func142.trans (congrArg some (by kernel_rfl))
 f246:=Tryz.func181.trans (congrArg some (by kernel_rfl))
 f283:=Tryz.func207.trans (congrArg some (by kernel_rfl))
 f284:=Tryz.func208.trans (congrArg some (by kernel_rfl))
 f285:=Tryz.func209.trans (congrArg some (by kernel_rfl))
 f286:=Tryz.func210.trans (congrArg some (by kernel_rfl))
 f317:=Tryz.func230.trans (congrArg some (by kernel_rfl))
 f318:=Tryz.func231.trans (congrArg some (by kernel_rfl))
 f319:=Tryz.func232.trans (congrArg some (by kernel_rfl))
 f320:=Tryz.func233.trans (congrArg some (by kernel_rfl))
 f337:=Tryz.func244.trans (congrArg some (by kernel_rfl))
 f338:=Tryz.func245.trans (congrArg some (by kernel_rfl))
 t0:=Tryz.underlying0
 a0:=Tryz.isAgg0
 z0:=Tryz.sizeOf0
 v0:=Tryz.zeroValue0
 t2:=Tryz.underlying2
 a2:=Tryz.isAgg2
 z2:=Tryz.sizeOf2
 v2:=Tryz.zeroValue2
 t3:=Tryz.underlying3
 a3:=Tryz.isAgg3
 z3:=Tryz.sizeOf3
 v3:=Tryz.zeroValue3
 t4:=Tryz.underlying4
 a4:=Tryz.isAgg4
 z4:=Tryz.sizeOf4
 v4:=Tryz.zeroValue4
 t5:=Tryz.underlying5
 a5:=Tryz.isAgg5
 z5:=Tryz.sizeOf5
 v5:=Tryz.zeroValue5
 t9:=Tryz.underlying9
 a9:=Tryz.isAgg9
 z9:=Tryz.sizeOf9
 v9:=Tryz.zeroValue9
 t20:=Tryz.underlying20
 a20:=Tryz.isAgg20
 z20:=Tryz.sizeOf20
 v20:=Tryz.zeroValue20
 t37:=Tryz.underlying189
 a37:=Tryz.isAgg189
 z37:=Tryz.sizeOf189
 v37:=Tryz.zeroValue189
 t46:=Tryz.underlying147
 a46:=Tryz.isAgg147
 z46:=Tryz.sizeOf147
 v46:=Tryz.zeroValue147
 t51:=Tryz.underlying177
 a51:=Tryz.isAgg177
 z51:=Tryz.sizeOf177
 v51:=Tryz.zeroValue177
 t53:=Tryz.underlying179
 a53:=Tryz.isAgg179
 z53:=Tryz.sizeOf179
 v53:=Tryz.zeroValue179
 t171:=Tryz.underlying212
 a171:=Tryz.isAgg212
 z171:=Tryz.sizeOf212
 v171:=Tryz.zeroValue212
 t173:=Tryz.underlying214
 a173:=Tryz.isAgg214
 z173:=Tryz.sizeOf214
 v173:=Tryz.zeroValue214
 t212:=Tryz.underlying230
 a212:=Tryz.isAgg230
 z212:=Tryz.sizeOf230
 v212:=Tryz.zeroValue230
 t213:=Tryz.underlying231
 a213:=Tryz.isAgg231
 z213:=Tryz.sizeOf231
 t232:=Tryz.underlying244
 a232:=Tryz.isAgg244
 z232:=Tryz.sizeOf244
 v232:=Tryz.zeroValue244
 t233:=Tryz.underlying245
 a233:=Tryz.isAgg245
 z233:=Tryz.sizeOf245
 v233:=Tryz.zeroValue245
 g17:=by kernel_rfl
 g18:=by kernel_rfl
 g19:=by kernel_rfl
 i0:=by kernel_rfl
 i2:=by kernel_rfl
 i3:=by kernel_rfl
 i4:=by kernel_rfl
 i5:=by kernel_rfl
 i9:=by kernel_rfl
 i20:=by kernel_rfl
 i37:=by kernel_rfl
 i46:=by kernel_rfl
 i51:=by kernel_rfl
 i53:=by kernel_rfl
 i171:=by kernel_rfl
 i173:=by kernel_rfl
 i212:=by kernel_rfl
 i232:=by kernel_rfl
 i233:=by kernel_rfl
 m17:=by kernel_rfl
 m18:=by kernel_rfl
 m19:=by kernel_rfl}
def Tryz.lays144_ren:Go.Shelf.Ren:=⟨fun|144=>146|143=>184|219=>215|217=>236|225=>237|224=>238|267=>239|266=>246|314=>247|n=>n,fun|9=>9|4=>4|3=>3|5=>5|46=>147|146=>241|51=>177|n=>n,fun|1=>1|n=>n⟩
theorem Tryz.lays144:Go.Proofs.Lays.n144 Tryz.prog Tryz.lays144_ren:={
 mixed:=by kernel_rfl
 f143:=Tryz.func184.trans (congrArg some (by kernel_rfl))
 f144:=Tryz.func146.trans (congrArg some (by kernel_rfl))
 f217:=Tryz.func236.trans (congrArg some (by kernel_rfl))
 f219:=Tryz.func215.trans (congrArg some (by kernel_rfl))
 f224:=Tryz.func238.trans (congrArg some (by kernel_rfl))
 f225:=Tryz.func237.trans (congrArg some (by kernel_rfl))
 f266:=Tryz.func246.trans (congrArg some (by kernel_rfl))
 f267:=Tryz.func239.trans (congrArg some (by kernel_rfl))
 f314:=Tryz.func247.trans (congrArg some (by kernel_rfl))
 t3:=Tryz.underlying3
 a3:=Tryz.isAgg3
 z3:=Tryz.sizeOf3
 v3:=Tryz.zeroValue3
 t4:=Tryz.underlying4
 a4:=Tryz.isAgg4
 z4:=Tryz.sizeOf4
 v4:=Tryz.zeroValue4
 t5:=Tryz.underlying5
 a5:=Tryz.isAgg5
 z5:=Tryz.sizeOf5
 v5:=Tryz.zeroValue5
 t9:=Tryz.underlying9
 a9:=Tryz.isAgg9
 z9:=Tryz.sizeOf9
 v9:=Tryz.zeroValue9
 t46:=Tryz.underlying147
 a46:=Tryz.isAgg147
 z46:=Tryz.sizeOf147
 v46:=Tryz.zeroValue147
 t51:=Tryz.underlying177
 a51:=Tryz.isAgg177
 z51:=Tryz.sizeOf177
 v51:=Tryz.zeroValue177
 t146:=Tryz.underlying241
 a146:=Tryz.isAgg241
 z146:=Tryz.sizeOf241
 v146:=Tryz.zeroValue241
 g1:=by kernel_rfl}
def Tryz.lays155_ren:Go.Shelf.Ren:=⟨fun|155=>111|154=>143|138=>182|165=>183|143=>184|166=>185|197=>186|169=>187|195=>211|218=>212|240=>213|241=>214|219=>215|260=>216|276=>234|277=>235|217=>236|225=>237|224=>238|267=>239|266=>246|314=>247|n=>n,fun|9=>9|3=>3|4=>4|72=>191|0=>0|76=>195|105=>197|21=>21|5=>5|70=>188|20=>20|37=>189|75=>194|127=>218|164=>232|46=>147|119=>235|139=>238|138=>237|146=>241|51=>177|80=>199|n=>n,fun|1=>1|3=>2|4=>3|n=>n⟩
theorem Tryz.lays155:Go.Proofs.Lays.n155 Tryz.prog Tryz.lays155_ren:={
 mixed:=by kernel_rfl
 f138:=Tryz.func182.trans (congrArg some (by kernel_rfl))
 f143:=Tryz.func184.trans (congrArg some (by kernel_rfl))
 f154:=Tryz.func143.trans (congrArg some (by kernel_rfl))
 f155:=Tryz.func111.trans (congrArg some (by kernel_rfl))
 f165:=Tryz.func183.trans (congrArg some (by kernel_rfl))
 f166:=Tryz.func185.trans (congrArg some (by kernel_rfl))
 f169:=Tryz.func187.trans (congrArg some (by kernel_rfl))
 f195:=Tryz.func211.trans (congrArg some (by kernel_rfl))
 f197:=Tryz.func186.trans (congrArg some (by kernel_rfl))
 f217:=Tryz.func236.trans (congrArg some (by kernel_rfl))
 f218:=Tryz.func212.trans (congrArg some (by kernel_rfl))
 f219:=Tryz.func215.trans (congrArg some (by kernel_rfl))
 f224:=Tryz.func238.trans (congrArg some (by kernel_rfl))
 f225:=Tryz.func237.trans (congrArg some (by kernel_rfl))
 f240:=Tryz.func213.trans (congrArg some (by kernel_rfl))
 f241:=Tryz.func214.trans (congrArg some (by kernel_rfl))
 f260:=Tryz.func216.trans (congrArg some (by kernel_rfl))
 f266:=Tryz.func246.trans (congrArg some (by kernel_rfl))
 f267:=Tryz.func239.trans (congrArg some (by kernel_rfl))
 f276:=Tryz.func234.trans (congrArg some (by kernel_rfl))
 f277:=Tryz.func235.trans (congrArg some (by kernel_rfl))
 f314:=Tryz.func247.trans (congrArg some (by kernel_rfl))
 t0:=Tryz.underlying0
 a0:=Tryz.isAgg0
 z0:=Tryz.sizeOf0
 v0:=Tryz.zeroValue0
 t3:=Tryz.underlying3
 a3:=Tryz.isAgg3
 z3:=Tryz.sizeOf3
 v3:=Tryz.zeroValue3
 t4:=Tryz.underlying4
 a4:=Tryz.isAgg4
 z4:=Tryz.sizeOf4
 v4:=Tryz.zeroValue4
 t5:=Tryz.underlying5
 a5:=Tryz.isAgg5
 z5:=Tryz.sizeOf5
 v5:=Tryz.zeroValue5
 t9:=Tryz.underlying9
 a9:=Tryz.isAgg9
 z9:=Tryz.sizeOf9
 v9:=Tryz.zeroValue9
 t20:=Tryz.underlying20
 a20:=Tryz.isAgg20
 z20:=Tryz.sizeOf20
 v20:=Tryz.zeroValue20
 t21:=Tryz.underlying21
 a21:=Tryz.isAgg21
 z21:=Tryz.sizeOf21
 v21:=Tryz.zeroValue21
 t37:=Tryz.underlying189
 a37:=Tryz.isAgg189
 z37:=Tryz.sizeOf189
 v37:=Tryz.zeroValue189
 t46:=Tryz.underlying147
 a46:=Tryz.isAgg147
 z46:=Tryz.sizeOf147
 v46:=Tryz.zeroValue147
 t51:=Tryz.underlying177
 a51:=Tryz.isAgg177
 z51:=Tryz.sizeOf177
 v51:=Tryz.zeroValue177
 t70:=Tryz.underlying188
 a70:=Tryz.isAgg188
 z70:=Tryz.sizeOf188
 v70:=Tryz.zeroValue188
 t72:=Tryz.underlying191
 a72:=Tryz.isAgg191
 z72:=Tryz.sizeOf191
 v72:=Tryz.zeroValue191
 t75:=Tryz.underlying194
 a75:=Tryz.isAgg194
 z75:=Tryz.sizeOf194
 v75:=Tryz.zeroValue194
 t76:=Tryz.underlying195
 a76:=Tryz.isAgg195
 z76:=Tryz.sizeOf195
 v76:=Tryz.zeroValue195
 t105:=Tryz.underlying197
 a105:=Tryz.isAgg197
 z105:=Tryz.sizeOf197
 v105:=Tryz.zeroValue197
 t119:=Tryz.underlying235
 a119:=Tryz.isAgg235
 z119:=Tryz.sizeOf235
 t127:=Tryz.underlying218
 a127:=Tryz.isAgg218
 z127:=Tryz.sizeOf218
 v127:=Tryz.zeroValue218
 t138:=Tryz.underlying237
 a138:=Tryz.isAgg237
 z138:=Tryz.sizeOf237
 v138:=Tryz.zeroValue237
 t139:=Tryz.underlying238
 a139:=Tryz.isAgg238
 z139:=Tryz.sizeOf238
 v139:=Tryz.zeroValue238
 t146:=Tryz.underlying241
 a146:=Tryz.isAgg241
 z146:=Tryz.sizeOf241
 v146:=Tryz.zeroValue241
 t164:=Tryz.underlying232
 a164:=Tryz.isAgg232
 z164:=Tryz.sizeOf232
 v164:=Tryz.zeroValue232
 g1:=by kernel_rfl
 g3:=by kernel_rfl
 g4:=by kernel_rfl}
def Tryz.growV_ren:Go.Shelf.Ren:=⟨fun|4=>112|n=>n,fun|22=>29|25=>40|3=>3|4=>4|9=>9|20=>20|0=>0|n=>n,fun|n=>n⟩
theorem Tryz.growV:Go.Proofs.Lays8.n4 Tryz.prog Tryz.growV_ren:={
 mixed:=by kernel_rfl
 f4:=⟨Tryz.f112.name,by decide,Tryz.func112.trans (congrArg some (by kernel_rfl))⟩
 t0:=Tryz.underlying0
 a0:=Tryz.isAgg0
 z0:=Tryz.sizeOf0
 v0:=Tryz.zeroValue0
 t3:=Tryz.underlying3
 a3:=Tryz.isAgg3
 z3:=Tryz.sizeOf3
 v3:=Tryz.zeroValue3
 t4:=Tryz.underlying4
 a4:=Tryz.isAgg4
 z4:=Tryz.sizeOf4
 v4:=Tryz.zeroValue4
 t9:=Tryz.underlying9
 a9:=Tryz.isAgg9
 z9:=Tryz.sizeOf9
 v9:=Tryz.zeroValue9
 t20:=Tryz.underlying20
 a20:=Tryz.isAgg20
 z20:=Tryz.sizeOf20
 v20:=Tryz.zeroValue20
 t22:=Tryz.underlying29
 a22:=Tryz.isAgg29
 z22:=Tryz.sizeOf29
 v22:=Tryz.zeroValue29}
theorem Tryz.Builder_Extra_155:Builder.Extra Tryz.prog Tryz.lays155_ren:={
 sizeBuilder:=by kernel_rfl
 liesBuilder:=by kernel_rfl
 t5:=Tryz.underlying5
 a5:=Tryz.isAgg5
 z5:=Tryz.sizeOf5
 v5:=Tryz.zeroValue5
 infoByte:=by kernel_rfl
 cellsByte:=by kernel_rfl
 sizeByte:=by kernel_rfl
 neB5:=by decide}
end Go.Proofs
end
section
namespace Go.Bi
open Go Go.Proofs Go.Shelf
def dv:D->Option Value
 |.int k n=>some (.int k n)
 |.bool b=>some (.bool b)
 |.str s=>some (.string ⟨⟨s⟩⟩)
 |_=>none
theorem D1r{M:C4}{d:D}{u v:Value}(h:dv d=some u)(r:Rd M d v):v=u:=by
 cases r<;>simp[dv] at h<;>exact h
theorem C8K{M:C4}{d:D}{u:Value}(h:dv d=some u):Rd M d u:=by
 cases d<;>simp[dv] at h<;>subst h<;>constructor
theorem B0j{P:Program}{f:FuncId}(hen:Bi.Enters P f)(ds:List D)(us:List Value)(hl:ds.map dv=us.map some)(r:D)(u:Value)(hr:dv r=some u)
  (h:∀M G w,C1 M G [] w->Calls P f us.toArray w λe w'=>e=.returned u/\w'.os=w.os/\w'.tape=w.tape/\w'.output=w.output/\w.heap.size<=w'.heap.size/\∀b,b<w.heap.size->w'.heap[b]?=w.heap[b]?):Bi.Pure P f (ds.map .d) (.d r):=by
 refine⟨hen,λM G w vs hE hl' hv=>?_⟩
 have hll:ds.length=us.length:=by have:=congrArg List.length hl;simpa using this
 have hsz:vs.size=us.length:=by rw[hl',C7,hll]
 have e:vs=us.toArray:=by
  refine Array.ext (by simpa using hsz) λj h1 h2=>?_
  have hj:j<ds.length:=by omega
  have hj2:j<us.length:=by omega
  have k1:=hv j (.d ds[j]) vs[j] (by simp[hj]) (J1 h1)
  have k2:dv ds[j]=some us[j]:=by
   have:=congrArg (λl=>l[j]?) hl
   simpa[hj,hj2] using this
  have k3:=D1r k2 k1
  simpa using k3
 subst e
 refine(h M G w hE).mono λe w' ⟨h1,h2,h3,h4,h5,h6⟩=>⟨u,h1,M,G,.d r,[],A9C hE h2 h3 h4 h5 h6,A6e h2 h3 h4 h5 h6,C8K hr,rfl,rfl⟩
end Go.Bi
namespace Go.Proofs
open Go.Bi Go.Shelf
theorem D2f{M:C4}{G:Gh}{os:List AO}{w:World}(hE:C1 M G os w):Lib.TabIs Tryz.prog w "internal/strconv.uint64pow10" .u64 Lib.pow10Tab:=by
 obtain⟨⟨o,h1,h2⟩,_⟩:=hE.glb 0 (.inl rfl)
 obtain⟨t,f,rfl⟩:=h2.1 rfl
 unfold Lib.TabIs World.var?
 rw[show Tryz.prog.globalNamed "internal/strconv.uint64pow10" = some 0 by kernel_rfl]
 simp only[Option.bind_some,h1]
 rfl
theorem B7w{M:C4}{G:Gh}{os:List AO}{w:World}(hE:C1 M G os w):∃m:Int,w.cell? ⟨1,0,none⟩=some (.int .i64 m):=by
 obtain⟨⟨o,h1,h2⟩,_⟩:=hE.glb 1 (.inr rfl)
 obtain⟨n,t,f,rfl⟩:=h2.2 rfl
 exact⟨n,by simp[World.cell?,h1]⟩
theorem C1f(n:Int)(h0:-9223372036854775808<=n)(h1:n<=9223372036854775807):Bi.Pure Tryz.prog B4O [.d (eI n)] (.d (.str (Lib.itoa n))):=by
 refine B0j ⟨_,Tryz.func110,by kernel_rfl,by decide⟩ [eI n] [.int .i64 n] rfl (.str (Lib.itoa n)) _ rfl λM G w hE=>?_
 refine(Any.strconv_Itoa Tryz.laysM171 n h0 h1 w (D2f hE)).mono ?_
 rintro e w' ⟨rfl,k,os,rfl⟩
 exact⟨rfl,rfl,rfl,rfl,by simp[Go.Sort.grow,World.drewN],λb hb=>by simp only[Go.Sort.grow,World.drewN];exact A1B hb⟩
theorem A8h(s old new:List UInt8)(hs:s.length<=4294967280)(h1:1<=old.length)(hn:new.length<=2):Bi.Pure Tryz.prog A55 [.d (.str s),.d (.str old),.d (.str new)] (.d (.str (Lib.replaceAll s old new))):=by
 refine B0j ⟨_,Tryz.func111,by kernel_rfl,by decide⟩ [.str s,.str old,.str new] [.string ⟨⟨s⟩⟩,.string ⟨⟨old⟩⟩,.string ⟨⟨new⟩⟩] rfl (.str (Lib.replaceAll s old new)) _ rfl λM G w hE=>?_
 obtain⟨m,hm⟩:=B7w hE
 have k1:=Lib.countB_mul_le ⟨⟨old⟩⟩ h1 s.length ⟨⟨s⟩⟩ (I4 _)
 have k2:Lib.countB ⟨⟨s⟩⟩ ⟨⟨old⟩⟩<=s.length:=P3 (Nat.le_mul_of_pos_right _ h1) k1
 have k3:Lib.countB ⟨⟨s⟩⟩ ⟨⟨old⟩⟩*new.length<=s.length*2:=Nat.mul_le_mul k2 hn
 refine(Any.strings_ReplaceAll Tryz.lays155 Tryz.Builder_Extra_155 ⟨⟨s⟩⟩ ⟨⟨old⟩⟩ ⟨⟨new⟩⟩ m w (by show s.length<_;omega) hm h1 (by show s.length+Lib.countB ⟨⟨s⟩⟩ ⟨⟨old⟩⟩*new.length<=_;omega)).mono ?_
 rintro e w' ⟨rfl,hb⟩
 exact⟨rfl,hb.os,hb.tape,hb.output,hb.size,hb.block⟩
theorem C1g(s sub:List UInt8)(hs:s.length<=4294967280):Bi.Pure Tryz.prog B4P [.d (.str s),.d (.str sub)] (.d (.bool (Lib.contains s sub))):=by
 refine B0j ⟨_,Tryz.func146,by kernel_rfl,by decide⟩ [.str s,.str sub] [.string ⟨⟨s⟩⟩,.string ⟨⟨sub⟩⟩] rfl (.bool (Lib.contains s sub)) _ rfl λM G w hE=>?_
 obtain⟨m,hm⟩:=B7w hE
 refine(Any.strings_Contains Tryz.lays144 ⟨⟨s⟩⟩ ⟨⟨sub⟩⟩ m w (by show s.length<_;omega) hm).mono ?_
 rintro e w' ⟨rfl,rfl⟩
 exact⟨rfl,rfl,rfl,rfl,I4 _,λ_ _=>rfl⟩
end Go.Proofs
end
section
namespace Go.Proofs
open Go.Lib
def Q2(old new:List UInt8):Nat->List UInt8->List UInt8
 |0,s=>s
 |n+1,[]=>[]
 |n+1,c::s=>if old.isPrefixOf (c::s) then new++Q2 old new n ((c::s).drop old.length) else c::Q2 old new n s
theorem A7p(c:UInt8)(l sub:List UInt8):index (c::l) sub=if sub.isPrefixOf (c::l) then 0 else if index l sub==-1 then -1 else index l sub+1:=by
 rw[index]
theorem C8m(sub:List UInt8)(h:1<=sub.length):∀(m m':Nat)(s:List UInt8),s.length<m->s.length<m'->countFrom sub m s=countFrom sub m' s
 |0,_,s,h1,_=>by omega
 |_,0,s,_,h2=>by omega
 |m+1,m'+1,s,h1,h2=>by
  unfold countFrom
  split
  ·rfl
  ·rename_i hi
   have h3:=index_ge s sub
   have h4:0<=index s sub:=by
    have:¬index s sub=-1:=λe=>hi (by rw[e];rfl)
    omega
   have h5:=index_room s sub h4
   rw[C8m sub h m m' _ (by rw[w3];omega) (by rw[w3];omega)]
theorem B0n(old new:List UInt8)(h:1<=old.length):∀(n m:Nat)(s:List UInt8),s.length<=n->s.length<m->replaceK old new (countFrom old m s) s=Q2 old new n s
 |n,0,s,_,h2=>by omega
 |n,m+1,[],_,_=>by
  have e:index [] old=-1:=by
   rcases index_spec [] old with ⟨h1,_⟩|⟨i,h1,h2,h3,_⟩
   ·exact h1
   ·have hr:=index_room [] old (by omega)
    simp at hr
    omega
  unfold countFrom
  rw[e]
  cases n<;>rfl
 |0,m+1,c::l,h1,_=>by simp at h1
 |n+1,m+1,c::l,h1,h2=>by
  simp only[L0] at h1 h2
  by_cases hp:old.isPrefixOf (c::l)=true
  ·have e:index (c::l) old=0:=by rw[A7p,if_pos hp]
   rw[Q2,if_pos hp,countFrom,e,if_neg (by decide),Nat.add_comm 1,replaceK,e,if_neg (by decide)]
   simp only[Int.toNat_zero,List.take_zero,A13,s7]
   rw[B0n old new h n m _ (by rw[w3,L0];omega) (by rw[w3,L0];omega)]
  ·rw[Q2,if_neg hp]
   have ih:=B0n old new h n (m+1) l (by omega) (by omega)
   by_cases hi:(index l old==-1)=true
   ·have e:index (c::l) old=-1:=by rw[A7p,if_neg hp,if_pos hi]
    rw[countFrom,if_pos hi] at ih
    rw[countFrom,e,if_pos (show((-1:Int)==-1)=true by decide)]
    rw[<- ih];rfl
   ·have h3:=index_ge l old
    have h4:0<=index l old:=by
     have:¬index l old=-1:=λe=>hi (by rw[e];rfl)
     omega
    obtain⟨i,hi2⟩:∃i:Nat,index l old=i:=⟨(index l old).toNat,by omega⟩
    have e:index (c::l) old=((i+1:Nat):Int):=by rw[A7p,if_neg hp,if_neg hi,hi2];rfl
    have h5:=index_room l old h4
    rw[countFrom,if_neg hi,hi2,K8,Nat.add_comm 1,replaceK_hit _ _ _ _ i hi2] at ih
    have hne:¬(((i+1:Nat):Int)==-1)=true:=by
     intro hh;have:=eq_of_beq hh;omega
    rw[countFrom,e,if_neg hne,K8,Nat.add_comm 1,replaceK_hit _ _ _ _ (i+1) e,show(i+1)+old.length=(i+old.length)+1 by omega,List.drop_succ_cons,A2N,<- ih]
    simp
theorem B8i(s old new:List UInt8)(h:1<=old.length)(hne:(old==new)=false):replaceAll s old new=Q2 old new s.length s:=by
 unfold replaceAll replace replaceNum count
 rw[hne,if_neg (by decide),if_pos (.inl (by decide))]
 exact B0n old new h _ _ _ (I4 _) (by omega)
def A0R:List UInt8->List UInt8
 |[]=>[]
 |c::s=>if c=39 then 39::39::A0R s else c::A0R s
theorem B8h:∀(n:Nat)(s:List UInt8),s.length<=n->Q2 [39] [39,39] n s=A0R s
 |0,[],_=>rfl
 |0,c::s,h=>by simp at h
 |n+1,[],_=>rfl
 |n+1,c::s,h=>by
  have ih:=B8h n s (by simpa using h)
  rw[Q2,A0R]
  by_cases hc:c=39
  ·subst hc
   rw[if_pos rfl,if_pos (by rfl)]
   show[39,39]++Q2 [39] [39,39] n s=_
   rw[ih];rfl
  ·rw[if_neg hc,if_neg (by simp[List.isPrefixOf];exact λe=>hc e.symm),ih]
def Y2:List UInt8->Option (List UInt8)
 |[]=>some []
 |[c]=>if c=39 then none else some [c]
 |c::d::s=>if c=39 then (if d=39 then (Y2 s).map (39::·) else none) else (Y2 (d::s)).map (c::·)
theorem B0m:∀(n:Nat)(s:List UInt8),s.length<=n->(Y2 s=none->(39:UInt8)∈Q2 [39,39] [] n s)/\(∀t,Y2 s=some t->(39:UInt8)∉ Q2 [39,39] [] n s/\Q2 [39,39] [39] n s=t)
 |0,[],_=>⟨λh=>by simp[Y2] at h,λt h=>by simp[Y2] at h;subst h;simp[Q2]⟩
 |0,c::s,h=>by simp at h
 |n+1,[],_=>⟨λh=>by simp[Y2] at h,λt h=>by simp[Y2] at h;subst h;simp[Q2]⟩
 |n+1,[c],h=>by
  have hp:List.isPrefixOf [39,39] [c]=false:=by simp[List.isPrefixOf]
  have h0:∀new,Q2 [39,39] new n []=[]:=λnew=>by cases n<;>rfl
  refine⟨λh=>?_,λt h=>?_⟩
  ·rw[Q2,hp,if_neg (by decide),h0]
   unfold Y2 at h
   split at h
   ·rename_i hc;subst hc;simp
   ·cases h
  ·unfold Y2 at h
   split at h
   ·cases h
   ·rename_i hc
    cases h
    rw[Q2,hp,if_neg (by decide),Q2,hp,if_neg (by decide),h0,h0]
    exact⟨by simp;exact λe=>hc e.symm,rfl⟩
 |n+1,c::d::s,h=>by
  simp only[L0] at h
  by_cases hc:c=39
  ·subst hc
   by_cases hd:d=39
   ·subst hd
    have ih:=B0m n s (by omega)
    have hp:List.isPrefixOf [39,39] (39::39::s)=true:=by simp[List.isPrefixOf]
    have e1:∀new,Q2 [39,39] new (n+1) (39::39::s)=new++Q2 [39,39] new n s:=λnew=>by rw[Q2,if_pos hp];rfl
    rw[e1,e1,Y2,if_pos rfl,if_pos rfl]
    refine⟨λh=>?_,λt h=>?_⟩
    ·simp only[Option.map_eq_none_iff] at h
     simpa using ih.1 h
    ·obtain⟨u,hu,rfl⟩:=G4.1 h
     obtain⟨i1,i2⟩:=ih.2 u hu
     exact⟨by simpa using i1,by rw[i2];rfl⟩
   ·have hp:List.isPrefixOf [39,39] (39::d::s)=false:=by simp[List.isPrefixOf];exact λe=>hd e.symm
    rw[Q2,hp,if_neg (by decide),Y2,if_pos rfl,if_neg hd]
    exact⟨λ_=>by simp,λt h=>by cases h⟩
  ·have hp:List.isPrefixOf [39,39] (c::d::s)=false:=by simp[List.isPrefixOf];intro e;exact absurd e.symm hc
   have ih:=B0m n (d::s) (by simp;omega)
   have e1:∀new,Q2 [39,39] new (n+1) (c::d::s)=c::Q2 [39,39] new n (d::s):=λnew=>by rw[Q2,hp,if_neg (by decide)]
   rw[e1,e1,Y2,if_neg hc]
   refine⟨λh=>?_,λt h=>?_⟩
   ·simp only[Option.map_eq_none_iff] at h
    simp[ih.1 h]
   ·obtain⟨u,hu,rfl⟩:=G4.1 h
    obtain⟨i1,i2⟩:=ih.2 u hu
    exact⟨by simp;exact⟨λe=>hc e.symm,i1⟩,by rw[i2]⟩
theorem C8k(s:List UInt8):contains s [39]=decide ((39:UInt8)∈s):=by
 have key:∀s:List UInt8,(0<=index s [39])↔(39:UInt8)∈s:=by
  intro s
  induction s with
  |nil=>decide
  |cons c l ih=>
   rw[A7p]
   have h3:=index_ge l [39]
   by_cases hc:c=39
   ·subst hc;simp[List.isPrefixOf]
   ·rw[if_neg (by simp[List.isPrefixOf];exact λe=>hc e.symm)]
    split
    ·rename_i h
     have h:=eq_of_beq h
     rw[h] at ih
     simp only[L4]
     constructor
     ·intro h;omega
     ·rintro(e|e)
      ·exact absurd e.symm hc
      ·have:=ih.2 e;omega
    ·rename_i h
     have h:¬index l [39]=-1:=λe=>h (by rw[e];rfl)
     simp only[L4]
     constructor
     ·intro _;exact .inr (ih.1 (by omega))
     ·intro _;omega
 unfold contains
 exact decide_eq_decide.2 (key s)
end Go.Proofs
end
section
namespace Go.Proofs
open Go.Bi
def A2C(v:Vl):List UInt8:=
 if N6 v=false then [] else if v.k=1 then Lib.itoa v.n else if v.k=2 then [39]++A0R v.s++[39] else if v.k=3 then (if v.n=1 then [84,82,85,69] else [70,65,76,83,69]) else [78,85,76,76]
theorem B0l:∀s:List UInt8,(A0R s).length<=2*s.length
 |[]=>I4 _
 |c::s=>by
  have:=B0l s
  rw[A0R]
  split<;>simp only[L0]<;>omega
theorem C11(s:List UInt8)(hs:s.length<=1048576):Pure Tryz.prog A55 [.d (.str s),.d (.str [39]),.d (.str [39,39])] (.d (.str (A0R s))):=by
 have h:=A8h s [39] [39,39] (by omega) (by decide) (by decide)
 rw[B8i _ _ _ (by decide) (by decide),B8h _ _ (I4 _)] at h
 exact h
theorem B93{v:Vl}(h:N6 v=true)(hk:v.k=1):-1125899906842624<=v.n/\v.n<=1125899906842624:=by
 unfold N6 at h
 rw[if_neg (by omega),if_pos hk] at h
 exact(of_decide_eq_true h).2
theorem D2A{v:Vl}(h:N6 v=true):v.k=0\/v.k=1\/v.k=2\/v.k=3:=by
 unfold N6 at h
 split at h
 ·omega
 split at h
 ·omega
 split at h
 ·omega
 split at h
 ·omega
 ·cases h
theorem C1q(v:Vl)(hs:v.s.length<=1048576):Pure Tryz.prog B4S [eV v] (.d (.str (A2C v))):=by
 have hV:=A4G v (by omega)
 obtain⟨q,hq⟩:∃q,q=A2C v:=⟨_,rfl⟩
 rw[<- hq]
 unfold A2C at hq
 cases hv:N6 v with
 |false=>
  rw[hv] at hV hq
  rw[if_pos rfl] at hq
  subst hq
  refine B1M.go A6 rfl ?_
  repeat' first|refine st ?_|((with_reducible first|apply A9|apply A8);(·exact hV))|(with_reducible first|apply A5|apply A4)<;>intro _
  all_goals rfl
 |true=>
  have hk:=D2A hv
  have hn:=λh=>B93 hv h
  rw[hv] at hV hq
  rw[if_neg (by decide)] at hq
  have hR:=C11 v.s hs
  have hs0:=hs
  clear hv
  obtain⟨k,n,s⟩:=v
  dsimp only at hq hk hn hR hs0
  refine B1M.go A6 rfl ?_
  rcases hk with rfl|rfl|rfl|rfl
  ·rw[if_neg (by decide),if_neg (by decide),if_neg (by decide)] at hq
   subst hq
   repeat' first|refine st ?_|((with_reducible first|apply A9|apply A8);(·exact hV))|(with_reducible first|apply A5|apply A4)<;>intro _
   all_goals rfl
  ·rw[if_pos rfl] at hq
   subst hq
   have hI:=C1f n (by have:=(hn rfl).1;omega) (by have:=(hn rfl).2;omega)
   repeat' first|refine st ?_|((with_reducible first|apply A9|apply A8);(·first|exact hV|exact hI))|(with_reducible first|apply A5|apply A4)<;>intro _
   all_goals rfl
  ·rw[if_neg (by decide),if_pos rfl] at hq
   subst hq
   have hl:=B0l s
   have hb1:([39]:List UInt8).length+(A0R s).length<=9223372036854775807:=by simp only[L0,m7];omega
   have hb2:(([39]:List UInt8)++A0R s).length+([39]:List UInt8).length<=9223372036854775807:=by simp only[M7,L0,m7];omega
   obtain⟨z,hz⟩:∃z,z=A0R s:=⟨_,rfl⟩
   rw[<- hz] at hR hb1 hb2 ⊢
   clear hz hl
   repeat' first|refine st ?_|((with_reducible first|apply A9|apply A8);(·first|exact hV|exact hR))|(with_reducible first|apply A5|apply A4)<;>intro _
   all_goals rfl
  ·rw[if_neg (by decide),if_neg (by decide),if_pos rfl] at hq
   by_cases h1:n=1
   ·rw[if_pos h1] at hq
    subst hq
    repeat' first|refine st ?_|((with_reducible first|apply A9|apply A8);(·exact hV))|(with_reducible first|apply A5|apply A4)<;>intro _
    all_goals rfl
   ·rw[if_neg h1] at hq
    subst hq
    repeat' first|refine st ?_|((with_reducible first|apply A9|apply A8);(·exact hV))|(with_reducible first|apply A5|apply A4)<;>intro _
    all_goals rfl
def U8(c:UInt8):List UInt8->Bool
 |[]=>false
 |d::_=>decide (d=c)
theorem B19(s:List UInt8)(hs:s.length<=4194304)(c:UInt8):Pure Tryz.prog B4y [.d (.str s),.d (.str [c])] (.d (.bool (U8 c s))):=by
 have hl1:([c]:List UInt8).length=1:=rfl
 refine C2s.go A6 rfl ?_
 cases s with
 |nil=>
  have hl:([]:List UInt8).length=0:=rfl
  repeat' first|refine st ?_|(with_reducible first|apply A5|apply A4)<;>intro _
  all_goals first|rfl|(exfalso;simp at *;done)
 |cons d r=>
  have hl:(d::r).length=r.length+1:=rfl
  simp only[L0] at hs
  repeat' first|refine st ?_|(with_reducible first|apply A5|apply A4)<;>intro _
  all_goals (simp[U8];done)
theorem C1j(s:List UInt8)(hs:s.length<=4194304)(c:UInt8):Pure Tryz.prog A8Y [.d (.str s),.d (.str [c])] (.d (.bool (U8 c s))):=by
 have h:=B19 s hs c
 refine C2P.go A6 rfl ?_
 repeat' first|refine st ?_|((with_reducible first|apply A9|apply A8);(·exact h))|(with_reducible first|apply A5|apply A4)<;>intro _
 all_goals rfl
theorem C0u(s:List UInt8)(hs:s.length<=4194304)(c:UInt8):Pure Tryz.prog B4w [.d (.str s),.d (.str [c])] (.tup [.d (.str (if U8 c s then s.tail else s)),.d (.bool (U8 c s))]):=by
 have h:=B19 s hs c
 have hl1:([c]:List UInt8).length=1:=rfl
 refine C2q.go A6 rfl ?_
 cases hb:U8 c s with
 |false=>
  rw[hb] at h
  repeat' first|refine st ?_|((with_reducible first|apply A9|apply A8);(·exact h))|(with_reducible first|apply A5|apply A4)<;>intro _
  all_goals rfl
 |true=>
  rw[hb] at h
  cases s with
  |nil=>cases hb
  |cons d r=>
   have hl:(d::r).length=r.length+1:=rfl
   simp only[L0] at hs
   repeat' first|refine st ?_|((with_reducible first|apply A9|apply A8);(·exact h))|(with_reducible first|apply A5|apply A4)<;>intro _
   all_goals (simp;done)
theorem C1h(s:List UInt8)(hs:s.length<=4194304)(c:UInt8):Pure Tryz.prog A8W [.d (.str s),.d (.str [c])] (.tup [.d (.str (if U8 c s then s.tail else s)),.d (.bool (U8 c s))]):=by
 have h:=C0u s hs c
 obtain⟨q,hq⟩:∃q,q=(if U8 c s then s.tail else s):=⟨_,rfl⟩
 rw[<- hq] at h ⊢
 refine C2N.go A6 rfl ?_
 repeat' first|refine st ?_|((with_reducible first|apply A9|apply A8);(·exact h))|(with_reducible first|apply A5|apply A4)<;>intro _
 all_goals rfl
theorem B8I(s:List UInt8):s=[]\/∃r d,s=r++[d]:=by
 rcases List.eq_nil_or_concat s with h|⟨r,d,h⟩
 ·exact .inl h
 ·exact .inr ⟨r,d,by rw[h,List.concat_eq_append]⟩
def l0(c:UInt8)(s:List UInt8):Bool:=decide (s.getLast?=some c)
theorem C9z(c d:UInt8)(r:List UInt8):l0 c (r++[d])=decide (d=c):=by
 unfold l0;simp
theorem C0w(s:List UInt8)(hs:s.length<=4194304)(c:UInt8):Pure Tryz.prog B4z [.d (.str s),.d (.str [c])] (.d (.bool (l0 c s))):=by
 have hl1:([c]:List UInt8).length=1:=rfl
 refine C2t.go A6 rfl ?_
 rcases B8I s with rfl|⟨r,d,rfl⟩
 ·have hl:([]:List UInt8).length=0:=rfl
  repeat' first|refine st ?_|(with_reducible first|apply A5|apply A4)<;>intro _
  all_goals first|rfl|(exfalso;simp at *;done)
 ·rw[C9z]
  have hl:(r++[d]).length=r.length+1:=by simp
  have hp:List.take ((r++[d]).length-((r++[d]).length-1)) (List.drop ((r++[d]).length-1) (r++[d]))=[d]:=by
   rw[hl,show r.length+1-1=r.length by omega,show r.length+1-r.length=1 by omega]
   simp
  obtain⟨z,hz⟩:∃z,z=r++[d]:=⟨_,rfl⟩
  rw[<- hz] at hl hp hs ⊢
  clear hz
  repeat' first|refine st ?_|(with_reducible first|apply A5|apply A4)<;>intro _
  all_goals (simp[hp];done)
theorem C0v(s:List UInt8)(hs:s.length<=4194304)(c:UInt8):Pure Tryz.prog B4x [.d (.str s),.d (.str [c])] (.tup [.d (.str (if l0 c s then s.dropLast else s)),.d (.bool (l0 c s))]):=by
 have h:=C0w s hs c
 have hl1:([c]:List UInt8).length=1:=rfl
 refine C2r.go A6 rfl ?_
 cases hb:l0 c s with
 |false=>
  rw[hb] at h
  repeat' first|refine st ?_|((with_reducible first|apply A9|apply A8);(·exact h))|(with_reducible first|apply A5|apply A4)<;>intro _
  all_goals rfl
 |true=>
  rw[hb] at h
  rcases B8I s with rfl|⟨r,d,rfl⟩
  ·cases hb
  ·have hl:(r++[d]).length=r.length+1:=by simp
   have hdl:(r++[d]).dropLast=r:=by simp
   have hp:List.take ((r++[d]).length-1) (r++[d])=r:=by
    rw[hl,show r.length+1-1=r.length by omega]
    simp
   rw[if_pos rfl,hdl]
   obtain⟨z,hz⟩:∃z,z=r++[d]:=⟨_,rfl⟩
   rw[<- hz] at hl hp hs h ⊢
   clear hz hb hdl
   repeat' first|refine st ?_|((with_reducible first|apply A9|apply A8);(·exact h))|(with_reducible first|apply A5|apply A4)<;>intro _
   all_goals first|rfl|(simp[hp];done)|(simp;exact hp)
theorem C1i(s:List UInt8)(hs:s.length<=4194304)(c:UInt8):Pure Tryz.prog A8X [.d (.str s),.d (.str [c])] (.tup [.d (.str (if l0 c s then s.dropLast else s)),.d (.bool (l0 c s))]):=by
 have h:=C0v s hs c
 obtain⟨q,hq⟩:∃q,q=(if l0 c s then s.dropLast else s):=⟨_,rfl⟩
 rw[<- hq] at h ⊢
 refine C2O.go A6 rfl ?_
 repeat' first|refine st ?_|((with_reducible first|apply A9|apply A8);(·exact h))|(with_reducible first|apply A5|apply A4)<;>intro _
 all_goals rfl
theorem A7I(old new:List UInt8)(h:new.length<=old.length):∀(n:Nat)(s:List UInt8),(Q2 old new n s).length<=s.length
 |0,s=>I4 _
 |n+1,[]=>I4 _
 |n+1,c::s=>by
  rw[Q2]
  split
  ·rename_i hp
   have h1:=A7I old new h n ((c::s).drop old.length)
   have h2:old.length<=(c::s).length:=by
    have:=List.isPrefixOf_iff_prefix.1 hp
    exact this.length_le
   rw[M7]
   rw[w3] at h1
   omega
  ·have h1:=A7I old new h n s
   simp only[L0];omega
def A1S(r:List UInt8):Vl×Int:=
 if l0 39 r=false\/c9 r.dropLast=false then (K4,1)
 else match Y2 r.dropLast with
  |none=>(K4,1)
  |some t=>if 200<t.length then (K4,5) else (⟨2,0,t⟩,0)
theorem C1v(r:List UInt8)(hr:r.length<=1048576):Pure Tryz.prog A90 [.d (.str r)] (.tup [eV (A1S r).1,.d (eI (A1S r).2)]):=by
 have hC:=C1i r (by omega) 39
 have hN:=A3t
 obtain⟨q,hq⟩:∃q,q=A1S r:=⟨_,rfl⟩
 rw[<- hq]
 unfold A1S at hq
 cases hb:l0 39 r with
 |false=>
  rw[hb] at hC hq
  rw[if_pos (.inl rfl)] at hq
  subst hq
  refine A4M.go A6 rfl ?_
  repeat' first|refine st ?_|((with_reducible first|apply A9|apply A8);(·first|exact hC|exact hN))|(with_reducible first|apply A5|apply A4)<;>intro _
  all_goals rfl
 |true=>
  rw[hb] at hC hq
  rw[if_pos rfl] at hC
  have hl:r.dropLast.length<=1048576:=by rw[List.length_dropLast];omega
  obtain⟨s,hs⟩:∃s,s=r.dropLast:=⟨_,rfl⟩
  rw[<- hs] at hC hq hl
  clear hb hs
  have hP:=B1p s (by omega)
  simp only[Bool.true_eq_false,false_or] at hq
  cases hp:c9 s with
  |false=>
   rw[hp] at hP hq
   rw[if_pos rfl] at hq
   subst hq
   refine A4M.go A6 rfl ?_
   repeat' first|refine st ?_|((with_reducible first|apply A9|apply A8);(·first|exact hC|exact hN|exact hP))|(with_reducible first|apply A5|apply A4)<;>intro _
   all_goals rfl
  |true=>
   rw[hp] at hP hq
   rw[if_neg (by decide)] at hq
   have hA:=A8h s [39,39] [] (by omega) (by decide) (by decide)
   have hB:=A8h s [39,39] [39] (by omega) (by decide) (by decide)
   rw[B8i _ _ _ (by decide) (by decide)] at hA hB
   have hl2:=A7I [39,39] [] (by decide) s.length s
   have hD:=C1g (Q2 [39,39] [] s.length s) [39] (by omega)
   rw[C8k] at hD
   obtain⟨u1,u2⟩:=B0m s.length s (I4 _)
   have hl3:=A7I [39,39] [39] (by decide) s.length s
   obtain⟨A,hAA⟩:∃A,A=Q2 [39,39] [] s.length s:=⟨_,rfl⟩
   obtain⟨B,hBB⟩:∃A,A=Q2 [39,39] [39] s.length s:=⟨_,rfl⟩
   rw[<- hAA] at hA hD u1 u2 hl2
   rw[<- hBB] at hB u2 hl3
   clear hAA hBB hp
   cases hu:Y2 s with
   |none=>
    rw[hu] at hq
    dsimp only at hq
    subst hq
    rw[decide_eq_true (u1 hu)] at hD
    clear hu u1 u2
    refine A4M.go A6 rfl ?_
    repeat' first|refine st ?_|((with_reducible first|apply A9|apply A8);(·first|exact hC|exact hN|exact hP|exact hA|exact hD))|(with_reducible first|apply A5|apply A4)<;>intro _
    all_goals rfl
   |some t=>
    obtain⟨v1,rfl⟩:=u2 t hu
    rw[hu] at hq
    dsimp only at hq
    rw[decide_eq_false v1] at hD
    clear hu u1 u2
    by_cases ht:200<B.length
    ·rw[if_pos ht] at hq
     subst hq
     refine A4M.go A6 rfl ?_
     repeat' first|refine st ?_|((with_reducible first|apply A9|apply A8);(·first|exact hC|exact hN|exact hP|exact hA|exact hD|exact hB))|(with_reducible first|apply A5|apply A4)<;>intro _
     all_goals rfl
    ·rw[if_neg ht] at hq
     subst hq
     refine A4M.go A6 rfl ?_
     repeat' first|refine st ?_|((with_reducible first|apply A9|apply A8);(·first|exact hC|exact hN|exact hP|exact hA|exact hD|exact hB))|(with_reducible first|apply A5|apply A4)<;>intro _
     all_goals rfl
end Go.Proofs
end
