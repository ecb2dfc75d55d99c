/- Texts of this claim, joined. No condition. -/
import Derived.Test.YtnhhopmldgpglaaGreatQ9
set_option linter.unusedSimpArgs false
set_option linter.unusedVariables false
set_option maxRecDepth 10000
set_option maxHeartbeats 4000000
section
namespace Go.Proofs
open Go.Bi
def A30(x:TD)(c:List En):List Fo->Int
 |[]=>0
 |f::r=>if frR x c f=0 then A30 x c r else frR x c f
theorem D0F{x:TD}{c:List En}{l:List Fo}{i:Nat}{f:Fo}(h:l[i]?=some f):A30 x c (l.drop i)=if frR x c f=0 then A30 x c (l.drop (i+1)) else frR x c f:=by
 obtain⟨hlt,he⟩:=B2.1 h
 rw[V5 hlt,he];rfl
def crR(c:List En)(e:En):Int:=
 if e.tb=e.cr.t.nm then (if J0 e.cr.t=0 then (if 16<=(F1 D7 c).length then 5 else if (R3 (C8 D7 e.cr.t.nm c)).2.2=0 then 10 else A30 e.cr c e.cr.t.fs) else J0 e.cr.t) else 8
theorem C1w(c:List En)(hc:c.length<=1048575)(hok:∀e∈c,e.ok)(d:D)(hd:B5 d (C4 c))(e:En)(he:e.ok) :
  Pure Tryz.prog B4W [.d d,e.av] (.d (eI (crR c e))):=by
 have hC:=A6w e.cr.t e.cr.dc e.cr.dk e.cr.df e.cr.dx he.cr.tok
 have hM:=A8l c hc d hd D7
 have hml:=A2z (F1 D7 c)
 have hsl:=Z3 (I2 (F1 D7 c))
 have hA:=A6y c (by omega) hok d hd D7 e.cr.t.nm
 have hV:=@A0t e.cr.t
 have hR:=C1y c (by omega) hok d hd e.cr he.cr
 have hx:=he.cr
 obtain⟨q,hq⟩:∃q,q=crR c e:=⟨_,rfl⟩
 rw[<- hq]
 unfold crR at hq
 obtain⟨te,hte⟩:∃n,n=J0 e.cr.t:=⟨_,rfl⟩
 rw[<- hte] at hC hq
 rw[<- hml] at hq
 obtain⟨ss,hss⟩:∃n,n=D9 (I2 (F1 D7 c)):=⟨_,rfl⟩
 rw[<- hss] at hsl hM
 clear hss
 obtain⟨⟨y,n,b⟩,hyn⟩:∃z,z=R3 (C8 D7 e.cr.t.nm c):=⟨_,rfl⟩
 rw[<- hyn] at hA hq
 clear hyn
 dsimp only at hq
 obtain⟨tm,tb,x,⟨k,cnm,to,⟨cn,ck,cl⟩,⟨vk,vn,vs⟩⟩⟩:=e
 dsimp only at hC hA hR hx hq hte hV ⊢
 have hA:Bi.Pure Tryz.prog A4Z [.d d,.d (eI D7),.d (.str x.t.nm)] (.tup [eT y.t.nm y.dc y.dk y.df y.dx,.d (eI n),.d (eI b)]):=hA
 clear he
 by_cases q1:tb=x.t.nm
 rotate_left
 ·rw[if_neg q1] at hq
  subst hq
  refine A4A.go A6 rfl ?_
  repeat' first|refine st ?_|(with_reducible first|apply A5|apply A4)<;>intro _
  all_goals rfl
 rw[if_pos q1] at hq
 by_cases q2:te=0
 rotate_left
 ·rw[if_neg q2] at hq
  subst hq
  refine A4A.go A6 rfl ?_
  repeat' first|refine st ?_|((with_reducible first|apply A8|apply A7);(·exact hC))|(with_reducible first|apply A5|apply A4)<;>intro _
  all_goals rfl
 rw[if_pos q2] at hq
 subst q2
 have hv:=hV.1 hte.symm
 by_cases q3:16<=(I2 (F1 D7 c)).length
 ·rw[if_pos q3] at hq
  subst hq
  have g4:(16:Int)<=ss.length:=by omega
  refine A4A.go A6 rfl ?_
  repeat' first|refine st ?_|((with_reducible first|apply A8|apply A7);(·first|exact hC|exact hM))|(with_reducible first|apply A5|apply A4)<;>intro _
  all_goals first|rfl|(exfalso;omega)
 rw[if_neg q3] at hq
 have g4:¬(16:Int)<=ss.length:=by omega
 by_cases q4:b=0
 ·rw[if_pos q4] at hq
  subst hq
  subst q4
  refine A4A.go A6 rfl ?_
  repeat' first|refine st ?_|((with_reducible first|apply A8|apply A7);(·first|exact hC|exact hM|exact hA))|(with_reducible first|apply A5|apply A4)<;>intro _
  all_goals first|rfl|(exfalso;omega)
 rw[if_neg q4] at hq
 have hR:=hR hv
 have hfl:=hv.fl
 have h1:=c8 x.t.fs
 have hm:=y7 x.t.fs
 have hdf:=hx.tok.df
 clear hte
 refine A4A.go A6 rfl ?_
 repeat' first|refine st ?_|((with_reducible first|apply A8|apply A7);(·first|exact hC|exact hM|exact hA))|(with_reducible first|apply A5|apply A4)<;>intro _
 refine F3 A6 C5v C4p (λ(i:Nat)=>[.d (eI i)]) (λi=>[.cells [.d (eI tm),.d (.str tb),.d (.str x.t.nm),.d x.dc,.d x.dk,.d x.df,.d x.dx,.d (eI k),.d (.str cnm),.d (.str to),.d (.str cn),.d (eI ck),.d (.bool cl),.d (eI vk),.d (eI vn),.d (.str vs)],.cells [.d (.str x.t.nm),.d x.dc,.d x.dk,.d x.df,.d x.dx],.cells [.d (.str y.t.nm),.d y.dc,.d y.dk,.d y.df,.d y.dx]]) (λi=>i<=x.t.fs.length/\q=A30 x c (x.t.fs.drop i)) (λi=>x.t.fs.length-i) 0 rfl rfl rfl rfl (λ_ _=>⟨rfl,rfl⟩) rfl ⟨by omega,hq⟩ ?_
 repeat' first|refine st ?_|(with_reducible first|apply A5|apply A4)<;>intro _
 intro i ⟨h4,h5⟩
 cases hy:x.t.fs[i]? with
 |some f=>
  have hlt:=(B2.1 hy).1
  have hg:=A0i hy
  have hR:=hR f (C2 hy)
  rw[D0F hy] at h5
  obtain⟨v,hv⟩:∃v,v=frR x c f:=⟨_,rfl⟩
  rw[<- hv] at hR h5
  clear hv
  have hg:(F8 x.t.fs)[i]?=some [Fo.d f,.str f.tb]:=hg
  by_cases q5:v=0
  ·rw[if_pos q5] at h5
   subst q5
   repeat' first|refine st ?_|((with_reducible first|apply A8|apply A7);(·exact hR))|(with_reducible first|apply A5|apply A4)<;>intro _
   exact⟨i+1,rfl,rfl,rfl,by omega,by omega,h5⟩
  ·rw[if_neg q5] at h5
   subst h5
   repeat' first|refine st ?_|((with_reducible first|apply A8|apply A7);(·exact hR))|(with_reducible first|apply A5|apply A4)<;>intro _
   all_goals rfl
 |none=>
  have hge:=D1.1 hy
  rw[R1 hge] at h5
  have h5:q=0:=h5
  subst h5
  repeat' first|refine st ?_|(with_reducible first|apply A5|apply A4)<;>intro _
  all_goals rfl
def O6(c:List En)(e:En):Int:=
 if S2 c e.tm=0 then (if H9 e.ch=true then crR c e else if W0 e.cr.t=false then 8 else if rhB (C8 D7 e.tb c)=false then 11 else if 64<=(T6 (C8 D7 e.tb c)).length then 5 else E5 ((p7 (C8 D7 e.tb c)).runsR (T6 (C8 D7 e.tb c))).1.t e.ch) else S2 c e.tm
theorem A8k(c:List En)(hc:c.length<=1048575)(hok:∀e∈c,e.ok)(d:D)(hd:B5 d (C4 c))(e:En)(he:e.ok) :
  Pure Tryz.prog A8L [.d d,e.av] (.d (eI (O6 c e))):=by
 have hC:=A6z e
 have hZ:=C1z e.cr he.cr
 have hK:=C1w c hc hok d hd e he
 have hH:=B18 c (by omega) d hd D7 e.tb
 have hsl:=A6b D7 e.tb c
 have hso:=A0r (at':=D7) (nm:=e.tb) hok
 obtain⟨q,hq⟩:∃q,q=O6 c e:=⟨_,rfl⟩
 rw[<- hq]
 unfold O6 at hq
 obtain⟨s,hs⟩:∃s,s=C8 D7 e.tb c:=⟨_,rfl⟩
 rw[<- hs] at hH hsl hso hq
 have hcl:=B8X s
 have hcl2:=A5p (T6 s)
 have hR:=B14 (p7 s) (A7N hso) (T6 s) (by omega) (A7M hso) (.sl (P8 (T6 s))) (.inr rfl)
 have hyo:=(B9d (l:=T6 s) (A7N hso) (A7M hso)).tok
 have hE:=A8h _ _ _ _ _ hyo e.ch he.ch
 obtain⟨T,hT⟩:∃T,T=p7 s:=⟨_,rfl⟩
 rw[<- hT] at hH hR hq hE hyo
 obtain⟨es2,hes2⟩:∃z,z=P8 (T6 s):=⟨_,rfl⟩
 rw[<- hes2] at hH hR hcl2
 obtain⟨⟨y,n,ye⟩,hy⟩:∃z,z=T.runsR (T6 s):=⟨_,rfl⟩
 rw[<- hy] at hR hq hE hyo
 dsimp only at hR hq hE hyo
 obtain⟨b,hb⟩:∃b,b=rhB s:=⟨_,rfl⟩
 rw[<- hb] at hH hq
 clear hs hT hy hso hes2 hb
 rw[<- hcl2] at hq
 obtain⟨z,hz⟩:∃z,z=S2 c e.tm:=⟨_,rfl⟩
 rw[<- hz] at hq
 obtain⟨w1,g1⟩:∃v,v=H9 e.ch:=⟨_,rfl⟩
 obtain⟨w2,g2⟩:∃v,v=W0 e.cr.t:=⟨_,rfl⟩
 obtain⟨w3,g3⟩:∃v,v=crR c e:=⟨_,rfl⟩
 obtain⟨w4,g4⟩:∃v,v=E5 y.t e.ch:=⟨_,rfl⟩
 rw[<- g1] at hC hq
 rw[<- g2] at hZ hq
 rw[<- g3] at hK hq
 rw[<- g4] at hE hq
 clear g1 g2 g3 g4 he
 have h1:=Q6 c
 have hm:=U1 c
 have hg0:=λi e=>@k7 c i e
 obtain⟨es,hes⟩:∃es,es=C4 c:=⟨_,rfl⟩
 rw[<- hes] at h1 hm hg0 hd
 clear hes
 obtain⟨tm,tb,⟨⟨nm,cs,ks,fs,xs⟩,dc,dk,df,dx⟩,⟨k,cnm,to,⟨cn,ck,cl⟩,⟨vk,vn,vs⟩⟩⟩:=e
 dsimp only at hC hZ hK hH hE hq hz ⊢
 obtain⟨⟨Tn,Tc,Tk,Tf,Tx⟩,Tdc,Tdk,Tdf,Tdx⟩:=T
 obtain⟨yt,ydc,ydk,ydf,ydx⟩:=y
 have hR:Bi.Pure Tryz.prog A6O [eT Tn Tdc Tdk Tdf Tdx,.d (.sl es2)] (.tup [eT yt.nm ydc ydk ydf ydx,.d (eI n),.d (eI ye)]):=hR
 have hE:Bi.Pure Tryz.prog A8H [eT yt.nm ydc ydk ydf ydx,.agg [.d (eI k),.d (.str cnm),.d (.str to),.d (.str cn),.d (eI ck),.d (.bool cl),.d (eI vk),.d (eI vn),.d (.str vs)]] (.d (eI w4)):=hE
 have hH:Bi.Pure Tryz.prog A8N [.d d,.d (eI D7),.d (.str tb)] (.tup [eT Tn Tdc Tdk Tdf Tdx,.d (.sl es2),.d (.bool b)]):=hH
 unfold S2 at hz
 by_cases g1:tm<0
 ·rw[if_pos (.inl g1)] at hz
  subst hz
  rw[if_neg (by decide)] at hq
  subst hq
  refine w7.go A6 rfl ?_
  repeat' first|refine st ?_|(with_reducible first|apply A5|apply A4)<;>intro _
  all_goals rfl
 by_cases g2:1099511627776<=tm
 ·rw[if_pos (.inr g2)] at hz
  subst hz
  rw[if_neg (by decide)] at hq
  subst hq
  refine w7.go A6 rfl ?_
  repeat' first|refine st ?_|(with_reducible first|apply A5|apply A4)<;>intro _
  all_goals rfl
 rw[if_neg (by omega)] at hz
 cases hx:c[c.length-1]? with
 |none=>
  rw[hx] at hz
  have hge:=D1.1 hx
  have h0:es.length=0:=by omega
  dsimp only at hz
  subst hz
  rw[if_pos rfl] at hq
  clear hx
  cases w1 with
  |true=>
   rw[if_pos rfl] at hq
   subst hq
   refine w7.go A6 rfl ?_
   repeat' first|refine st ?_|((with_reducible first|apply A8|apply A7);(·first|exact hC|exact hK))|(with_reducible first|apply A5|apply A4)<;>intro _
   all_goals first|rfl|(exfalso;omega)
  |false=>
   rw[if_neg (by decide)] at hq
   cases w2 with
   |false=>
    rw[if_pos rfl] at hq
    subst hq
    refine w7.go A6 rfl ?_
    repeat' first|refine st ?_|((with_reducible first|apply A8|apply A7);(·first|exact hC|exact hZ))|(with_reducible first|apply A5|apply A4)<;>intro _
    all_goals first|rfl|(exfalso;omega)
   |true=>
    rw[if_neg (by decide)] at hq
    cases b with
    |false=>
     rw[if_pos rfl] at hq
     subst hq
     refine w7.go A6 rfl ?_
     repeat' first|refine st ?_|((with_reducible first|apply A8|apply A7);(·first|exact hC|exact hZ|exact hH))|(with_reducible first|apply A5|apply A4)<;>intro _
     all_goals first|rfl|(exfalso;omega)
    |true=>
     rw[if_neg (by decide)] at hq
     by_cases q1:64<=es2.length
     ·rw[if_pos q1] at hq
      subst hq
      have q2:(64:Int)<=es2.length:=by omega
      refine w7.go A6 rfl ?_
      repeat' first|refine st ?_|((with_reducible first|apply A8|apply A7);(·first|exact hC|exact hZ|exact hH))|(with_reducible first|apply A5|apply A4)<;>intro _
      all_goals first|rfl|(exfalso;omega)
     ·rw[if_neg q1] at hq
      subst hq
      have q2:¬(64:Int)<=es2.length:=by omega
      refine w7.go A6 rfl ?_
      repeat' first|refine st ?_|((with_reducible first|apply A8|apply A7);(·first|exact hC|exact hZ|exact hH|exact hR|exact hE))|(with_reducible first|apply A5|apply A4)<;>intro _
      all_goals first|rfl|(exfalso;omega)
 |some e=>
  rw[hx] at hz
  dsimp only at hz
  have hlt:=(B2.1 hx).1
  have hg:es[((es.length:Int)-1).toNat]?=some e.ds:=by rw[show((es.length:Int)-1).toNat=c.length-1 by omega];exact hg0 _ e hx
  have hl:0<es.length:=by omega
  obtain⟨tm',tb',⟨⟨nm',cs',ks',fs',xs'⟩,dc',dk',df',dx'⟩,⟨k',cnm',to',⟨cn',ck',cl'⟩,⟨vk',vn',vs'⟩⟩⟩:=e
  dsimp only at hz
  clear hx
  by_cases g3:tm<tm'
  ·rw[if_pos g3] at hz
   subst hz
   rw[if_neg (by decide)] at hq
   subst hq
   refine w7.go A6 rfl ?_
   repeat' first|refine st ?_|(with_reducible first|apply A5|apply A4)<;>intro _
   all_goals rfl
  rw[if_neg g3] at hz
  subst hz
  rw[if_pos rfl] at hq
  cases w1 with
  |true=>
   rw[if_pos rfl] at hq
   subst hq
   refine w7.go A6 rfl ?_
   repeat' first|refine st ?_|((with_reducible first|apply A8|apply A7);(·first|exact hC|exact hK))|(with_reducible first|apply A5|apply A4)<;>intro _
   all_goals first|rfl|(exfalso;omega)
  |false=>
   rw[if_neg (by decide)] at hq
   cases w2 with
   |false=>
    rw[if_pos rfl] at hq
    subst hq
    refine w7.go A6 rfl ?_
    repeat' first|refine st ?_|((with_reducible first|apply A8|apply A7);(·first|exact hC|exact hZ))|(with_reducible first|apply A5|apply A4)<;>intro _
    all_goals first|rfl|(exfalso;omega)
   |true=>
    rw[if_neg (by decide)] at hq
    cases b with
    |false=>
     rw[if_pos rfl] at hq
     subst hq
     refine w7.go A6 rfl ?_
     repeat' first|refine st ?_|((with_reducible first|apply A8|apply A7);(·first|exact hC|exact hZ|exact hH))|(with_reducible first|apply A5|apply A4)<;>intro _
     all_goals first|rfl|(exfalso;omega)
    |true=>
     rw[if_neg (by decide)] at hq
     by_cases q1:64<=es2.length
     ·rw[if_pos q1] at hq
      subst hq
      have q2:(64:Int)<=es2.length:=by omega
      refine w7.go A6 rfl ?_
      repeat' first|refine st ?_|((with_reducible first|apply A8|apply A7);(·first|exact hC|exact hZ|exact hH))|(with_reducible first|apply A5|apply A4)<;>intro _
      all_goals first|rfl|(exfalso;omega)
     ·rw[if_neg q1] at hq
      subst hq
      have q2:¬(64:Int)<=es2.length:=by omega
      refine w7.go A6 rfl ?_
      repeat' first|refine st ?_|((with_reducible first|apply A8|apply A7);(·first|exact hC|exact hZ|exact hH|exact hR|exact hE))|(with_reducible first|apply A5|apply A4)<;>intro _
      all_goals first|rfl|(exfalso;omega)
theorem A8j(c:List En)(hc:c.length<=1048575)(hok:∀e∈c,e.ok)(d:D)(hd:B5 d (C4 c)) :
  Pure Tryz.prog B4Q [.d d] (.d (eI (K7 O6 [] c))):=by
 have h1:=Q6 c
 have hm:=U1 c
 have hg0:=λi e=>@k7 c i e
 have hK:∀(i:Nat) (e:En),e.ok->∀d',B5 d' ((C4 c).take i)->Bi.Pure Tryz.prog A8L [.d d',e.av] (.d (eI (O6 (c.take i) e))):=λi e he d' hd'=>by
  rw[A7e] at hd'
  exact A8k (c.take i) (by rw[N6];omega) (λx hx=>hok x (A1F hx)) d' hd' e he
 obtain⟨es,hes⟩:∃es,es=C4 c:=⟨_,rfl⟩
 rw[<- hes] at h1 hm hg0 hd hK
 clear hes
 obtain⟨q,hq⟩:∃q,q=K7 O6 [] c:=⟨_,rfl⟩
 rw[<- hq]
 refine C2w.go A6 rfl ?_
 repeat' first|refine st ?_|(with_reducible first|apply A5|apply A4)<;>intro _
 refine F3 A6 C5p C4j (λ(i:Nat)=>[.d (eI i)]) (λi=>[]) (λi=>i<=c.length/\q=K7 O6 (c.take i) (c.drop i)) (λi=>c.length-i) 0 rfl rfl rfl rfl (λ_ _=>⟨rfl,rfl⟩) rfl ⟨by omega,hq⟩ ?_
 repeat' first|refine st ?_|(with_reducible first|apply A5|apply A4)<;>intro _
 intro i ⟨g1,g2⟩
 cases hx:c[i]? with
 |some e=>
  have hlt:=(B2.1 hx).1
  have hg:es[((i:Nat):Int).toNat]?=some e.ds:=hg0 i e hx
  have hil:(i:Int)<es.length:=by omega
  rw[B6j hx] at g2
  rcases hd with ⟨rfl,hnil⟩|rfl
  ·exact absurd hil (by rw[hnil];simp)
  have hE:=hK i e (hok e (C2 hx)) (.sl ((es.drop (0:Int).toNat).take ((i:Int).toNat-(0:Int).toNat))) L4
  obtain⟨v,hv⟩:∃v,v=O6 (c.take i) e:=⟨_,rfl⟩
  rw[<- hv] at hE g2
  clear hv hK
  obtain⟨tm,tb,⟨⟨nm,cs,ks,fs,xs⟩,dc,dk,df,dx⟩,⟨k,cnm,to,⟨cn,ck,cl⟩,⟨vk,vn,vs⟩⟩⟩:=e
  by_cases q1:v=0
  ·rw[if_pos q1] at g2
   subst q1
   repeat' first|refine st ?_|((with_reducible first|apply A8|apply A7);(·exact hE))|(with_reducible first|apply A5|apply A4)<;>intro _
   exact⟨i+1,rfl,rfl,rfl,by omega,by omega,g2⟩
  ·rw[if_neg q1] at g2
   subst g2
   repeat' first|refine st ?_|((with_reducible first|apply A8|apply A7);(·exact hE))|(with_reducible first|apply A5|apply A4)<;>intro _
   all_goals rfl
 |none=>
  have hge:=D1.1 hx
  have hil:(es.length:Int)<=i:=by omega
  rw[R1 hge] at g2
  have g2:q=0:=g2
  subst g2
  repeat' first|refine st ?_|(with_reducible first|apply A5|apply A4)<;>intro _
  all_goals rfl
def A2J(nm:List UInt8):List En->Prop
 |[]=>True
 |e::r=>H9 e.ch=true/\e.cr.t.nm=nm/\J0 e.cr.t=0/\(∀x∈r,H9 x.ch=false)/\(e.cr.runs (r.map En.ch)).2.2=0
structure Q2(c:List En):Prop where
 sel:∀nm,A2J nm (C8 D7 nm c)
 tm:∀e∈c,0<=e.tm/\e.tm<D7
 so:c.Pairwise λa b=>a.tm<=b.tm
theorem B8Y:∀(r:List En)(t:TD),(∀x∈r,H9 x.ch=false)->r.foldl (λt e=>if H9 e.ch then e.cr else t) t=t
 |[],t,_=>rfl
 |e::r,t,h=>by
  rw[A26,h e (by simp)]
  exact B8Y r t λx hx=>h x (by simp[hx])
theorem A7q{nm:List UInt8}{e:En}{r:List En}(h:A2J nm (e::r)):u6 (e::r)=true/\u7 (e::r)=e.cr/\Q7 (e::r)=r.map En.ch/\p7 (e::r)=e.cr/\T6 (e::r)=r.map En.ch/\rhB (e::r)=true:=by
 obtain⟨h1,h2,h3,h4,h5⟩:=h
 refine⟨h1,?_,?_,?_,?_,?_⟩
 ·show(if H9 e.ch then e.cr else K4)=e.cr
  rw[if_pos h1]
 ·unfold Q7;rw[if_pos (show u6 (e::r)=true from h1)];rfl
 ·unfold p7;rw[A26,h1];exact B8Y r e.cr h4
 ·unfold T6
  rw[A3q,h1]
  simp only[Bool.not_true,L8,if_false]
  rw[List.filter_eq_self.2 λx hx=>by rw[h4 x hx];rfl]
 ·unfold rhB;rw[List.any_cons,h1];rfl
theorem A33{nm:List UInt8}{e:En}{r:List En}(h:A2J nm (e::r)):I6 (e::r)=((e.cr.runs (r.map En.ch)).1,r.length,true):=by
 obtain⟨a1,a2,a3,a4,a5,a6⟩:=A7q h
 obtain⟨h1,h2,h3,h4,h5⟩:=h
 have hn:(e.cr.runs (r.map En.ch)).2.1=r.length:=by
  unfold TD.runs at h5 ⊢
  rw[if_pos h3] at h5 ⊢
  rw[(A47 _ _ _ (TD.cp_vd h3) h5).2,D0];omega
 unfold I6
 rw[if_pos a1,a2,a3,hn,h5]
 rfl
theorem A5A{nm:List UInt8}{e:En}{r:List En}(h:A2J nm (e::r)):R3 (e::r)=((e.cr.runsR (r.map En.ch)).1,r.length,0):=by
 obtain⟨a1,a2,a3,a4,a5,a6⟩:=A7q h
 obtain⟨h1,h2,h3,h4,h5⟩:=h
 have hn:(e.cr.runsR (r.map En.ch)).2.1=r.length:=by
  rw[<- (A48 e.cr (r.map En.ch)).1]
  unfold TD.runs at h5 ⊢
  rw[if_pos h3] at h5 ⊢
  rw[(A47 _ _ _ (TD.cp_vd h3) h5).2,D0];omega
 unfold R3
 rw[if_pos a6,a4,a5,hn]
theorem B8h{a b:Tb}(h:nf a=nf b):a.nm=b.nm/\a.cs=b.cs/\a.ks=b.ks:=by
 obtain⟨_,_,_,_,_⟩:=a
 obtain⟨_,_,_,_,_⟩:=b
 injection h with h1 h2 h3
 exact⟨h1,h2,h3⟩
theorem D2n{x:TD}{c:List En}(h:Q2 c)(nm:List UInt8):(Y2 x c nm).2=(A1S x c nm).2/\(Y2 x c nm).1.t.cs=(A1S x c nm).1.t.cs/\(Y2 x c nm).1.t.ks=(A1S x c nm).1.t.ks:=by
 unfold Y2 A1S
 by_cases hn:nm=x.t.nm
 ·rw[if_pos hn,if_pos hn];exact⟨rfl,rfl,rfl⟩
 ·rw[if_neg hn,if_neg hn]
  have hs:=h.sel nm
  cases hq:C8 D7 nm c with
  |nil=>exact⟨rfl,rfl,rfl⟩
  |cons e r=>
   rw[hq] at hs
   rw[A33 hs,A5A hs]
   obtain⟨_,b2,b3⟩:=B8h (A48 e.cr (r.map En.ch)).2
   exact⟨rfl,b2,b3⟩
theorem D0C{x:TD}{c:List En}(h:Q2 c)(f:Fo):z6 x c f=frR x c f:=by
 obtain⟨h1,h2,h3⟩:=D2n (x:=x) h f.tb
 unfold z6 frR
 rw[h1,h2,h3]
theorem B7r{x:TD}{c:List En}(h:Q2 c):∀l:List Fo,A1g x c l=A30 x c l
 |[]=>rfl
 |f::r=>by
  unfold A1g A30
  rw[D0C h,B7r h r]
theorem B6B{c:List En}(h:Q2 c)(nm:List UInt8):nm∈F1 D7 c↔C8 D7 nm c≠[]:=by
 constructor
 ·intro hm
  unfold F1 at hm
  obtain⟨e,he,rfl⟩:=F2.1 hm
  obtain⟨he,_⟩:=X8.1 he
  obtain⟨he,h2⟩:=X8.1 he
  refine List.ne_nil_of_mem (a:=e) (X8.2 ⟨he,?_⟩)
  unfold Q1
  unfold k8 at h2
  rw[h2];simp
 ·intro hne
  have hs:=h.sel nm
  cases hq:C8 D7 nm c with
  |nil=>exact absurd hq hne
  |cons e r=>
   rw[hq] at hs
   have hm:e∈C8 D7 nm c:=by rw[hq];simp
   obtain⟨h1,h2⟩:=X8.1 hm
   unfold Q1 at h2
   rw[O9] at h2
   have h3:=of_decide_eq_true h2.2
   rw[<- h3]
   exact F2.2 ⟨e,X8.2 ⟨X8.2 ⟨h1,h2.1⟩,hs.1⟩,rfl⟩
theorem B5X{c:List En}(h:Q2 c)(nm:List UInt8):(R3 (C8 D7 nm c)).2.2=0↔nm∈F1 D7 c:=by
 rw[B6B h]
 have hs:=h.sel nm
 cases hq:C8 D7 nm c with
 |nil=>exact⟨λh=>absurd h (by decide),λh=>absurd rfl h⟩
 |cons e r=>
  rw[hq] at hs
  rw[A5A hs]
  exact⟨λ_=>by simp,λ_=>rfl⟩
theorem B0s(l:List (List UInt8))(nm:List UInt8):(I2 l).contains nm=true↔nm∈l:=by
 rw[List.contains_iff_mem]
 exact(A7T l).mem_iff
theorem A3M{c:List En}(h:Q2 c)(e:En):F9 c e=O6 c e:=by
 unfold F9 O6
 by_cases h0:S2 c e.tm=0
 rotate_left
 ·rw[if_neg h0,if_neg h0]
 rw[if_pos h0,if_pos h0]
 cases hb:H9 e.ch with
 |false=>
  rw[if_pos rfl,if_neg (show ¬(false=true) by decide)]
  cases hz:W0 e.cr.t with
  |false=>rw[if_pos rfl,if_pos rfl]
  |true=>
   rw[if_neg (by decide),if_neg (by decide)]
   unfold R8
   rw[if_neg (by rw[h0];decide)]
   have hs:=h.sel e.tb
   cases hq:C8 D7 e.tb c with
   |nil=>rfl
   |cons e0 r=>
    rw[hq] at hs
    obtain⟨a1,a2,a3,a4,a5,a6⟩:=A7q hs
    rw[A33 hs,a6,a5,a4]
    dsimp only
    rw[if_neg (show ¬(true=false) by decide),if_neg (show ¬(true=false) by decide),D0]
    rw[show E5 (e0.cr.runs (r.map En.ch)).1.t e.ch=E5 (e0.cr.runsR (r.map En.ch)).1.t e.ch by rw[<- A2o,(A48 _ _).2,A2o]]
 |true=>
  rw[if_neg (by decide),if_pos rfl]
  unfold S1 crR
  rw[if_pos h0]
  by_cases hn:e.tb=e.cr.t.nm
  rotate_left
  ·rw[if_neg hn,if_neg hn]
  rw[if_pos hn,if_pos hn,B7r h]
  by_cases hm:e.cr.t.nm∈F1 D7 c
  ·rw[if_pos ((B0s _ _).2 hm),if_pos ((B5X h _).2 hm)]
  ·rw[if_neg λhh=>hm ((B0s _ _).1 hh),if_neg λhh=>hm ((B5X h _).1 hh)]
theorem B9b:∀(l:List Ch)(x:TD)(i:Nat)(c:Ch),(TD.run x i l).2.2=0->E5 (TD.run x i l).1.t c=0->(TD.run x i (l++[c])).2.2=0
 |[],x,i,c,_,h=>by
  show(TD.run x i [c]).2.2=0
  have h:E5 x.t c=0:=h
  unfold TD.run
  rw[if_pos h]
  rfl
 |a::l,x,i,c,h1,h2=>by
  show(TD.run x i (a::(l++[c]))).2.2=0
  unfold TD.run at h1 h2 ⊢
  by_cases hq:E5 x.t a=0
  ·rw[if_pos hq] at h1 h2 ⊢
   exact B9b l _ _ c h1 h2
  ·rw[if_neg hq] at h1
   exact absurd h1 hq
theorem D2W(at':Int)(nm:List UInt8)(c:List En)(e:En):C8 at' nm (c++[e])=C8 at' nm c++if Q1 at' nm e then [e] else []:=by
 unfold C8
 rw[A1A,A3q]
 cases Q1 at' nm e<;>rfl
theorem B7G{c:List En}(h:Q2 c){e:En}(he:F9 c e=0):Q2 (c++[e]):=by
 unfold F9 at he
 by_cases h0:S2 c e.tm=0
 rotate_left
 ·rw[if_neg h0] at he;exact absurd he h0
 rw[if_pos h0] at he
 have ht:0<=e.tm/\e.tm<D7:=by
  unfold S2 at h0
  by_cases g:e.tm<0\/1099511627776<=e.tm
  ·rw[if_pos g] at h0;exact absurd h0 (by decide)
  ·unfold D7;omega
 have hl:∀a∈c,a.tm<=e.tm:=by
  intro a ha
  unfold S2 at h0
  rw[if_neg (by unfold D7 at ht;omega)] at h0
  obtain⟨i,hi⟩:=A1E.1 ha
  have hlt:=(B2.1 hi).1
  have hx:c[c.length-1]?=some (c[c.length-1]'(by omega)):=C9 (by omega)
  rw[hx] at h0
  dsimp only at h0
  have h1:¬e.tm<(c[c.length-1]'(by omega)).tm:=λg=>by rw[if_pos g] at h0;exact absurd h0 (by decide)
  by_cases hi2:i=c.length-1
  ·subst hi2
   rw[hx] at hi
   injection hi with hi
   rw[<- hi];omega
  ·have hp:=A8y.1 h.so i (c.length-1) hlt (by omega) (by omega)
   rw[C9 hlt] at hi
   injection hi with hi
   rw[hi] at hp
   omega
 refine⟨λnm=>?_,λa ha=>?_,?_⟩
 ·rw[D2W]
  cases hnb:Q1 D7 nm e with
  |false=>
   rw[if_neg (by decide),Z6]
   exact h.sel nm
  |true=>
   rw[if_pos rfl]
   unfold Q1 at hnb
   rw[O9] at hnb
   have htb:=of_decide_eq_true hnb.2
   subst htb
   have hs:=h.sel e.tb
   cases hb:H9 e.ch with
   |false=>
    rw[hb,if_pos rfl] at he
    cases hz:W0 e.cr.t with
    |false=>rw[hz,if_pos rfl] at he;exact absurd he (by decide)
    |true=>
     rw[hz,if_neg (by decide)] at he
     unfold R8 at he
     rw[if_neg (by rw[h0];decide)] at he
     cases hq:C8 D7 e.tb c with
     |nil=>
      rw[hq] at he
      have he:(11:Int)=0:=he
      exact absurd he (by decide)
     |cons e0 r=>
      rw[hq] at hs he
      rw[A33 hs] at he
      dsimp only at he
      rw[if_neg (show ¬(true=false) by decide)] at he
      by_cases h64:(64:Nat)<=r.length
      ·rw[if_pos h64] at he;exact absurd he (by decide)
      rw[if_neg h64] at he
      obtain⟨a1,a2,a3,a4,a5⟩:=hs
      refine⟨a1,a2,a3,λx hx=>?_,?_⟩
      ·rcases P0.1 hx with hx|hx
       ·exact a4 x hx
       ·rw[j5.1 hx];exact hb
      ·show(e0.cr.runs ((r++[e]).map En.ch)).2.2=0
       rw[s7]
       unfold TD.runs at a5 he ⊢
       rw[if_pos a3] at a5 he ⊢
       exact B9b _ _ _ _ a5 he
   |true=>
    rw[hb,if_neg (by decide)] at he
    by_cases hn:e.tb=e.cr.t.nm
    rotate_left
    ·rw[if_neg hn] at he;exact absurd he (by decide)
    rw[if_pos hn] at he
    unfold S1 at he
    rw[if_pos h0] at he
    by_cases hv:J0 e.cr.t=0
    rotate_left
    ·rw[if_neg hv] at he;exact absurd he hv
    rw[if_pos hv] at he
    by_cases h16:16<=(F1 D7 c).length
    ·rw[if_pos h16] at he;exact absurd he (by decide)
    rw[if_neg h16] at he
    by_cases hm:e.cr.t.nm∈F1 D7 c
    ·rw[if_pos ((B0s _ _).2 hm)] at he;exact absurd he (by decide)
    cases hq:C8 D7 e.tb c with
    |nil=>
     refine⟨hb,hn.symm,hv,λx hx=>absurd hx (by simp),?_⟩
     show(e.cr.runs []).2.2=0
     unfold TD.runs
     rw[if_pos hv]
     rfl
    |cons e0 r=>
     rw[<- hn] at hm
     exact absurd ((B6B h _).2 (by rw[hq];simp)) hm
 ·rcases P0.1 ha with ha|ha
  ·exact h.tm a ha
  ·rw[j5.1 ha];exact ht
 ·rw[List.pairwise_append]
  exact⟨h.so,List.pairwise_singleton _ _,λa ha b hb=>by rw[j5.1 hb];exact hl a ha⟩
theorem A7r:Q2 []:=⟨λ_=>trivial,λe he=>absurd he (by simp),List.Pairwise.nil⟩
theorem B6l:∀(l c:List En),Q2 c->K7 F9 c l=K7 O6 c l
 |[],c,h=>rfl
 |e::r,c,h=>by
  unfold K7
  rw[<- A3M h e]
  by_cases h0:F9 c e=0
  ·rw[if_pos h0,if_pos h0]
   exact B6l r _ (B7G h h0)
  ·rw[if_neg h0,if_neg h0]
theorem A7a:∀(l c:List En),Q2 c->K7 F9 c l=0->Q2 (c++l)
 |[],c,h,_=>by rw[Z6];exact h
 |e::r,c,h,hc=>by
  unfold K7 at hc
  by_cases h0:F9 c e=0
  ·rw[if_pos h0] at hc
   have:=A7a r _ (B7G h h0) hc
   rwa [List.append_assoc] at this
  ·rw[if_neg h0] at hc
   exact absurd hc h0
theorem A9t(c:List En):K7 F9 [] c=K7 O6 [] c:=B6l c [] A7r
def stI(l:List Int):D:=C0 (A0 l).isEmpty (A0 l)
def tmS(s:List En):List Int:=if u6 s then s.map En.tm else []
theorem C0q(c:List En)(hc:c.length<=1048576)(d:D)(hd:B5 d (C4 c))(nm:List UInt8):Pure Tryz.prog B51 [.d d,.d (.str nm)] (.d (stI (tmS (C8 D7 nm c)))):=by
 have hS:=A8e A6R D7 nm (Q1 D7 nm) (B1f D7 nm) c hc d hd
 have hsl:=A6b D7 nm c
 rw[show c.filter (Q1 D7 nm)=C8 D7 nm c from rfl] at hS
 obtain⟨s,hs⟩:∃s,s=C8 D7 nm c:=⟨_,rfl⟩
 rw[<- hs] at hS hsl ⊢
 have hsd:B5 (C0 (C4 s).isEmpty (C4 s)) (C4 s):=X5 λe=>w8.1 e
 have hH:=B0R s (by omega) _ hsd
 have h1:=Q6 s
 have hm:=U1 s
 have hg0:=λi e=>@k7 s i e
 obtain⟨q,hq⟩:∃q,q=tmS s:=⟨_,rfl⟩
 rw[<- hq]
 unfold tmS at hq
 obtain⟨T,hT⟩:∃T,T=u7 s:=⟨_,rfl⟩
 rw[<- hT] at hH
 obtain⟨dl,hdl⟩:∃z,z=C0 (P8 (Q7 s)).isEmpty (P8 (Q7 s)):=⟨_,rfl⟩
 rw[<- hdl] at hH
 obtain⟨b,hb⟩:∃z,z=u6 s:=⟨_,rfl⟩
 rw[<- hb] at hH hq
 obtain⟨de,hde⟩:∃z,z=C0 (C4 s).isEmpty (C4 s):=⟨_,rfl⟩
 rw[<- hde] at hS hH hsd
 obtain⟨es,hes⟩:∃es,es=C4 s:=⟨_,rfl⟩
 rw[<- hes] at h1 hm hg0 hsd
 clear hs hT hdl hde hb hes
 obtain⟨⟨tn,cs,ks,fs,xs⟩,dc,dk,df,dx⟩:=T
 cases b with
 |false=>
  rw[if_neg (by decide)] at hq
  subst hq
  refine B1u.go A6 rfl ?_
  repeat' first|refine st ?_|((with_reducible first|apply A8|apply A7);(·first|exact hS|exact hH))|(with_reducible first|apply A5|apply A4)<;>intro _
  all_goals rfl
 |true=>
  rw[if_pos rfl] at hq
  refine B1u.go A6 rfl ?_
  repeat' first|refine st ?_|((with_reducible first|apply A8|apply A7);(·first|exact hS|exact hH))|(with_reducible first|apply A5|apply A4)<;>intro _
  refine s0 9 1 rfl rfl ?_
  refine I8 A6 C5C C4w (λ(i:Nat) (w:List Int)=>[.arr 1 (A0 w).length,.d (eI i)]) (λi w=>[.cells [.d (.str tn),.d dc,.d dk,.d df,.d dx],.arr (A0 w) 1 0 (A0 w).isEmpty]) (λi w=>i<=s.length/\w=(s.take i).map En.tm) (λi w=>s.length-i) 0 [] rfl rfl rfl rfl (λ_ _ _=>⟨rfl,rfl⟩) rfl ⟨by omega,rfl⟩ ?_
  repeat' first|refine st ?_|(with_reducible first|apply A5|apply A4)<;>intro _
  intro i A ⟨g1,g2⟩
  have hAl:(A0 A).length<=i:=by
   rw[B6,g2,D0,N6];omega
  have hAm:=D2 A
  cases hx:s[i]? with
  |some e=>
   have hlt:=(B2.1 hx).1
   have hg:es[((i:Nat):Int).toNat]?=some e.ds:=hg0 i e hx
   have hil:(i:Int)<es.length:=by omega
   have hs:(s.take (i+1)).map En.tm=A++[e.tm]:=by rw[P5,hx,s7,<- g2];rfl
   have he:A0 A++[[eI e.tm]]=A0 (A++[e.tm]):=by simp[A0]
   obtain⟨tm,tb,⟨⟨nm',cs',ks',fs',xs'⟩,dc',dk',df',dx'⟩,⟨k',cnm',to',⟨cn',ck',cl'⟩,⟨vk',vn',vs'⟩⟩⟩:=e
   dsimp only at hs he
   clear g2
   repeat' first|refine st ?_|(with_reducible first|apply A5|apply A4)<;>intro _
   refine⟨i+1,A++[tm],?_,rfl,?_,by omega,by omega,hs.symm⟩
   ·rw[<- he];simp
   ·rw[<- he];simp
  |none=>
   have hge:=D1.1 hx
   have hil:(es.length:Int)<=i:=by omega
   rw[L0 hge] at g2
   rw[hq,<- g2]
   repeat' first|refine st ?_|(with_reducible first|apply A5|apply A4)<;>intro _
   all_goals (unfold stI C0;cases(A0 A).isEmpty<;>rfl)
def p9(nm:List UInt8)(e:En):Bool:=decide (e.tb=nm)
theorem C1v(c:List En)(hc:c.length<=1048576)(d:D)(hd:B5 d (C4 c))(nm:List UInt8):Pure Tryz.prog B4U [.d d,.d (.str nm)] (.d (.sl (A0 ((c.filter (p9 nm)).map En.tm)))):=by
 have h1:=Q6 c
 have hm:=U1 c
 have hg0:=λi e=>@k7 c i e
 obtain⟨es,hes⟩:∃es,es=C4 c:=⟨_,rfl⟩
 rw[<- hes] at h1 hm hg0 hd
 clear hes
 obtain⟨q,hq⟩:∃q,q=(c.filter (p9 nm)).map En.tm:=⟨_,rfl⟩
 rw[<- hq]
 refine C2B.go A6 rfl ?_
 repeat' first|refine st ?_|(with_reducible first|apply A5|apply A4)<;>intro _
 refine I8 A6 C5u C4o (λ(i:Nat) (w:List Int)=>[.arr 0 (A0 w).length,.d (eI i)]) (λi w=>[.arr (A0 w) 1 0 false]) (λi w=>i<=c.length/\w=((c.take i).filter (p9 nm)).map En.tm) (λi w=>c.length-i) 0 [] rfl rfl rfl rfl (λ_ _ _=>⟨rfl,rfl⟩) rfl ⟨by omega,rfl⟩ ?_
 repeat' first|refine st ?_|(with_reducible first|apply A5|apply A4)<;>intro _
 intro i A ⟨g1,g2⟩
 have hAl:(A0 A).length<=i:=by
  rw[B6,g2,D0]
  exact N7 (j4 ..) (by rw[N6];omega)
 have hAm:=D2 A
 cases hx:c[i]? with
 |some e=>
  have hlt:=(B2.1 hx).1
  have hg:es[((i:Nat):Int).toNat]?=some e.ds:=hg0 i e hx
  have hil:(i:Int)<es.length:=by omega
  have hs:((c.take (i+1)).filter (p9 nm)).map En.tm=A++if p9 nm e then [e.tm] else []:=by
   rw[A5v hx,s7,<- g2]
   cases p9 nm e<;>rfl
  have he:A0 A++[[eI e.tm]]=A0 (A++[e.tm]):=by simp[A0]
  clear g2
  unfold p9 at hs
  obtain⟨tm,tb,⟨⟨nm',cs',ks',fs',xs'⟩,dc',dk',df',dx'⟩,⟨k',cnm',to',⟨cn',ck',cl'⟩,⟨vk',vn',vs'⟩⟩⟩:=e
  dsimp only at hs he
  by_cases q1:tb=nm
  ·rw[decide_eq_true q1,if_pos rfl] at hs
   repeat' first|refine st ?_|(with_reducible first|apply A5|apply A4)<;>intro _
   refine⟨i+1,A++[tm],?_,rfl,?_,by omega,by omega,hs.symm⟩
   ·rw[<- he];simp
   ·rw[<- he];simp
  ·rw[decide_eq_false q1,if_neg (by decide),Z6] at hs
   repeat' first|refine st ?_|(with_reducible first|apply A5|apply A4)<;>intro _
   exact⟨i+1,A,rfl,rfl,rfl,by omega,by omega,hs.symm⟩
 |none=>
  have hge:=D1.1 hx
  have hil:(es.length:Int)<=i:=by omega
  rw[L0 hge] at g2
  rw[hq,<- g2]
  repeat' first|refine st ?_|(with_reducible first|apply A5|apply A4)<;>intro _
  all_goals rfl
theorem D3f{c:List En}(h:Q2 c)(nm:List UInt8):tmS (C8 D7 nm c)=(c.filter (p9 nm)).map En.tm:=by
 have h1:C8 D7 nm c=c.filter (p9 nm):=by
  unfold C8
  refine List.filter_congr λe he=>?_
  unfold Q1 p9
  rw[decide_eq_true (by have:=(h.tm e he).2;omega:e.tm<=D7),s5]
 unfold tmS
 have hs:=h.sel nm
 rw[<- h1]
 cases hq:C8 D7 nm c with
 |nil=>rfl
 |cons e r=>
  rw[hq] at hs
  rw[if_pos (A7q hs).1]
def ixF(nm:List UInt8)(i:Nat):List Fo->Int
 |[]=>-1
 |f::r=>if f.tb=nm then (i:Int) else ixF nm (i+1) r
theorem D0R{nm:List UInt8}{l:List Fo}{i:Nat}{f:Fo}(h:l[i]?=some f):ixF nm i (l.drop i)=if f.tb=nm then (i:Int) else ixF nm (i+1) (l.drop (i+1)):=by
 obtain⟨hlt,he⟩:=B2.1 h
 rw[V5 hlt,he];rfl
def Y9(nm:List UInt8)(l:List Fo):Bool:=l.any λf=>decide (f.tb=nm)
theorem B7I(nm:List UInt8):∀(l:List Fo)(i:Nat),decide (0<=ixF nm i l)=Y9 nm l
 |[],i=>rfl
 |f::r,i=>by
  unfold ixF Y9
  rw[List.any_cons]
  by_cases h:f.tb=nm
  ·rw[if_pos h,decide_eq_true h,decide_eq_true (by omega)];rfl
  ·rw[if_neg h,decide_eq_false h,Bool.false_or]
   exact B7I nm r (i+1)
theorem C1B(fd:D)(tb:List UInt8)(nm:List UInt8):B4 Tryz.prog A51 [.agg [.d fd,.d (.str tb)],.ptr 0 0] [.cells [.d (.str nm)]] (λr os=>r=.d (.bool (decide (tb=nm)))/\os=[.cells [.d (.str nm)]]):=by
 refine C2K.goX A6 rfl ?_
 repeat' first|refine st ?_|(with_reducible first|apply A5|apply A4)<;>intro _
 all_goals exact⟨rfl,rfl⟩
theorem C0Y(l:List Fo)(hl:l.length<=1048576)(df:D)(hd:B5 df (F8 l))(nm:List UInt8):B4 Tryz.prog B5x [.d df,.clo A51 [0]] [.cells [.d (.str nm)]] (λr os=>r=.d (eI (ixF nm 0 l))/\os=[.cells [.d (.str nm)]]):=by
 refine C3p.goX A6 rfl ?_
 have h1:=c8 l
 have hm:=y7 l
 repeat' first|refine st ?_|(with_reducible first|apply A5|apply A4)<;>intro _
 refine F3 A6 C62 C4W (λ(i:Nat)=>[.d (eI i)]) (λi=>[.cells [.d (.str nm)]]) (λi=>i<=l.length/\ixF nm 0 l=ixF nm i (l.drop i)) (λi=>l.length-i) 0 rfl rfl rfl rfl (λ_ _=>⟨rfl,rfl⟩) rfl ⟨by omega,rfl⟩ ?_
 repeat' first|refine st ?_|(with_reducible first|apply A5|apply A4)<;>intro _
 intro i ⟨h4,h5⟩
 cases hx:l[i]? with
 |some x=>
  have hlt:=(B2.1 hx).1
  have hg:(F8 l)[i]?=some [Fo.d x,.str x.tb]:=A0i hx
  have hC:=C1B (Fo.d x) x.tb nm
  rw[D0R hx] at h5
  by_cases h:x.tb=nm
  ·rw[if_pos h] at h5
   rw[h5]
   rw[decide_eq_true h] at hC
   repeat' first|refine st ?_|((with_reducible first|apply I7|apply D8);(·exact hC);(try rintro _ _ ⟨rfl,rfl⟩))|((with_reducible apply J4);(·exact hC))|((with_reducible apply I5);refine st ?_;(with_reducible apply J2);(·exact rfl);refine st ?_;(with_reducible apply D8);(·exact hC);(try rintro _ _ ⟨rfl,rfl⟩))|(with_reducible first|apply A5|apply A4)<;>intro _
   all_goals exact⟨rfl,rfl⟩
  ·rw[if_neg h] at h5
   rw[decide_eq_false h] at hC
   repeat' first|refine st ?_|((with_reducible first|apply I7|apply D8);(·exact hC);(try rintro _ _ ⟨rfl,rfl⟩))|((with_reducible apply J4);(·exact hC))|((with_reducible apply I5);refine st ?_;(with_reducible apply J2);(·exact rfl);refine st ?_;(with_reducible apply D8);(·exact hC);(try rintro _ _ ⟨rfl,rfl⟩))|(with_reducible first|apply A5|apply A4)<;>intro _
   exact⟨i+1,rfl,rfl,rfl,by omega,by omega,h5⟩
 |none=>
  have hge:=D1.1 hx
  rw[R1 hge] at h5
  rw[h5]
  repeat' first|refine st ?_|(with_reducible first|apply A5|apply A4)<;>intro _
  all_goals exact⟨rfl,rfl⟩
theorem C0v(l:List Fo)(hl:l.length<=1048576)(df:D)(hd:B5 df (F8 l))(nm:List UInt8):B4 Tryz.prog A91 [.d df,.clo A51 [0]] [.cells [.d (.str nm)]] (λr os=>r=.d (.bool (Y9 nm l))/\os=[.cells [.d (.str nm)]]):=by
 have hI:=C0Y l hl df hd nm
 rw[<- B7I nm l 0]
 obtain⟨v,hv⟩:∃v,v=ixF nm 0 l:=⟨_,rfl⟩
 rw[<- hv] at hI ⊢
 refine C3m.goX A6 rfl ?_
 repeat' first|refine st ?_|((with_reducible first|apply I7|apply D8);(·exact hI);(try rintro _ _ ⟨rfl,rfl⟩))|((with_reducible apply J4);(·exact hI))|((with_reducible apply I5);refine st ?_;(with_reducible apply J2);(·exact rfl);refine st ?_;(with_reducible apply D8);(·exact hI);(try rintro _ _ ⟨rfl,rfl⟩))|(with_reducible first|apply A5|apply A4)<;>intro _
 all_goals exact⟨rfl,rfl⟩
theorem B7u{α:Type}{p:α->Bool}{l:List α}{i:Nat}{e:α}(h:l[i]?=some e):(l.take (i+1)).filter p=(l.take i).filter p++if p e then [e] else []:=by
 rw[P5,h,A1A]
 congr 1
 show List.filter p [e]=_
 rw[A3q]
 cases p e<;>rfl
def Z0(c:List En)(at':Int)(nm n:List UInt8):Bool:=Y9 nm (I6 (C8 at' n c)).1.t.fs
theorem A8b(c:List En)(hc:c.length<=1048576)(hok:∀e∈c,e.ok)(d:D)(hd:B5 d (C4 c))(at':Int)(nm:List UInt8):Pure Tryz.prog A8P [.d d,.d (eI at'),.d (.str nm)] (.d (l9 ((I2 (F1 at' c)).filter (Z0 c at' nm)))):=by
 have hM:=A3n c hc d hd at'
 have hN:=λnm=>A6t c hc hok d hd at' nm
 have hO:=λnm=>(A43 (A0r (at':=at') (nm:=nm) hok)).tok
 have hml:=A2z (F1 at' c)
 have hmc:=A2h at' c
 obtain⟨l,hl⟩:∃l,l=I2 (F1 at' c):=⟨_,rfl⟩
 rw[<- hl] at hM hml ⊢
 clear hl
 have hsd:B5 (l9 l) (D9 l):=X5 λe=>w8.1 e
 have h1:=Z3 l
 have hm:=A1r l
 have hg0:=λi e=>@A4d l i e
 obtain⟨nd,hnd⟩:∃n,n=l9 l:=⟨_,rfl⟩
 rw[<- hnd] at hM hsd
 obtain⟨ss,hss⟩:∃n,n=D9 l:=⟨_,rfl⟩
 rw[<- hss] at hsd h1 hm hg0
 clear hnd hss
 refine C2J.go A6 rfl ?_
 repeat' first|refine st ?_|((with_reducible first|apply A8|apply A7);(·exact hM))|(with_reducible first|apply A5|apply A4)<;>intro _
 refine s0 7 1 rfl rfl ?_
 refine I8 A6 C5B C4v (λ(i:Nat) (w:List (List UInt8))=>[.arr 1 (D9 w).length,.d (eI i)]) (λi w=>[.cells [.d (.str nm)],.arr (D9 w) 1 0 (D9 w).isEmpty]) (λi w=>i<=l.length/\w=(l.take i).filter (Z0 c at' nm)) (λi w=>l.length-i) 0 [] rfl rfl rfl rfl (λ_ _ _=>⟨rfl,rfl⟩) rfl ⟨by omega,rfl⟩ ?_
 repeat' first|refine st ?_|(with_reducible first|apply A5|apply A4)<;>intro _
 intro i A ⟨g1,g2⟩
 have hAl:(D9 A).length<=i:=by
  rw[Z3,g2]
  exact N7 (j4 ..) (by rw[N6];omega)
 have hAm:=A1r A
 cases hx:l[i]? with
 |some n=>
  have hlt:=(B2.1 hx).1
  have hg:ss[((i:Nat):Int).toNat]?=some [.str n]:=hg0 i n hx
  have hil:(i:Int)<ss.length:=by omega
  have hs:=B7u (p:=Z0 c at' nm) hx
  rw[<- g2] at hs
  have hN:=hN n
  have hO:=hO n
  unfold Z0 at hs
  have hap:D9 (A++[n])=D9 A++[[.str n]]:=by simp[D9]
  obtain⟨⟨y,k,b⟩,hy⟩:∃z,z=I6 (C8 at' n c):=⟨_,rfl⟩
  rw[<- hy] at hN hO hs
  dsimp only at hN hO hs
  have hN:Bi.Pure Tryz.prog A3w [.d d,.d (eI at'),.d (.str n)] (.tup [eT y.t.nm y.dc y.dk y.df y.dx,.d (eI k),.d (.bool b)]):=hN
  have hF:B4 Tryz.prog A91 [.d y.df,.clo A51 [0]] [.cells [.d (.str nm)],.arr (D9 A) 1 0 (D9 A).isEmpty,.cells [.d (.str y.t.nm),.d y.dc,.d y.dk,.d y.df,.d y.dx]] (λr os2=>r=.d (.bool (Y9 nm y.t.fs))/\os2=[.cells [.d (.str nm)],.arr (D9 A) 1 0 (D9 A).isEmpty,.cells [.d (.str y.t.nm),.d y.dc,.d y.dk,.d y.df,.d y.dx]]):=
   B4.frame (C0v y.t.fs hO.hfl y.df hO.df nm) [0] [.cells [.d (.str nm)],.arr (D9 A) 1 0 (D9 A).isEmpty,.cells [.d (.str y.t.nm),.d y.dc,.d y.dk,.d y.df,.d y.dx]] rfl (by decide)
   (λi o h=>by
    match i,h with
    |0,h=>cases h;rfl
    |i+1,h=>simp at h)
   (λa ha=>by simp at ha;rcases ha with rfl|rfl<;>simp[AV.bnd2,AV.bnd1])
   (λo ho=>by simp at ho;subst ho;simp[AO.bnd,AV.bnd1])
   (λr bs' h=>by obtain⟨rfl,rfl⟩:=h;exact⟨rfl,rfl⟩)
  clear g2 hy
  obtain⟨v,hv⟩:∃v,v=Y9 nm y.t.fs:=⟨_,rfl⟩
  rw[<- hv] at hF hs
  clear hv
  cases v with
  |true=>
   rw[if_pos rfl] at hs
   repeat' first|refine st ?_|((with_reducible first|apply A8|apply A7);(·exact hN))|((with_reducible first|apply I7|apply D8);(·exact hF);(try rintro _ _ ⟨rfl,rfl⟩))|((with_reducible apply J4);(·exact hF))|((with_reducible apply I5);refine st ?_;(with_reducible apply J2);(·exact rfl);refine st ?_;(with_reducible apply D8);(·exact hF);(try rintro _ _ ⟨rfl,rfl⟩))|(with_reducible first|apply A5|apply A4)<;>intro _
   exact⟨i+1,A++[n],by rw[hap];rfl,rfl,by rw[hap];first|rfl|(simp;done),by omega,by omega,hs.symm⟩
  |false=>
   rw[if_neg (by decide),Z6] at hs
   repeat' first|refine st ?_|((with_reducible first|apply A8|apply A7);(·exact hN))|((with_reducible first|apply I7|apply D8);(·exact hF);(try rintro _ _ ⟨rfl,rfl⟩))|((with_reducible apply J4);(·exact hF))|((with_reducible apply I5);refine st ?_;(with_reducible apply J2);(·exact rfl);refine st ?_;(with_reducible apply D8);(·exact hF);(try rintro _ _ ⟨rfl,rfl⟩))|(with_reducible first|apply A5|apply A4)<;>intro _
   exact⟨i+1,A,rfl,rfl,rfl,by omega,by omega,hs.symm⟩
 |none=>
  have hge:=D1.1 hx
  have hil:(ss.length:Int)<=i:=by omega
  rw[L0 hge] at g2
  rw[<- g2]
  repeat' first|refine st ?_|(with_reducible first|apply A5|apply A4)<;>intro _
  all_goals (unfold l9 C0;cases(D9 A).isEmpty<;>rfl)
def rfR(c:List En)(at':Int)(nm n:List UInt8):Bool:=Y9 nm (R3 (C8 at' n c)).1.t.fs
theorem D2C{nm:List UInt8}{l:List Fo}{i:Nat}{f:Fo}(h:l[i]?=some f):Y9 nm (l.take (i+1))=(Y9 nm (l.take i)||decide (f.tb=nm)):=by
 unfold Y9
 rw[P5,h,List.any_append]
 simp
theorem C1u(c:List En)(hc:c.length<=1048575)(hok:∀e∈c,e.ok)(d:D)(hd:B5 d (C4 c))(at':Int)(nm:List UInt8):Pure Tryz.prog B4T [.d d,.d (eI at'),.d (.str nm)] (.d (.sl (D9 ((I2 (F1 at' c)).filter (rfR c at' nm))))):=by
 have hM:=A8l c hc d hd at'
 have hN:=λnm=>A6y c (by omega) hok d hd at' nm
 have hO:=λnm=>(A9g (A0r (at':=at') (nm:=nm) hok)).tok
 have hml:=A2z (F1 at' c)
 have hmc:=A2h at' c
 obtain⟨l,hl⟩:∃l,l=I2 (F1 at' c):=⟨_,rfl⟩
 rw[<- hl] at hM hml ⊢
 clear hl
 have h1:=Z3 l
 have hm:=A1r l
 have hg0:=λi e=>@A4d l i e
 obtain⟨ss,hss⟩:∃n,n=D9 l:=⟨_,rfl⟩
 rw[<- hss] at hM h1 hm hg0
 clear hss
 refine C2z.go A6 rfl ?_
 repeat' first|refine st ?_|((with_reducible first|apply A8|apply A7);(·exact hM))|(with_reducible first|apply A5|apply A4)<;>intro _
 refine I8 A6 C5s C4m (λ(i:Nat) (w:List (List UInt8))=>[.arr 0 (D9 w).length,.d (eI i)]) (λi w=>[.arr (D9 w) 1 0 false]) (λi w=>i<=l.length/\w=(l.take i).filter (rfR c at' nm)) (λi w=>l.length-i) 0 [] rfl rfl rfl rfl (λ_ _ _=>⟨rfl,rfl⟩) rfl ⟨by omega,rfl⟩ ?_
 repeat' first|refine st ?_|(with_reducible first|apply A5|apply A4)<;>intro _
 intro i A ⟨g1,g2⟩
 have hAl:(D9 A).length<=i:=by
  rw[Z3,g2]
  exact N7 (j4 ..) (by rw[N6];omega)
 have hAm:=A1r A
 cases hx:l[i]? with
 |some n=>
  have hlt:=(B2.1 hx).1
  have hg:ss[((i:Nat):Int).toNat]?=some [.str n]:=hg0 i n hx
  have hil:(i:Int)<ss.length:=by omega
  have hs:=B7u (p:=rfR c at' nm) hx
  rw[<- g2] at hs
  have hN:=hN n
  have hO:=hO n
  unfold rfR at hs
  have hap:D9 (A++[n])=D9 A++[[.str n]]:=by simp[D9]
  obtain⟨⟨y,k,b⟩,hy⟩:∃z,z=R3 (C8 at' n c):=⟨_,rfl⟩
  rw[<- hy] at hN hO hs
  dsimp only at hN hO hs
  have hN:Bi.Pure Tryz.prog A4Z [.d d,.d (eI at'),.d (.str n)] (.tup [eT y.t.nm y.dc y.dk y.df y.dx,.d (eI k),.d (eI b)]):=hN
  clear g2 hy
  have f1:=c8 y.t.fs
  have f2:=y7 y.t.fs
  have hdf:=hO.df
  have hfl:=hO.hfl
  obtain⟨v,hv⟩:∃v,v=Y9 nm y.t.fs:=⟨_,rfl⟩
  rw[<- hv] at hs
  repeat' first|refine st ?_|((with_reducible first|apply A8|apply A7);(·exact hN))|(with_reducible first|apply A5|apply A4)<;>intro _
  refine I8 A6 C5r C4l (λ(k:Nat) (b:Bool)=>[.d (.bool b),.d (eI k)]) (λk b=>[.arr (D9 A) 1 0 false,.cells [.d (.str y.t.nm),.d y.dc,.d y.dk,.d y.df,.d y.dx]]) (λk b=>k<=y.t.fs.length/\b=Y9 nm (y.t.fs.take k)) (λk b=>y.t.fs.length-k) 0 false rfl rfl rfl rfl (λ_ _ _=>⟨rfl,rfl⟩) rfl ⟨by omega,rfl⟩ ?_
  repeat' first|refine st ?_|(with_reducible first|apply A5|apply A4)<;>intro _
  intro j bb ⟨g3,g4⟩
  cases hz:y.t.fs[j]? with
  |some f=>
   have hlt2:=(B2.1 hz).1
   have hg2:(F8 y.t.fs)[((j:Nat):Int).toNat]?=some [Fo.d f,.str f.tb]:=A0i hz
   have hs2:=D2C (nm:=nm) hz
   rw[<- g4] at hs2
   clear g4
   cases bb with
   |true=>
    rw[Bool.true_or] at hs2
    repeat' first|refine st ?_|(with_reducible first|apply A5|apply A4)<;>intro _
    exact⟨j+1,true,rfl,rfl,rfl,by omega,by omega,hs2.symm⟩
   |false=>
    rw[Bool.false_or] at hs2
    repeat' first|refine st ?_|(with_reducible first|apply A5|apply A4)<;>intro _
    exact⟨j+1,decide (f.tb=nm),rfl,rfl,rfl,by omega,by omega,hs2.symm⟩
  |none=>
   have hge2:=D1.1 hz
   rw[L0 hge2,<- hv] at g4
   subst g4
   cases bb with
   |true=>
    rw[if_pos rfl] at hs
    repeat' first|refine st ?_|(with_reducible first|apply A5|apply A4)<;>intro _
    exact⟨i+1,A++[n],by rw[hap];first|rfl|(simp;done),rfl,by rw[hap];first|rfl|(simp;done),by omega,by omega,hs.symm⟩
   |false=>
    rw[if_neg (by decide),Z6] at hs
    repeat' first|refine st ?_|(with_reducible first|apply A5|apply A4)<;>intro _
    exact⟨i+1,A,rfl,rfl,rfl,by omega,by omega,hs.symm⟩
 |none=>
  have hge:=D1.1 hx
  have hil:(ss.length:Int)<=i:=by omega
  rw[L0 hge] at g2
  rw[<- g2]
  repeat' first|refine st ?_|(with_reducible first|apply A5|apply A4)<;>intro _
  all_goals rfl
theorem B0X(l:List (List UInt8))(hl:l.length<=1048576)(d1 d2:D)(hd1:B5 d1 (D9 l))(hd2:B5 d2 (D9 l)):Pure Tryz.prog A6L [.d d1,.d d2] (.d (.bool true)):=by
 have h1:=Z3 l
 have hm:=A1r l
 have hg0:=λi e=>@A4d l i e
 obtain⟨es,hes⟩:∃es,es=D9 l:=⟨_,rfl⟩
 rw[<- hes] at h1 hm hg0 hd1 hd2
 clear hes
 have r0:(es.length:Int)=es.length:=rfl
 refine C1Y.go A6 rfl ?_
 repeat' first|refine st ?_|(with_reducible first|apply A5|apply A4)<;>intro _
 all_goals try (exfalso;rename_i hh;exact hh rfl)
 refine F3 A6 C50 C3U (λ(i:Nat)=>[.d (eI i)]) (λi=>[]) (λi=>i<=l.length) (λi=>l.length-i) 0 rfl rfl rfl rfl (λ_ _=>⟨rfl,rfl⟩) rfl (by omega) ?_
 repeat' first|refine st ?_|(with_reducible first|apply A5|apply A4)<;>intro _
 intro i g1
 cases hx:l[i]? with
 |some n=>
  have hlt:=(B2.1 hx).1
  have hg:es[((i:Nat):Int).toNat]?=some [.str n]:=hg0 i n hx
  have hil:(i:Int)<es.length:=by omega
  have r1:n=n:=rfl
  repeat' first|refine st ?_|(with_reducible first|apply A5|apply A4)<;>intro _
  all_goals first|exact⟨i+1,rfl,rfl,rfl,by omega,by omega⟩|(exfalso;rename_i hh;exact hh rfl)
 |none=>
  have hge:=D1.1 hx
  have hil:(es.length:Int)<=i:=by omega
  repeat' first|refine st ?_|(with_reducible first|apply A5|apply A4)<;>intro _
  all_goals rfl
theorem B72(at':Int):∀(s:List En),(s.Pairwise λa b=>a.tm<=b.tm)->∃t,s.filter (λe=>decide (e.tm<=at'))++t=s
 |[],_=>⟨[],rfl⟩
 |a::r,h=>by
  obtain⟨h1,h2⟩:=s9.1 h
  by_cases ha:a.tm<=at'
  ·obtain⟨t,ht⟩:=B72 at' r h2
   refine⟨t,?_⟩
   rw[A3q,if_pos (decide_eq_true ha),A25,ht]
  ·refine⟨a::r,?_⟩
   rw[List.filter_eq_nil_iff.2 λx hx=>?_]
   ·rfl
   ·intro hx2
    have hx2:=of_decide_eq_true hx2
    rcases I9.1 hx with rfl|hx
    ·exact ha hx2
    ·have:=h1 x hx;omega
theorem B9a:∀(l m:List Ch)(x:TD)(i:Nat),(TD.run x i (l++m)).2.2=0->(TD.run x i l).2.2=0
 |[],_,x,i,_=>rfl
 |c::r,m,x,i,h=>by
  rw[A25] at h
  unfold TD.run at h ⊢
  by_cases hq:E5 x.t c=0
  ·rw[if_pos hq] at h ⊢
   exact B9a r m _ _ h
  ·rw[if_neg hq] at h
   exact absurd h hq
theorem D0I{nm:List UInt8}{s t:List En}(h:A2J nm (s++t)):A2J nm s:=by
 cases s with
 |nil=>trivial
 |cons e r=>
  obtain⟨h1,h2,h3,h4,h5⟩:=h
  refine⟨h1,h2,h3,λx hx=>h4 x (List.mem_append_left _ hx),?_⟩
  have h5:(e.cr.runs ((r++t).map En.ch)).2.2=0:=h5
  rw[s7] at h5
  unfold TD.runs at h5 ⊢
  rw[if_pos h3] at h5 ⊢
  exact B9a _ _ _ _ h5
theorem D2Y{c:List En}(h:Q2 c)(at':Int)(nm:List UInt8):∃t,C8 at' nm c++t=C8 D7 nm c:=by
 have e:C8 at' nm c=(C8 D7 nm c).filter (λe=>decide (e.tm<=at')):=by
  unfold C8
  rw[List.filter_filter]
  refine List.filter_congr λx hx=>?_
  unfold Q1
  rw[decide_eq_true (by have:=(h.tm x hx).2;omega:x.tm<=D7),s5]
 rw[e]
 exact B72 at' _ (h.so.sublist List.filter_sublist)
theorem A9T{c:List En}(h:Q2 c)(at':Int)(nm:List UInt8):A2J nm (C8 at' nm c):=by
 obtain⟨t,ht⟩:=D2Y h at' nm
 exact D0I (t:=t) (by rw[ht];exact h.sel nm)
theorem C8D{c:List En}(h:Q2 c)(at':Int)(nm:List UInt8) :
  ((I6 (C8 at' nm c)).2.2=decide ((R3 (C8 at' nm c)).2.2=0))/\(I6 (C8 at' nm c)).2.1=(R3 (C8 at' nm c)).2.1/\nf (I6 (C8 at' nm c)).1.t=nf (R3 (C8 at' nm c)).1.t/\((R3 (C8 at' nm c)).2.2=0\/(R3 (C8 at' nm c)).2.2=11):=by
 have hs:=A9T h at' nm
 cases hq:C8 at' nm c with
 |nil=>exact⟨rfl,rfl,rfl,.inr rfl⟩
 |cons e r=>
  rw[hq] at hs
  rw[A33 hs,A5A hs]
  exact⟨rfl,rfl,(A48 _ _).2,.inl rfl⟩
theorem D2E{nm:List UInt8}{a b:Tb}(h:nf a=nf b):Y9 nm a.fs=Y9 nm b.fs:=by
 obtain⟨an,ac,ak,af,ax⟩:=a
 obtain⟨bn,bc,bk,bf,bx⟩:=b
 injection h with h1 h2 h3 h4
 have key:∀l:List Fo,Y9 nm l=(l.map Fo.tb).any λt=>decide (t=nm):=λl=>by unfold Y9;rw[List.any_map];rfl
 show Y9 nm af=Y9 nm bf
 rw[key,key]
 have e:∀l:List Fo,(l.map L7).map Fo.tb=l.map Fo.tb:=λl=>by rw[W3];rfl
 rw[<- e af,<- e bf]
 have h4:af.map L7=bf.map L7:=h4
 rw[h4]
theorem D2D{c:List En}(h:Q2 c)(at':Int)(nm:List UInt8):Z0 c at' nm=rfR c at' nm:=by
 funext n
 unfold Z0 rfR
 exact D2E (C8D h at' n).2.2.1
theorem B16(a b:List En)(ha:a.length<=1048577)(hlen:a.length=b.length)(hao:∀e∈a,e.ok)(hbo:∀e∈b,e.ok)(hab:∀(i:Nat) x y,a[i]?=some x->b[i]?=some y->x.tm=y.tm/\x.tb=y.tb/\x.ch=y.ch/\nf x.cr.t=nf y.cr.t)(d1 d2:D)(hd1:B5 d1 (C4 a))(hd2:B5 d2 (C4 b)) :
  Pure Tryz.prog A3v [.d d1,.d d2] (.d (.bool true)):=by
 have h1:=Q6 a
 have h2:=Q6 b
 have hm1:=U1 a
 have hm2:=U1 b
 have hg1:=λi e=>@k7 a i e
 have hg2:=λi e=>@k7 b i e
 obtain⟨es,hes⟩:∃es,es=C4 a:=⟨_,rfl⟩
 rw[<- hes] at h1 hm1 hg1 hd1
 clear hes
 obtain⟨fs,hfs⟩:∃es,es=C4 b:=⟨_,rfl⟩
 rw[<- hfs] at h2 hm2 hg2 hd2
 clear hfs
 have r0:(es.length:Int)=fs.length:=by omega
 refine C2A.go A6 rfl ?_
 repeat' first|refine st ?_|(with_reducible first|apply A5|apply A4)<;>intro _
 refine F3 A6 C5t C4n (λ(i:Nat)=>[.d (eI i)]) (λi=>[]) (λi=>i<=a.length) (λi=>a.length-i) 0 rfl rfl rfl rfl (λ_ _=>⟨rfl,rfl⟩) rfl (by omega) ?_
 repeat' first|refine st ?_|(with_reducible first|apply A5|apply A4)<;>intro _
 intro i g1
 cases hx:a[i]? with
 |some x=>
  have hlt:=(B2.1 hx).1
  obtain⟨y,hy⟩:∃y,b[i]?=some y:=⟨_,C9 (by omega)⟩
  have hg:es[((i:Nat):Int).toNat]?=some x.ds:=hg1 i x hx
  have hg':fs[((i:Nat):Int).toNat]?=some y.ds:=hg2 i y hy
  have hil:(i:Int)<es.length:=by omega
  have hil2:(i:Int)<fs.length:=by omega
  obtain⟨a1,a2,a3,a4⟩:=hab i x y hx hy
  have hS:=A4v _ _ _ _ _ _ _ _ _ _ (hao x (C2 hx)).cr.tok (hbo y (C2 hy)).cr.tok a4
  clear hx hy hab a4
  obtain⟨tm,tb,⟨⟨nm,cs,ks,fs',xs⟩,dc,dk,df,dx⟩,ch⟩:=x
  obtain⟨tm',tb',⟨⟨nm',cs',ks',fs2,xs'⟩,dc',dk',df',dx'⟩,ch'⟩:=y
  dsimp only at a1 a2 a3 hS
  subst a1;subst a2;subst a3
  obtain⟨k,cnm,to,⟨cn,ck,cl⟩,⟨vk,vn,vs⟩⟩:=ch
  have r1:tm=tm:=rfl
  have r2:tb=tb:=rfl
  have r3:k=k:=rfl
  have r4:cnm=cnm:=rfl
  have r5:to=to:=rfl
  have r6:cn=cn:=rfl
  have r7:ck=ck:=rfl
  have r8:cl=cl:=rfl
  have r9:vk=vk:=rfl
  have r10:vn=vn:=rfl
  have r11:vs=vs:=rfl
  repeat' first|refine st ?_|((with_reducible first|apply A8|apply A7);(·exact hS))|(with_reducible first|apply A5|apply A4)<;>intro _
  all_goals first|exact⟨i+1,rfl,rfl,rfl,by omega,by omega⟩|(exfalso;simp_all;done)
 |none=>
  have hge:=D1.1 hx
  have hil:(es.length:Int)<=i:=by omega
  repeat' first|refine st ?_|(with_reducible first|apply A5|apply A4)<;>intro _
  all_goals rfl
def En.cpR(e:En):En:=⟨e.tm,e.tb,e.cr.cpR,e.ch⟩
theorem En.cpR_ok{e:En}(h:e.ok):e.cpR.ok:=⟨TD.cpR_ok h.cr,h.ch,h.tb⟩
theorem B17(e:En)(he:e.ok):Pure Tryz.prog B4V [e.av] e.cpR.av:=by
 have hC:=A6x e.cr he.cr
 unfold En.cpR
 obtain⟨y,hy⟩:∃y,y=e.cr.cpR:=⟨_,rfl⟩
 rw[<- hy] at hC ⊢
 clear hy
 obtain⟨tm,tb,⟨⟨nm,cs,ks,fs,xs⟩,dc,dk,df,dx⟩,⟨k,cnm,to,⟨cn,ck,cl⟩,⟨vk,vn,vs⟩⟩⟩:=e
 obtain⟨⟨nm',cs',ks',fs',xs'⟩,dc',dk',df',dx'⟩:=y
 refine C2C.go A6 rfl ?_
 repeat' first|refine st ?_|((with_reducible first|apply A8|apply A7);(·exact hC))|(with_reducible first|apply A5|apply A4)<;>intro _
 all_goals rfl
theorem B19(c:List En)(hc:c.length<=1048575)(hok:∀e∈c,e.ok)(d:D)(hd:B5 d (C4 c))(e:En)(he:e.ok) :
  Pure Tryz.prog B4Z [.d d,e.av] (.tup [if O6 c e=0 then .d (.sl (C4 ((c++[e]).map En.cpR))) else .d .nil,.d (eI (O6 c e))]):=by
 have hE:=A8k c hc hok d hd e he
 have hK:=B17 e he
 have h1:=Q6 c
 have hm:=U1 c
 have hg0:=λi e=>@k7 c i e
 obtain⟨q,hq⟩:∃q,q=O6 c e:=⟨_,rfl⟩
 rw[<- hq] at hE ⊢
 clear hq
 obtain⟨R,hR⟩:∃R,R=C4 ((c++[e]).map En.cpR):=⟨_,rfl⟩
 rw[<- hR]
 have hR2:R=C4 (c.map En.cpR)++[e.cpR.ds]:=by rw[hR];simp[C4]
 clear hR
 obtain⟨es,hes⟩:∃es,es=C4 c:=⟨_,rfl⟩
 rw[<- hes] at h1 hm hg0 hd
 clear hes
 obtain⟨z,hz⟩:∃z,z=e.cpR:=⟨_,rfl⟩
 rw[<- hz] at hK hR2
 clear hz he
 obtain⟨tm,tb,⟨⟨nm,cs,ks,fs,xs⟩,dc,dk,df,dx⟩,⟨k,cnm,to,⟨cn,ck,cl⟩,⟨vk,vn,vs⟩⟩⟩:=e
 obtain⟨ztm,ztb,⟨⟨znm,zcs,zks,zfs,zxs⟩,zdc,zdk,zdf,zdx⟩,⟨zk,zcnm,zto,⟨zcn,zck,zcl⟩,⟨zvk,zvn,zvs⟩⟩⟩:=z
 by_cases q1:q=0
 rotate_left
 ·rw[if_neg q1]
  refine B1q.go A6 rfl ?_
  repeat' first|refine st ?_|((with_reducible first|apply A8|apply A7);(·exact hE))|(with_reducible first|apply A5|apply A4)<;>intro _
  all_goals rfl
 subst q1
 rw[if_pos rfl]
 refine B1q.go A6 rfl ?_
 repeat' first|refine st ?_|((with_reducible first|apply A8|apply A7);(·exact hE))|(with_reducible first|apply A5|apply A4)<;>intro _
 refine I8 A6 C5y C4s (λ(i:Nat) (w:List (List D))=>[.arr 1 w.length,.d (eI i)]) (λi w=>[.cells [.d (eI tm),.d (.str tb),.d (.str nm),.d dc,.d dk,.d df,.d dx,.d (eI k),.d (.str cnm),.d (.str to),.d (.str cn),.d (eI ck),.d (.bool cl),.d (eI vk),.d (eI vn),.d (.str vs)],.arr w 16 0 false]) (λi w=>i<=c.length/\w=C4 ((c.take i).map En.cpR)) (λi w=>c.length-i) 0 [] rfl rfl rfl rfl (λ_ _ _=>⟨rfl,rfl⟩) rfl ⟨by omega,rfl⟩ ?_
 repeat' first|refine st ?_|(with_reducible first|apply A5|apply A4)<;>intro _
 intro i A ⟨g1,g2⟩
 have hAl:A.length<=i:=by
  rw[g2,Q6,D0,N6];omega
 have hAm:∀x∈A,x.length=16:=by rw[g2];exact U1 _
 have hbd:(A.length+1)*240<=140737488355328:=by omega
 cases hx:c[i]? with
 |some x=>
  have hlt:=(B2.1 hx).1
  have hg:es[((i:Nat):Int).toNat]?=some x.ds:=hg0 i x hx
  have hil:(i:Int)<es.length:=by omega
  have hX:=B17 x (hok x (C2 hx))
  have hs:C4 ((c.take (i+1)).map En.cpR)=A++[x.cpR.ds]:=by
   rw[g2,P5,hx,s7];simp[C4]
  clear g2
  obtain⟨z,hz⟩:∃z,z=x.cpR:=⟨_,rfl⟩
  rw[<- hz] at hX hs
  clear hz hx
  obtain⟨xtm,xtb,⟨⟨xnm,xcs,xks,xfs,xxs⟩,xdc,xdk,xdf,xdx⟩,⟨xk,xcnm,xto,⟨xcn,xck,xcl⟩,⟨xvk,xvn,xvs⟩⟩⟩:=x
  obtain⟨wtm,wtb,⟨⟨wnm,wcs,wks,wfs,wxs⟩,wdc,wdk,wdf,wdx⟩,⟨wk,wcnm,wto,⟨wcn,wck,wcl⟩,⟨wvk,wvn,wvs⟩⟩⟩:=z
  repeat' first|refine st ?_|((with_reducible first|apply A8|apply A7);(·exact hX))|(with_reducible first|apply A5|apply A4)<;>intro _
  refine⟨i+1,_,?_,rfl,rfl,by omega,by omega,hs.symm⟩
  simp
 |none=>
  have hge:=D1.1 hx
  have hil:(es.length:Int)<=i:=by omega
  rw[L0 hge] at g2
  rw[<- g2] at hR2
  rw[hR2]
  clear g2 hR2
  repeat' first|refine st ?_|((with_reducible first|apply A8|apply A7);(·exact hK))|(with_reducible first|apply A5|apply A4)<;>intro _
  all_goals rfl
def Y7(k:Int):Ch:=⟨k,[],[],⟨[],0,false⟩,⟨0,0,[]⟩⟩
def V0(at':Int)(x:TD):En:=⟨at',x.t.nm,x,Y7 0⟩
def P7(at':Int)(nm:List UInt8)(ch:Ch):En:=⟨at',nm,K4,ch⟩
theorem B7L(k:Int):J1 (Y7 k):=⟨S9 _,S9 _,S9 _,S9 _⟩
theorem A5n{at':Int}{x:TD}(h:x.ok):(V0 at' x).ok:=⟨h,B7L 0,h.tok.hn⟩
theorem A52{at':Int}{nm:List UInt8}{ch:Ch}(h:J1 ch)(hn:nm.length<=1048576):(P7 at' nm ch).ok:=⟨w6,h,hn⟩
def wtR(c:List En)(e:En):D:=if O6 c e=0 then .sl (C4 ((c++[e]).map En.cpR)) else .nil
theorem B9G(c:List En)(e:En):(if O6 c e=0 then AV.d (.sl (C4 ((c++[e]).map En.cpR))) else .d .nil)=.d (wtR c e):=by
 unfold wtR
 split<;>rfl
theorem C1t(c:List En)(hc:c.length<=1048575)(hok:∀e∈c,e.ok)(d:D)(hd:B5 d (C4 c))(at':Int)(x:TD)(hx:x.ok) :
  Pure Tryz.prog B4R [.d d,.d (eI at'),x.av] (.tup [.d (wtR c (V0 at' x)),.d (eI (O6 c (V0 at' x)))]):=by
 have hW:=B19 c hc hok d hd (V0 at' x) (A5n hx)
 rw[B9G] at hW
 obtain⟨w,hw⟩:∃w,w=wtR c (V0 at' x):=⟨_,rfl⟩
 obtain⟨q,hq⟩:∃q,q=O6 c (V0 at' x):=⟨_,rfl⟩
 rw[<- hw,<- hq] at hW ⊢
 clear hw hq
 obtain⟨⟨nm,cs,ks,fs,xs⟩,dc,dk,df,dx⟩:=x
 refine C2x.go A6 rfl ?_
 repeat' first|refine st ?_|((with_reducible first|apply A8|apply A7);(·exact hW))|(with_reducible first|apply A5|apply A4)<;>intro _
 all_goals rfl
theorem C1s(c:List En)(hc:c.length<=1048575)(hok:∀e∈c,e.ok)(d:D)(hd:B5 d (C4 c))(e:En)(he:e.tb.length<=1048576) :
  Pure Tryz.prog B4P [.d d,e.av] (.d (eI (O6 c (P7 e.tm e.tb (Y7 (-1)))))):=by
 have hE:=A8k c hc hok d hd (P7 e.tm e.tb (Y7 (-1))) (A52 (B7L _) he)
 obtain⟨q,hq⟩:∃q,q=O6 c (P7 e.tm e.tb (Y7 (-1))):=⟨_,rfl⟩
 rw[<- hq] at hE ⊢
 clear hq
 obtain⟨tm,tb,⟨⟨nm,cs,ks,fs,xs⟩,dc,dk,df,dx⟩,⟨k,cnm,to,⟨cn,ck,cl⟩,⟨vk,vn,vs⟩⟩⟩:=e
 refine C2v.go A6 rfl ?_
 repeat' first|refine st ?_|((with_reducible first|apply A8|apply A7);(·exact hE))|(with_reducible first|apply A5|apply A4)<;>intro _
 all_goals rfl
theorem C1r(c:List En)(hc:c.length<=1048575)(hok:∀e∈c,e.ok)(d:D)(hd:B5 d (C4 c))(at':Int)(nm:List UInt8)(hn:nm.length<=1048576)(ch:Ch)(hch:J1 ch) :
  Pure Tryz.prog B4O [.d d,.d (eI at'),.d (.str nm),ch.av] (.tup [.d (if H9 ch then .nil else wtR c (P7 at' nm ch)),.d (eI (if H9 ch then O6 c (P7 at' nm (Y7 (-1))) else O6 c (P7 at' nm ch)))]):=by
 have hW:=B19 c hc hok d hd (P7 at' nm ch) (A52 hch hn)
 have hX:=C1s c hc hok d hd (P7 at' nm ch) hn
 have hC:=A6z (P7 at' nm ch)
 rw[B9G] at hW
 obtain⟨w,hw⟩:∃w,w=wtR c (P7 at' nm ch):=⟨_,rfl⟩
 obtain⟨q,hq⟩:∃q,q=O6 c (P7 at' nm ch):=⟨_,rfl⟩
 obtain⟨v,hv⟩:∃q,q=O6 c (P7 at' nm (Y7 (-1))):=⟨_,rfl⟩
 rw[show O6 c (P7 (P7 at' nm ch).tm (P7 at' nm ch).tb (Y7 (-1)))=v from hv.symm] at hX
 rw[<- hw,<- hq] at hW ⊢
 rw[<- hv]
 clear hw hq hv
 have hC:Bi.Pure Tryz.prog A8M [(P7 at' nm ch).av] (.d (.bool (H9 ch))):=hC
 obtain⟨b,hb⟩:∃b,b=H9 ch:=⟨_,rfl⟩
 rw[<- hb] at hC ⊢
 clear hb
 obtain⟨k,cnm,to,⟨cn,ck,cl⟩,⟨vk,vn,vs⟩⟩:=ch
 cases b with
 |true=>
  rw[if_pos rfl,if_pos rfl]
  refine B1o.go A6 rfl ?_
  repeat' first|refine st ?_|((with_reducible first|apply A8|apply A7);(·first|exact hC|exact hX))|(with_reducible first|apply A5|apply A4)<;>intro _
  all_goals rfl
 |false=>
  rw[if_neg (by decide),if_neg (by decide)]
  refine B1o.go A6 rfl ?_
  repeat' first|refine st ?_|((with_reducible first|apply A8|apply A7);(·first|exact hC|exact hW))|(with_reducible first|apply A5|apply A4)<;>intro _
  all_goals rfl
theorem C0s(l:List (List D))(hl:l.length<=1048577)(hm:∀e∈l,e.length=16)(d:D)(hd:B5 d l):B4 Tryz.prog B5r [.d d] [] (λr os=>r=.arr 0 l.length/\os=[.arr l 16 0 (A9 d)]):=by
 rcases hd with ⟨rfl,rfl⟩|rfl
 ·refine B4.own_nil 16 (by decide) ?_
  refine B1D.go A6 rfl ?_
  repeat' first|refine st ?_|((with_reducible apply D3);conv=>whnf)|(with_reducible first|apply A5|apply A4)<;>intro _
 ·refine B1D.goO A6 rfl ?_
  have h0:([]:List (List D)).length=0:=rfl
  have h00:(([]:List (List D))++l).length=l.length:=rfl
  have hb:(([]:List (List D)).length+l.length)*240<=140737488355328/\([]:List (List D)).length+l.length<=9223372036854775807:=by rw[h0];omega
  repeat' first|refine st ?_|((with_reducible apply D3);conv=>whnf)|(with_reducible first|apply A5|apply A4)<;>intro _
  all_goals (refine⟨rfl,?_⟩;cases l<;>rfl)
def En.cpP(e:En):En:=⟨e.tm,e.tb,e.cr.cp,e.ch⟩
theorem En.cpP_ok{e:En}(h:e.ok):e.cpP.ok:=⟨TD.cp_ok h.cr,h.ch,h.tb⟩
theorem B0S(c:List En)(hc:c.length<=1048575)(hok:∀e∈c,e.ok)(hf:∀e∈c,e.cr.t.fs.length<=4)(d:D)(hd:B5 d (C4 c))(e:En)(he:e.ok)(hef:e.cr.t.fs.length<=4) :
  Pure Tryz.prog A8S [.d d,e.av] (.d (.sl (C4 ((c++[e]).map En.cpP)))):=by
 have h1:=Q6 (c++[e])
 have hm:=U1 (c++[e])
 have hg0:=λi x=>@k7 (c++[e]) i x
 have hok':∀x∈c++[e],x.ok:=λx hx=>by
  rcases P0.1 hx with hx|hx
  ·exact hok x hx
  ·rw[j5.1 hx];exact he
 have hf':∀x∈c++[e],x.cr.t.fs.length<=4:=λx hx=>by
  rcases P0.1 hx with hx|hx
  ·exact hf x hx
  ·rw[j5.1 hx];exact hef
 have hK:=C0s (C4 c) (by rw[Q6];omega) (U1 c) d hd
 have hl0:=Q6 c
 have hm0:=U1 c
 have hs0:C4 (c++[e])=C4 c++[e.ds]:=by simp[C4]
 obtain⟨R,hR⟩:∃R,R=C4 ((c++[e]).map En.cpP):=⟨_,rfl⟩
 rw[<- hR]
 obtain⟨w,hw⟩:∃w,w=c++[e]:=⟨_,rfl⟩
 rw[<- hw] at h1 hm hg0 hR hok' hf' hs0
 have hwl:w.length=c.length+1:=by rw[hw];simp
 clear hok hf he hef hw
 obtain⟨es,hes⟩:∃es,es=C4 c:=⟨_,rfl⟩
 rw[<- hes] at hl0 hm0 hd hK hs0
 clear hes
 rw[hs0] at h1 hm hg0
 clear hs0
 obtain⟨tm,tb,⟨⟨nm,cs,ks,fs,xs⟩,dc,dk,df,dx⟩,⟨k,cnm,to,⟨cn,ck,cl⟩,⟨vk,vn,vs⟩⟩⟩:=e
 have hbd:(es.length+1)*240<=140737488355328:=by omega
 have h1:(es++[[eI tm,.str tb,.str nm,dc,dk,df,dx,eI k,.str cnm,.str to,.str cn,eI ck,.bool cl,eI vk,eI vn,.str vs]]).length=w.length:=h1
 have hm:∀x∈(es++[[eI tm,.str tb,.str nm,dc,dk,df,dx,eI k,.str cnm,.str to,.str cn,eI ck,.bool cl,eI vk,eI vn,.str vs]]),x.length=16:=hm
 have hg0:∀(i:Nat) (x:En),w[i]?=some x->(es++[[eI tm,.str tb,.str nm,dc,dk,df,dx,eI k,.str cnm,.str to,.str cn,eI ck,.bool cl,eI vk,eI vn,.str vs]])[i]?=some x.ds:=hg0
 show Bi.Pure Tryz.prog A8S [.d d,.agg [.d (eI tm),.d (.str tb),.d (.str nm),.d dc,.d dk,.d df,.d dx,.d (eI k),.d (.str cnm),.d (.str to),.d (.str cn),.d (eI ck),.d (.bool cl),.d (eI vk),.d (eI vn),.d (.str vs)]] (.d (.sl R))
 refine C2P.go A6 rfl ?_
 repeat' first|refine st ?_|((with_reducible apply D3);conv=>whnf)|((with_reducible apply V8);(·exact hK))|(with_reducible first|apply A5|apply A4)<;>intro _
 refine s0 5 16 rfl rfl ?_
 refine I8 A6 C5G C4A (λ(i:Nat) (A:List (List D))=>[.arr 2 A.length,.d (eI i)]) (λi A=>[.cells [.d (eI tm),.d (.str tb),.d (.str nm),.d dc,.d dk,.d df,.d dx,.d (eI k),.d (.str cnm),.d (.str to),.d (.str cn),.d (eI ck),.d (.bool cl),.d (eI vk),.d (eI vn),.d (.str vs)],.arr (es++[[eI tm,.str tb,.str nm,dc,dk,df,dx,eI k,.str cnm,.str to,.str cn,eI ck,.bool cl,eI vk,eI vn,.str vs]]) 16 0 false,.arr A 16 0 A.isEmpty]) (λi A=>i<=w.length/\A=C4 ((w.take i).map En.cpP)) (λi A=>w.length-i) 0 [] rfl rfl rfl rfl (λ_ _ _=>⟨rfl,rfl⟩) rfl ⟨by omega,rfl⟩ ?_
 repeat' first|refine st ?_|((with_reducible apply D3);conv=>whnf)|(with_reducible first|apply A5|apply A4)<;>intro _
 intro i A ⟨g1,g2⟩
 have hAl:A.length<=i:=by
  rw[g2,Q6,D0,N6];omega
 have hAm:∀x∈A,x.length=16:=by rw[g2];exact U1 _
 have hbd:(A.length+1)*240<=140737488355328:=by omega
 cases hx:w[i]? with
 |some x=>
  have hlt:=(B2.1 hx).1
  have hg:(es++[[eI tm,.str tb,.str nm,dc,dk,df,dx,eI k,.str cnm,.str to,.str cn,eI ck,.bool cl,eI vk,eI vn,.str vs]])[((i:Nat):Int).toNat]?=some x.ds:=hg0 i x hx
  have hil:(i:Int)<(es++[[eI tm,.str tb,.str nm,dc,dk,df,dx,eI k,.str cnm,.str to,.str cn,eI ck,.bool cl,eI vk,eI vn,.str vs]]).length:=by omega
  have hmx:=C2 hx
  have hX:=B0T x.cr (hok' x hmx).cr (hf' x hmx)
  have hs:C4 ((w.take (i+1)).map En.cpP)=A++[x.cpP.ds]:=by
   rw[g2,P5,hx,s7];simp[C4]
  unfold En.cpP at hs
  clear g2
  obtain⟨z,hz⟩:∃z,z=x.cr.cp:=⟨_,rfl⟩
  rw[<- hz] at hX hs
  clear hz hx hg0 hm hR
  obtain⟨xtm,xtb,⟨⟨xnm,xcs,xks,xfs,xxs⟩,xdc,xdk,xdf,xdx⟩,⟨xk,xcnm,xto,⟨xcn,xck,xcl⟩,⟨xvk,xvn,xvs⟩⟩⟩:=x
  obtain⟨⟨znm,zcs,zks,zfs,zxs⟩,zdc,zdk,zdf,zdx⟩:=z
  have hs:C4 ((w.take (i+1)).map En.cpP)=A++[[eI xtm,D.str xtb,.str znm,zdc,zdk,zdf,zdx,eI xk,.str xcnm,.str xto,.str xcn,eI xck,.bool xcl,eI xvk,eI xvn,.str xvs]]:=hs
  have hg:(es++[[eI tm,.str tb,.str nm,dc,dk,df,dx,eI k,.str cnm,.str to,.str cn,eI ck,.bool cl,eI vk,eI vn,.str vs]])[((i:Nat):Int).toNat]?=some [eI xtm,.str xtb,.str xnm,xdc,xdk,xdf,xdx,eI xk,.str xcnm,.str xto,.str xcn,eI xck,.bool xcl,eI xvk,eI xvn,.str xvs]:=hg
  have hX:Bi.Pure Tryz.prog A1I [eT xnm xdc xdk xdf xdx] (eT znm zdc zdk zdf zdx):=hX
  have hne:(A++[[eI xtm,D.str xtb,.str znm,zdc,zdk,zdf,zdx,eI xk,.str xcnm,.str xto,.str xcn,eI xck,.bool xcl,eI xvk,eI xvn,.str xvs]]).isEmpty=false:=by simp
  repeat' first|refine st ?_|((with_reducible apply D3);conv=>whnf)|((with_reducible first|apply A8|apply A7);(·exact hX))|(with_reducible first|apply A5|apply A4)<;>intro _
  refine⟨i+1,_,?_,rfl,?_,by omega,by omega,hs.symm⟩
  ·simp
  ·rw[hne];rfl
 |none=>
  have hge:=D1.1 hx
  have hil:((es++[[eI tm,.str tb,.str nm,dc,dk,df,dx,eI k,.str cnm,.str to,.str cn,eI ck,.bool cl,eI vk,eI vn,.str vs]]).length:Int)<=i:=by omega
  rw[L0 hge,<- hR] at g2
  have hne:A.isEmpty=false:=by
   have:A.length=w.length:=by rw[g2,hR,Q6,D0]
   cases A with
   |nil=>simp at this;omega
   |cons a r=>rfl
  clear hR hg0 hx
  subst g2
  repeat' first|refine st ?_|((with_reducible apply D3);conv=>whnf)|(with_reducible first|apply A5|apply A4)<;>intro _
  all_goals first|(exfalso;omega)|(rw[hne];rfl)
def nT(x:TD):TD:=⟨nf x.t,.nil,.nil,.nil,.nil⟩
def nE(e:En):En:=⟨e.tm,e.tb,nT e.cr,e.ch⟩
theorem D1n(e:En):nE e.cpP=nE e:=by
 unfold nE nT En.cpP
 dsimp only
 rw[A44]
theorem D1g(l:List En):(l.map En.cpP).map nE=l.map nE:=by
 rw[W3];exact S8 λe _=>D1n e
theorem A9H{p:En->Bool}(hp:∀e,p (nE e)=p e)(l:List En):(l.map nE).filter p=(l.filter p).map nE:=by
 rw[List.filter_map]
 congr 1
 exact List.filter_congr λe _=>hp e
theorem B9f(at':Int)(nm:List UInt8)(c:List En):C8 at' nm (c.map nE)=(C8 at' nm c).map nE:=A9H (λ_=>rfl) c
theorem C9w(at':Int)(c:List En):F1 at' (c.map nE)=F1 at' c:=by
 unfold F1
 rw[A9H (λ_=>rfl),A9H (λ_=>rfl),W3]
 rfl
theorem B0v(c:List En)(t:Int):S2 (c.map nE) t=S2 c t:=by
 unfold S2
 rw[D0,G4]
 cases c[c.length-1]?<;>rfl
theorem D2S{x y:TD}(h:nf x.t=nf y.t)(l:List Ch):(x.runs l).2=(y.runs l).2/\nf (x.runs l).1.t=nf (y.runs l).1.t:=by
 unfold TD.runs
 have ht:J0 x.t=J0 y.t:=by rw[<- A2B,h,A2B]
 rw[ht]
 by_cases h0:J0 y.t=0
 ·rw[if_pos h0,if_pos h0]
  obtain⟨h1,h2,h3⟩:=B97 l x.cp y.cp 0 0 (by rw[A44,A44,h])
  exact⟨Prod.ext (by omega) h1,h3⟩
 ·rw[if_neg h0,if_neg h0];exact⟨rfl,rfl⟩
theorem B8d(s:List En):(I6 (s.map nE)).2=(I6 s).2/\nf (I6 (s.map nE)).1.t=nf (I6 s).1.t:=by
 cases s with
 |nil=>exact⟨rfl,rfl⟩
 |cons e r=>
  have hb:u6 ((e::r).map nE)=u6 (e::r):=rfl
  have hc:Q7 ((e::r).map nE)=Q7 (e::r):=by
   unfold Q7
   rw[hb]
   by_cases h:u6 (e::r)=true
   ·rw[if_pos h,if_pos h]
    show(r.map nE).map En.ch=r.map En.ch
    rw[W3];rfl
   ·rw[if_neg h,if_neg h]
  have ht:nf (u7 ((e::r).map nE)).t=nf (u7 (e::r)).t:=by
   show nf (if H9 e.ch then nT e.cr else K4).t=nf (if H9 e.ch then e.cr else K4).t
   cases H9 e.ch
   ·rfl
   ·exact B8g _
  obtain⟨k1,k2⟩:=D2S ht (Q7 (e::r))
  unfold I6
  rw[hb,hc]
  by_cases h:u6 (e::r)=true
  ·rw[if_pos h,if_pos h]
   dsimp only
   rw[k1]
   exact⟨rfl,k2⟩
  ·rw[if_neg h,if_neg h];exact⟨rfl,rfl⟩
theorem D3R(t:Tb):W0 (nf t)=W0 t:=by
 have k:∀{α β:Type} (f:α->β) (l:List α),(l.map f).isEmpty=l.isEmpty:=λf l=>by cases l<;>rfl
 unfold W0 nf
 dsimp only
 rw[k,k]
theorem D2l(x:TD)(c:List En)(nm:List UInt8):(Y2 (nT x) (c.map nE) nm).2=(Y2 x c nm).2/\(Y2 (nT x) (c.map nE) nm).1.t.cs=(Y2 x c nm).1.t.cs/\(Y2 (nT x) (c.map nE) nm).1.t.ks=(Y2 x c nm).1.t.ks:=by
 unfold Y2
 by_cases hn:nm=x.t.nm
 ·rw[if_pos hn,if_pos (show nm=(nT x).t.nm from hn)];exact⟨rfl,rfl,rfl⟩
 ·rw[if_neg hn,if_neg (show ¬nm=(nT x).t.nm from hn),B9f]
  obtain⟨h1,h2⟩:=B8d (C8 D7 nm c)
  obtain⟨_,b2,b3⟩:=B8h h2
  exact⟨by rw[h1],b2,b3⟩
theorem B7q(x:TD)(c:List En):∀l:List Fo,A1g (nT x) (c.map nE) (l.map L7)=A1g x c l
 |[]=>rfl
 |f::r=>by
  obtain⟨h1,h2,h3⟩:=D2l x c f.tb
  have e:z6 (nT x) (c.map nE) (L7 f)=z6 x c f:=by
   unfold z6
   rw[show(L7 f).tb=f.tb from rfl,h1,h2,h3]
   rfl
  show(if z6 (nT x) (c.map nE) (L7 f)=0 then A1g (nT x) (c.map nE) (r.map L7) else z6 (nT x) (c.map nE) (L7 f))=_
  rw[e,B7q x c r]
  rfl
theorem C9A(c:List En)(at':Int)(x:TD):S1 (c.map nE) at' (nT x)=S1 c at' x:=by
 unfold S1
 rw[B0v,show J0 (nT x).t=J0 x.t from A2B x.t,C9w,show(nT x).t.nm=x.t.nm from rfl,show(nT x).t.fs=x.t.fs.map L7 from rfl,B7q]
theorem C8s(c:List En)(at':Int)(nm:List UInt8)(ch:Ch):R8 (c.map nE) at' nm ch=R8 c at' nm ch:=by
 unfold R8
 rw[B0v,B9f]
 obtain⟨h1,h2⟩:=B8d (C8 D7 nm c)
 rw[h1,show E5 (I6 ((C8 D7 nm c).map nE)).1.t ch=E5 (I6 (C8 D7 nm c)).1.t ch by rw[<- A2o,h2,A2o]]
theorem D04(c:List En)(e:En):F9 (c.map nE) (nE e)=F9 c e:=by
 unfold F9
 show(if S2 (c.map nE) e.tm=0 then (if H9 e.ch=false then (if W0 (nf e.cr.t)=false then 8 else R8 (c.map nE) e.tm e.tb e.ch) else (if e.tb=e.cr.t.nm then S1 (c.map nE) e.tm (nT e.cr) else 8)) else S2 (c.map nE) e.tm)=_
 rw[B0v,D3R,C8s,C9A]
theorem A9r:∀(l p:List En),K7 F9 (p.map nE) (l.map nE)=K7 F9 p l
 |[],p=>rfl
 |e::r,p=>by
  show(if F9 (p.map nE) (nE e)=0 then K7 F9 (p.map nE++[nE e]) (r.map nE) else F9 (p.map nE) (nE e))=_
  rw[D04,show p.map nE++[nE e]=(p++[e]).map nE by simp,A9r r]
  rfl
theorem C9e{a b:List En}(h:a.map nE=b.map nE):K7 F9 [] a=K7 F9 [] b:=by
 have h1:=A9r a []
 have h2:=A9r b []
 rw[h] at h1
 exact h1.symm.trans h2
theorem B6n:∀(l p:List En)(e:En),K7 F9 p (l++[e])=if K7 F9 p l=0 then F9 (p++l) e else K7 F9 p l
 |[],p,e=>by
  show(if F9 p e=0 then 0 else F9 p e)=if (0:Int)=0 then F9 (p++[]) e else 0
  rw[if_pos rfl,Z6]
  split
  ·rename_i h;exact h.symm
  ·rfl
 |a::r,p,e=>by
  show(if F9 p a=0 then K7 F9 (p++[a]) (r++[e]) else F9 p a)=if (if F9 p a=0 then K7 F9 (p++[a]) r else F9 p a)=0 then _ else (if F9 p a=0 then K7 F9 (p++[a]) r else F9 p a)
  by_cases h:F9 p a=0
  ·rw[if_pos h,if_pos h,B6n r (p++[a]) e,List.append_assoc];rfl
  ·rw[if_neg h,if_neg h,if_neg h]
theorem B6m:∀(l m p:List En),K7 F9 p (l++m)=0->K7 F9 p l=0
 |[],_,_,_=>rfl
 |a::r,m,p,h=>by
  have h:(if F9 p a=0 then K7 F9 (p++[a]) (r++m) else F9 p a)=0:=h
  show(if F9 p a=0 then K7 F9 (p++[a]) r else F9 p a)=0
  by_cases g:F9 p a=0
  ·rw[if_pos g] at h ⊢
   exact B6m r m _ h
  ·rw[if_neg g] at h;exact absurd h g
theorem B6J{c:List En}{e:En}(h:F9 c e=0):e.cr.t.fs.length<=4:=by
 unfold F9 at h
 by_cases h0:S2 c e.tm=0
 rotate_left
 ·rw[if_neg h0] at h;exact absurd h h0
 rw[if_pos h0] at h
 cases hb:H9 e.ch with
 |false=>
  rw[hb,if_pos rfl] at h
  cases hz:W0 e.cr.t with
  |false=>rw[hz,if_pos rfl] at h;exact absurd h (by decide)
  |true=>
   unfold W0 at hz
   simp only[O9,w8] at hz
   rw[hz.2.2.2.1];decide
 |true=>
  rw[hb,if_neg (by decide)] at h
  by_cases hn:e.tb=e.cr.t.nm
  ·rw[if_pos hn] at h
   unfold S1 at h
   rw[if_pos h0] at h
   by_cases ht:J0 e.cr.t=0
   ·exact(A0t.1 ht).fl
   ·rw[if_neg ht] at h;exact absurd h ht
  ·rw[if_neg hn] at h;exact absurd h (by decide)
theorem A9q:∀(l p:List En),K7 F9 p l=0->∀e∈l,e.cr.t.fs.length<=4
 |[],_,_,e,he=>absurd he (by simp)
 |a::r,p,h,e,he=>by
  have h:(if F9 p a=0 then K7 F9 (p++[a]) r else F9 p a)=0:=h
  by_cases g:F9 p a=0
  ·rw[if_pos g] at h
   rcases I9.1 he with rfl|he
   ·exact B6J g
   ·exact A9q r _ h e he
  ·rw[if_neg g] at h;exact absurd h g
theorem B6A{ch:Ch}(h:H9 ch=true):ch=Y7 0:=by
 unfold H9 at h
 simp only[O9,decide_eq_true_eq,Bool.not_eq_true'] at h
 obtain⟨k,cnm,to,⟨cn,ck,cl⟩,⟨vk,vn,vs⟩⟩:=ch
 dsimp only at h
 obtain⟨rfl,rfl,rfl,rfl,rfl,rfl,rfl,rfl,rfl⟩:=h
 rfl
theorem D0l(t:Tb):E5 t (Y7 0)=E5 t (Y7 (-1))/\E5 t (Y7 0)≠0:=by
 unfold E5 Y7
 dsimp only
 by_cases h:J0 t=0
 ·rw[if_neg (λg=>g h),if_pos (show ¬(1<=(0:Int)/\(0:Int)<=4) by decide),if_neg (λg=>g h),if_pos (show ¬(1<=(-1:Int)/\(-1:Int)<=4) by decide)]
  exact⟨rfl,by decide⟩
 ·rw[if_pos h,if_pos h];exact⟨rfl,h⟩
theorem B5Q(c:List En)(at':Int)(nm:List UInt8):R8 c at' nm (Y7 0)=R8 c at' nm (Y7 (-1))/\R8 c at' nm (Y7 0)≠0:=by
 unfold R8
 obtain⟨h1,h2⟩:=D0l (I6 (C8 D7 nm c)).1.t
 rw[<- h1]
 refine⟨rfl,?_⟩
 split
 ·assumption
 ·split
  ·decide
  ·split
   ·decide
   ·exact h2
theorem A9B(c:List En)(at':Int)(nm:List UInt8){ch:Ch}(h:H9 ch=false):F9 c (P7 at' nm ch)=R8 c at' nm ch:=by
 unfold F9 P7
 dsimp only
 rw[h,if_pos rfl,if_neg (show ¬W0 K4.t=false by decide)]
 split
 ·rfl
 ·rename_i g
  unfold R8
  rw[if_pos g]
theorem A7f(c:List En)(at':Int)(x:TD):F9 c (V0 at' x)=S1 c at' x:=by
 unfold F9 V0
 dsimp only
 rw[show H9 (Y7 0)=true from rfl,if_neg (show ¬(true=false) by decide),if_pos rfl]
 split
 ·rfl
 ·rename_i g
  unfold S1
  rw[if_neg g]
theorem C8t{c:List En}(h:Q2 c)(at':Int)(nm:List UInt8)(ch:Ch):R8 c at' nm ch=(if H9 ch then O6 c (P7 at' nm (Y7 (-1))) else O6 c (P7 at' nm ch)):=by
 cases hb:H9 ch with
 |true=>
  rw[if_pos rfl,<- A3M h,A9B _ _ _ rfl,B6A hb]
  exact(B5Q c at' nm).1
 |false=>
  rw[if_neg (by decide),<- A3M h,A9B _ _ _ hb]
def wtP(c:List En)(e:En)(q:Int):D:=if q=0 then .sl (C4 ((c++[e]).map En.cpP)) else .nil
theorem A6s(c:List En)(hc:c.length<=1048575)(hok:∀e∈c,e.ok)(hf:∀e∈c,e.cr.t.fs.length<=4)(d:D)(hd:B5 d (C4 c))(at':Int)(x:TD)(hx:x.ok) :
  Pure Tryz.prog A2a [.d d,.d (eI at'),x.av] (.tup [.d (wtP c (V0 at' x) (S1 c at' x)),.d (eI (S1 c at' x))]):=by
 have hK:=B0Q c (by omega) hok d hd at' x hx
 by_cases h0:S1 c at' x=0
 ·have hW:=B0S c hc hok hf d hd (V0 at' x) (A5n hx) (B6J ((A7f c at' x).trans h0))
  unfold wtP
  rw[h0] at hK ⊢
  rw[if_pos rfl]
  obtain⟨w,hw⟩:∃w,w=C4 ((c++[V0 at' x]).map En.cpP):=⟨_,rfl⟩
  rw[<- hw] at hW ⊢
  clear hw h0
  obtain⟨⟨nm,cs,ks,fs,xs⟩,dc,dk,df,dx⟩:=x
  refine B1t.go A6 rfl ?_
  repeat' first|refine st ?_|((with_reducible first|apply A8|apply A7);(·first|exact hK|exact hW))|(with_reducible first|apply A5|apply A4)<;>intro _
  all_goals rfl
 ·unfold wtP
  rw[if_neg h0]
  obtain⟨q,hq⟩:∃q,q=S1 c at' x:=⟨_,rfl⟩
  rw[<- hq] at hK h0 ⊢
  clear hq
  obtain⟨⟨nm,cs,ks,fs,xs⟩,dc,dk,df,dx⟩:=x
  refine B1t.go A6 rfl ?_
  repeat' first|refine st ?_|((with_reducible first|apply A8|apply A7);(·exact hK))|(with_reducible first|apply A5|apply A4)<;>intro _
  all_goals rfl
theorem B0O(c:List En)(hc:c.length<=1048575)(hok:∀e∈c,e.ok)(hf:∀e∈c,e.cr.t.fs.length<=4)(d:D)(hd:B5 d (C4 c))(at':Int)(nm:List UInt8)(hn:nm.length<=1048576)(ch:Ch)(hch:J1 ch) :
  Pure Tryz.prog A6Q [.d d,.d (eI at'),.d (.str nm),ch.av] (.tup [.d (wtP c (P7 at' nm ch) (R8 c at' nm ch)),.d (eI (R8 c at' nm ch))]):=by
 have hK:=B0P c (by omega) hok d hd at' nm ch hch
 have hW:=B0S c hc hok hf d hd (P7 at' nm ch) (A52 hch hn) (show([]:List Fo).length<=4 by decide)
 unfold wtP
 obtain⟨w,hw⟩:∃w,w=C4 ((c++[P7 at' nm ch]).map En.cpP):=⟨_,rfl⟩
 rw[<- hw] at hW ⊢
 obtain⟨q,hq⟩:∃q,q=R8 c at' nm ch:=⟨_,rfl⟩
 rw[<- hq] at hK ⊢
 clear hq hw
 obtain⟨k,cnm,to,⟨cn,ck,cl⟩,⟨vk,vn,vs⟩⟩:=ch
 by_cases h0:q=0
 ·subst h0
  rw[if_pos rfl]
  refine B1r.go A6 rfl ?_
  repeat' first|refine st ?_|((with_reducible first|apply A8|apply A7);(·first|exact hK|exact hW))|(with_reducible first|apply A5|apply A4)<;>intro _
  all_goals rfl
 ·rw[if_neg h0]
  refine B1r.go A6 rfl ?_
  repeat' first|refine st ?_|((with_reducible first|apply A8|apply A7);(·exact hK))|(with_reducible first|apply A5|apply A4)<;>intro _
  all_goals rfl
theorem B0E{c:List En}{e:En}(h:∀x∈c,x.ok)(he:e.ok):∀x∈(c++[e]).map En.cpP,x.ok:=λx hx=>by
 obtain⟨y,hy,rfl⟩:=F2.1 hx
 rcases P0.1 hy with hy|hy
 ·exact En.cpP_ok (h y hy)
 ·rw[j5.1 hy];exact En.cpP_ok he
theorem B9E{c:List En}{e:En}(h:∀x∈c,x.cr.t.fs.length<=4)(he:e.cr.t.fs.length<=4):∀x∈(c++[e]).map En.cpP,x.cr.t.fs.length<=4:=λx hx=>by
 obtain⟨y,hy,rfl⟩:=F2.1 hx
 rcases P0.1 hy with hy|hy
 ·exact h y hy
 ·rw[j5.1 hy];exact he
def s6T:Tb:=⟨[116],[⟨[97],1,false⟩,⟨[98],1,false⟩],[0],[],[]⟩
def s6U:Tb:=⟨[117],[⟨[97],1,false⟩,⟨[98],1,false⟩],[0],[⟨false,[0,1],[116]⟩],[]⟩
def s6D:TD:=⟨s6T,.sl (B3 s6T.cs),.sl (A0 s6T.ks),.nil,.nil⟩
def s6V:TD:=⟨s6U,.sl (B3 s6U.cs),.sl (A0 s6U.ks),.sl (F8 s6U.fs),.nil⟩
def s6C:Ch:=⟨2,[98],[],⟨[],0,false⟩,⟨0,0,[]⟩⟩
theorem B0o:s6D.ok:=
 ⟨⟨by decide,by decide,by decide,by decide,by decide,λf hf=>by simp[s6D,s6T] at hf,by decide,λe he=>by simp[s6D,s6T] at he,L4,L4,A0S,A0S⟩,λe he=>by simp[s6D,s6T] at he⟩
theorem D2U:s6V.ok:=
 ⟨⟨by decide,by decide,by decide,by decide,by decide,λf hf=>by
  have hf:f=⟨false,[0,1],[116]⟩:=by simpa[s6V,s6U] using hf
  subst hf
  exact⟨by decide,by decide⟩,by decide,λe he=>by simp[s6V,s6U] at he,L4,L4,L4,A0S⟩,λe he=>by simp[s6V,s6U] at he⟩
theorem B9e:J1 s6C:=⟨by decide,by decide,by decide,by decide⟩
def c61:List En:=([]++[V0 10 s6D]).map En.cpP
def W8:List En:=(c61++[P7 20 [116] s6C]).map En.cpP
theorem e61:S1 [] 10 s6D=0:=by kernel_rfl
theorem e62:R8 c61 20 [116] s6C=0:=by kernel_rfl
theorem e63:(I6 (C8 9 [116] W8)).2=(0,false):=by kernel_rfl
theorem e64:(I6 (C8 10 [116] W8)).2=(0,true):=by kernel_rfl
theorem e65:(I6 (C8 20 [116] W8)).2=(1,true):=by kernel_rfl
theorem e66:S1 W8 30 s6V=13:=by kernel_rfl
theorem A4s:Pure Tryz.prog B4u [] (.d (.bool true)):=by
 have o0:∀e∈([]:List En),e.ok:=λe he=>absurd he (by simp)
 have f0:∀e∈([]:List En),e.cr.t.fs.length<=4:=λe he=>absurd he (by simp)
 have o1:∀e∈c61,e.ok:=B0E o0 (A5n B0o)
 have f1:∀e∈c61,e.cr.t.fs.length<=4:=B9E f0 (by decide)
 have o2:∀e∈W8,e.ok:=B0E o1 (A52 B9e (by decide))
 have f2:∀e∈W8,e.cr.t.fs.length<=4:=B9E f1 (by decide)
 have l1:c61.length<=1048575:=by decide
 have l2:W8.length<=1048575:=by decide
 have h1:=A6s [] (by decide) o0 f0 .nil A0S 10 s6D B0o
 have h2:=B0O c61 l1 o1 f1 (.sl (C4 c61)) L4 20 [116] (by decide) s6C B9e
 have h3:=A2H W8 (by omega) o2 (.sl (C4 W8)) L4 9 [116]
 have h4:=A2H W8 (by omega) o2 (.sl (C4 W8)) L4 10 [116]
 have h5:=A2H W8 (by omega) o2 (.sl (C4 W8)) L4 20 [116]
 have h6:=A6x s6D B0o
 have h7:=A6s W8 l2 o2 f2 (.sl (C4 W8)) L4 30 s6V D2U
 rw[e61] at h1
 rw[e62] at h2
 rw[e63] at h3
 rw[e64] at h4
 rw[e65] at h5
 rw[e66] at h7
 have h1:Bi.Pure Tryz.prog A2a [.d .nil,.d (eI 10),s6D.av] (.tup [.d (.sl (C4 c61)),.d (eI 0)]):=h1
 have h2:Bi.Pure Tryz.prog A6Q [.d (.sl (C4 c61)),.d (eI 20),.d (.str [116]),s6C.av] (.tup [.d (.sl (C4 W8)),.d (eI 0)]):=h2
 have h7:Bi.Pure Tryz.prog A2a [.d (.sl (C4 W8)),.d (eI 30),s6V.av] (.tup [.d .nil,.d (eI 13)]):=h7
 obtain⟨E1,q1⟩:∃E,E=C4 c61:=⟨_,rfl⟩
 obtain⟨E2,q2⟩:∃E,E=C4 W8:=⟨_,rfl⟩
 rw[<- q1] at h1 h2
 rw[<- q2] at h2 h3 h4 h5 h7
 clear q1 q2 o0 f0 o1 f1 o2 f2 l1 l2
 obtain⟨⟨⟨ynm,ycs,yks,yfs,yxs⟩,ydc,ydk,ydf,ydx⟩,hy⟩:∃y,y=(I6 (C8 10 [116] W8)).1:=⟨_,rfl⟩
 rw[<- hy] at h4
 obtain⟨⟨⟨znm,zcs,zks,zfs,zxs⟩,zdc,zdk,zdf,zdx⟩,hz⟩:∃y,y=(I6 (C8 20 [116] W8)).1:=⟨_,rfl⟩
 rw[<- hz] at h5
 clear hy hz
 refine C1X.go A6 rfl ?_
 repeat' first|refine st ?_|((with_reducible first|apply A8|apply A7);(·first|exact h1|exact h2|exact h3|exact h4|exact h5|exact h6|exact h7))|(with_reducible first|apply A5|apply A4)<;>intro _
 all_goals rfl
theorem C3N(c:List En)(hc:c.length<=1048575)(hok:∀e∈c,e.ok)(d:D)(hd:B5 d (C4 c)):Pure Tryz.prog B4p [.d d] (.d (.bool true)):=by
 have h1:=A4k c (by omega) hok d hd
 have h2:=A8j c hc hok d hd
 rw[A9t] at h1
 obtain⟨q,hq⟩:∃q,q=K7 O6 [] c:=⟨_,rfl⟩
 rw[<- hq] at h1 h2
 clear hq hd hok hc
 have hA:=A4s
 have r:q=q:=rfl
 refine C1W.go A6 rfl ?_
 repeat' first|refine st ?_|((with_reducible first|apply A8|apply A7);(·first|exact h1|exact h2|exact hA))|(with_reducible first|apply A5|apply A4)<;>intro _
 all_goals first|rfl|(exfalso;simp_all;done)
theorem A8m:Pure Tryz.prog A3v [.d .nil,.d .nil] (.d (.bool true)):=
 B16 [] [] (by decide) rfl (λe he=>absurd he (by simp)) (λe he=>absurd he (by simp)) (λi x y hx=>by simp at hx) .nil .nil A0S A0S
theorem B1c(c:List En)(hc:c.length<=1048575)(hok:∀e∈c,e.ok)(e:En)(he:e.ok):Pure Tryz.prog A3v [.d (.sl (C4 ((c++[e]).map En.cpP))),.d (.sl (C4 ((c++[e]).map En.cpR)))] (.d (.bool true)):=by
 have ho:∀x∈c++[e],x.ok:=λx hx=>by
  rcases P0.1 hx with hx|hx
  ·exact hok x hx
  ·rw[j5.1 hx];exact he
 refine B16 _ _ (by simp;omega) (by simp) (λx hx=>?_) (λx hx=>?_) (λi x y hx hy=>?_) _ _ L4 L4
 ·obtain⟨y,hy,rfl⟩:=F2.1 hx
  exact En.cpP_ok (ho y hy)
 ·obtain⟨y,hy,rfl⟩:=F2.1 hx
  exact En.cpR_ok (ho y hy)
 ·rw[G4] at hx hy
  cases hz:(c++[e])[i]? with
  |none=>rw[hz] at hx;cases hx
  |some z=>
   rw[hz] at hx hy
   cases hx;cases hy
   exact⟨rfl,rfl,rfl,(A44 z.cr).trans (B8f z.cr).symm⟩
theorem C1D(c:List En)(hi:Q2 c)(hc:c.length<=1048575)(hok:∀e∈c,e.ok)(at':Int)(x:TD)(hx:x.ok):Pure Tryz.prog A3v [.d (wtP c (V0 at' x) (S1 c at' x)),.d (wtR c (V0 at' x))] (.d (.bool true)):=by
 unfold wtP wtR
 rw[<- A3M hi,A7f]
 by_cases h:S1 c at' x=0
 ·rw[if_pos h,if_pos h]
  exact B1c c hc hok _ (A5n hx)
 ·rw[if_neg h,if_neg h]
  exact A8m
theorem C1C(c:List En)(hi:Q2 c)(hc:c.length<=1048575)(hok:∀e∈c,e.ok)(at':Int)(nm:List UInt8)(hn:nm.length<=1048576)(ch:Ch)(hch:J1 ch):Pure Tryz.prog A3v [.d (wtP c (P7 at' nm ch) (R8 c at' nm ch)),.d (if H9 ch then .nil else wtR c (P7 at' nm ch))] (.d (.bool true)):=by
 cases hb:H9 ch with
 |true=>
  rw[if_pos rfl]
  unfold wtP
  rw[if_neg (by rw[B6A hb];exact(B5Q c at' nm).2)]
  exact A8m
 |false=>
  rw[if_neg (by decide)]
  unfold wtP wtR
  rw[<- A3M hi,A9B c at' nm hb]
  by_cases h:R8 c at' nm ch=0
  ·rw[if_pos h,if_pos h]
   exact B1c c hc hok _ (A52 hch hn)
  ·rw[if_neg h,if_neg h]
   exact A8m
theorem C3O(c:List En)(hc:c.length<=1048575)(hok:∀e∈c,e.ok)(d:D)(hd:B5 d (C4 c))(at':Int)(x:TD)(hx:x.ok)(nm:List UInt8)(hn:nm.length<=1048576)(ch:Ch)(hch:J1 ch) :
  Pure Tryz.prog B4q [.d d,.d (eI at'),x.av,.d (.str nm),ch.av] (.d (.bool true)):=by
 have h1:=A8j c hc hok d hd
 have hA:=A4s
 by_cases h0:K7 O6 [] c=0
 ·rw[h0] at h1
  have hk:K7 F9 [] c=0:=by rw[A9t];exact h0
  have hi:Q2 c:=A7a c [] A7r hk
  have hf:=A9q c [] hk
  have h2:=A6s c hc hok hf d hd at' x hx
  have h3:=C1t c hc hok d hd at' x hx
  have h4:=B0O c hc hok hf d hd at' nm hn ch hch
  have h5:=C1r c hc hok d hd at' nm hn ch hch
  have s1:=C1D c hi hc hok at' x hx
  have s2:=C1C c hi hc hok at' nm hn ch hch
  rw[<- A3M hi,A7f] at h3
  rw[<- C8t hi] at h5
  obtain⟨a1,e1⟩:∃a,a=wtP c (V0 at' x) (S1 c at' x):=⟨_,rfl⟩
  obtain⟨a2,e2⟩:∃a,a=wtR c (V0 at' x):=⟨_,rfl⟩
  obtain⟨a3,e3⟩:∃a,a=wtP c (P7 at' nm ch) (R8 c at' nm ch):=⟨_,rfl⟩
  obtain⟨a4,e4⟩:∃a,a=(if H9 ch then D.nil else wtR c (P7 at' nm ch)):=⟨_,rfl⟩
  rw[<- e1] at h2 s1
  rw[<- e2] at h3 s1
  rw[<- e3] at h4 s2
  rw[<- e4] at h5 s2
  obtain⟨q1,e5⟩:∃a,a=S1 c at' x:=⟨_,rfl⟩
  obtain⟨q2,e6⟩:∃a,a=R8 c at' nm ch:=⟨_,rfl⟩
  rw[<- e5] at h2 h3
  rw[<- e6] at h4 h5
  clear e1 e2 e3 e4 e5 e6 hi hk h0 hf hd hok
  have r1:q1=q1:=rfl
  have r2:q2=q2:=rfl
  obtain⟨⟨xnm,cs,ks,fs,xs⟩,dc,dk,df,dx⟩:=x
  obtain⟨k,cnm,to,⟨cn,ck,cl⟩,⟨vk,vn,vs⟩⟩:=ch
  refine B1i.go A6 rfl ?_
  repeat' first|refine st ?_|((with_reducible first|apply A8|apply A7);(·first|exact h1|exact h2|exact h3|exact h4|exact h5|exact s1|exact s2|exact hA))|(with_reducible first|apply A5|apply A4)<;>intro _
  all_goals first|rfl|(exfalso;simp_all;done)
 ·obtain⟨q,hq⟩:∃q,q=K7 O6 [] c:=⟨_,rfl⟩
  rw[<- hq] at h1 h0
  clear hq hd hok
  obtain⟨⟨xnm,cs,ks,fs,xs⟩,dc,dk,df,dx⟩:=x
  obtain⟨k,cnm,to,⟨cn,ck,cl⟩,⟨vk,vn,vs⟩⟩:=ch
  refine B1i.go A6 rfl ?_
  repeat' first|refine st ?_|((with_reducible first|apply A8|apply A7);(·first|exact h1|exact hA))|(with_reducible first|apply A5|apply A4)<;>intro _
  all_goals rfl
end Go.Proofs
end
