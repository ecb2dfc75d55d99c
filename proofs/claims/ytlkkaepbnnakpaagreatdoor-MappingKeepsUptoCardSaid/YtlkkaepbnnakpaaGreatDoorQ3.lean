/- Texts of this claim, joined. No condition. -/
import Derived.Test.YtlkkaepbnnakpaaGreatDoorQ2
set_option linter.unusedSimpArgs false
set_option linter.unusedVariables false
set_option maxRecDepth 10000
set_option maxHeartbeats 4000000
section
namespace Go.Proofs
open Go.Bi
theorem C1I(n:List UInt8)(l:List Co)(hl:l.length<=1048576)(dc dk df dx:D)(hc:B8 dc (B2 l))(f:Fo)(hf:f.cs.length<=1048576)(hft:f.tb.length<=1048576):Pure Tryz.prog B5l [eT n dc dk df dx,.agg [.d f.d,.d (.str f.tb)]] (.d (eI (A0f l.length f))):=by
 refine C36.go A6 rfl ?_
 have h1:=B7 f.cs
 have hm:=D3 f.cs
 have hsd:=f.sld
 have hN:=A4J f.tb hft
 obtain⟨nl,cs,tb⟩:=f
 obtain⟨fd,hfd⟩:∃fd,fd=Fo.d ⟨nl,cs,tb⟩:=⟨_,rfl⟩
 rw[<- hfd] at hsd ⊢
 dsimp only at h1 hm hsd hN hf ⊢
 unfold A0f
 dsimp only
 cases hv:K7 tb with
 |false=>
  rw[hv] at hN
  rw[if_neg (by simp)]
  repeat' first|refine st ?_|((with_reducible first|apply A8|apply A7);(·exact hN))|(with_reducible first|apply A5|apply A4)<;>intro _
  all_goals rfl
 |true=>
 rw[hv] at hN
 rw[if_pos rfl]
 by_cases h0:cs.length=0
 ·rw[if_pos h0]
  repeat' first|refine st ?_|((with_reducible first|apply A8|apply A7);(·exact hN))|(with_reducible first|apply A5|apply A4)<;>intro _
  all_goals first|rfl|(exfalso;omega)
 rw[if_neg h0]
 obtain⟨q,hq⟩:∃q,q=m9 l.length [] cs:=⟨_,rfl⟩
 rw[<- hq]
 repeat' first|refine st ?_|((with_reducible first|apply A8|apply A7);(·exact hN))|(with_reducible first|apply A5|apply A4)<;>intro _
 refine F7 A6 C5N C4T (λ(i:Nat)=>[.d (eI i)]) (λi=>[.cells [.d (.str n),.d dc,.d dk,.d df,.d dx],.cells [.d fd,.d (.str tb)]]) (λi=>i<=cs.length/\q=m9 l.length (cs.take i) (cs.drop i)) (λi=>cs.length-i) 0 rfl rfl rfl rfl (λ_ _=>⟨rfl,rfl⟩) rfl ⟨by omega,hq⟩ ?_
 repeat' first|refine st ?_|(with_reducible first|apply A5|apply A4)<;>intro _
 intro i ⟨h4,h5⟩
 cases hx:cs[i]? with
 |some c=>
  have hlt:=(B3.1 hx).1
  have hg:=N4 hx
  have hE:=B1Y n l hl dc dk df dx hc c
  rw[B7u hx] at h5
  by_cases hin:0<=c/\c<l.length
  rotate_left
  ·rw[if_neg (λh=>hin h.1)] at h5
   rw[decide_eq_false hin] at hE
   rw[h5]
   repeat' first|refine st ?_|((with_reducible first|apply A8|apply A7);(·exact hE))|(with_reducible first|apply A5|apply A4)<;>intro _
   all_goals rfl
  rw[decide_eq_true hin] at hE
  repeat' first|refine st ?_|((with_reducible first|apply A8|apply A7);(·exact hE))|(with_reducible first|apply A5|apply A4)<;>intro _
  refine F7 A6 C5M C4S (λ(k:Nat)=>[.d (eI k)]) (λk=>[.cells [.d (.str n),.d dc,.d dk,.d df,.d dx],.cells [.d fd,.d (.str tb)]]) (λk=>k<=i/\¬c∈cs.take k) (λk=>i-k) 0 rfl rfl rfl rfl (λ_ _=>⟨rfl,rfl⟩) rfl ⟨by omega,by simp⟩ ?_
  repeat' first|refine st ?_|(with_reducible first|apply A5|apply A4)<;>intro _
  intro k ⟨h6,h7⟩
  by_cases hk:k<i
  ·obtain⟨c',hc'⟩:∃c',cs[k]?=some c':=⟨_,C8 (by omega)⟩
   have hg':=N4 hc'
   by_cases he:c'=c
   ·have hmem:c∈cs.take i:=by
     rw[<- he]
     exact C4 (i:=k) (by rw[A6S hk];exact hc')
    rw[if_neg (λh=>h.2 hmem)] at h5
    rw[h5]
    repeat' first|refine st ?_|(with_reducible first|apply A5|apply A4)<;>intro _
    all_goals rfl
   ·repeat' first|refine st ?_|(with_reducible first|apply A5|apply A4)<;>intro _
    refine⟨k+1,rfl,rfl,rfl,by omega,by omega,?_⟩
    rw[Q9,hc']
    intro hmem
    rcases R9.1 hmem with h|h
    ·exact h7 h
    ·simp at h;exact he h.symm
  ·have:k=i:=by omega
   subst this
   rw[if_pos ⟨hin,h7⟩] at h5
   repeat' first|refine st ?_|(with_reducible first|apply A5|apply A4)<;>intro _
   exact⟨k+1,rfl,rfl,rfl,by omega,by omega,h5⟩
 |none=>
  have hge:=D8.1 hx
  rw[Y2 hge] at h5
  rw[h5]
  repeat' first|refine st ?_|(with_reducible first|apply A5|apply A4)<;>intro _
  all_goals rfl
def X1(ns:List Int):List (D×AV):=ns.map λs=>(eI s,.d (eI 1))
theorem A0H(a b:Int):Y6 .i (eI a) (eI b)=some (decide (a=b)):=by
 show(if IntKind.i64=IntKind.i64 then some (a==b) else none)=_
 rw[if_pos rfl,A0t,A0T]
 simp
theorem A5W(s:Int)(kvs:List (D×AV))(h:∀p∈kvs,∃t,p.1=eI t):l6 .i (eI s) kvs:=by
 refine⟨λp hp=>?_,by rw[A0H];simp⟩
 obtain⟨t,ht⟩:=h p hp
 rw[ht,A0H];simp
theorem B0M(ns:List Int):∀p∈X1 ns,∃t,p.1=eI t:=by
 intro p hp
 obtain⟨s,_,rfl⟩:=F1.1 hp
 exact⟨s,rfl⟩
theorem B0H{s:Int}:∀{ns:List Int},s∈ns->J2 .i (eI s) (X1 ns)=some (.d (eI 1))
 |[],h=>by cases h
 |t::ns,h=>by
  unfold X1
  rw[Q3,J2,A0H]
  by_cases e:s=t
  ·rw[if_pos (by rw[decide_eq_true e])]
  ·rw[if_neg (by simp[e])]
   exact B0H (by rcases I9.1 h with h|h;exact absurd h e;exact h)
theorem B8C{s:Int}:∀{ns:List Int},¬s∈ns->J2 .i (eI s) (X1 ns)=none
 |[],h=>rfl
 |t::ns,h=>by
  unfold X1
  rw[Q3,J2,A0H]
  rw[if_neg (by simp;intro e;exact h (by simp[e]))]
  exact B8C λh'=>h (by simp[h'])
theorem B8F{s:Int}{v:AV}:∀{ns:List Int},¬s∈ns->K5 .i (eI s) v (X1 ns)=X1 ns++[(eI s,v)]
 |[],h=>rfl
 |t::ns,h=>by
  unfold X1
  rw[Q3,K5,A0H]
  rw[if_neg (by simp;intro e;exact h (by simp[e]))]
  have e:K5 .i (eI s) v (X1 ns)=X1 ns++[(eI s,v)]:=B8F (λh':s∈ns=>h (I2 _ h'))
  unfold X1 at e
  rw[e];rfl
theorem B8H{s:Int}{v:AV}:∀{kvs:List (D×AV)},(∀p∈kvs,∃t,p.1=eI t)->∀p∈K5 .i (eI s) v kvs,∃t,p.1=eI t
 |[],h,p,hp=>by simp[K5] at hp;subst hp;exact⟨s,rfl⟩
 |q::kvs,h,p,hp=>by
  unfold K5 at hp
  split at hp
  ·rcases I9.1 hp with rfl|hp
   ·exact⟨s,rfl⟩
   ·exact h p (by simp[hp])
  ·rcases I9.1 hp with rfl|hp
   ·exact h _ (by simp)
   ·exact B8H (λp hp=>h p (by simp[hp])) p hp
theorem B0I{s:Int}{v:AV}:∀{kvs:List (D×AV)},J2 .i (eI s) (K5 .i (eI s) v kvs)=some v
 |[]=>by simp[K5,J2,A0H]
 |q::kvs=>by
  unfold K5
  split
  ·simp[J2,A0H]
  ·rename_i h
   rw[J2,if_neg h]
   exact B0I
theorem D1t(ns:List Int)(s:Int):X1 ns++[(eI s,.d (eI 1))]=X1 (ns++[s]):=by simp[X1]
theorem D1u(ns:List Int)(m:Nat):(AO.map (X1 ns)).bndB m=true:=by
 refine M5.2 λp hp=>?_
 obtain⟨s,_,rfl⟩:=F1.1 hp
 rfl
def V5(n:Nat):List Fo->Int
 |[]=>0
 |f::r=>if A0f n f=0 then V5 n r else A0f n f
def A49(n:Nat)(l:List Fo):Int:=if l.length<=4 then V5 n l else 5
theorem B7W{n:Nat}{l:List Fo}{i:Nat}{f:Fo}(h:l[i]?=some f):V5 n (l.drop i)=if A0f n f=0 then V5 n (l.drop (i+1)) else A0f n f:=by
 obtain⟨hlt,he⟩:=B3.1 h
 rw[S5 hlt,he];rfl
theorem C2a(n:List UInt8)(l:List Co)(hl:l.length<=1048576)(fs:List Fo)(hfl:fs.length<=1048576)(hfc:∀f∈fs,f.cs.length<=1048576/\f.tb.length<=1048576)(dc dk df dx:D)(hc:B8 dc (B2 l))(hdf:B8 df (H6 fs)):Pure Tryz.prog A7d [eT n dc dk df dx] (.d (eI (A49 l.length fs))):=by
 refine C3R.go A6 rfl ?_
 have h1:=A1M fs
 have hm:=A36 fs
 unfold A49
 by_cases h0:fs.length<=4
 rotate_left
 ·rw[if_neg h0]
  repeat' first|refine st ?_|(with_reducible first|apply A5|apply A4)<;>intro _
  all_goals first|rfl|(exfalso;omega)
 rw[if_pos h0]
 obtain⟨q,hq⟩:∃q,q=V5 l.length fs:=⟨_,rfl⟩
 rw[<- hq]
 repeat' first|refine st ?_|(with_reducible first|apply A5|apply A4)<;>intro _
 refine F7 A6 C6h C5n (λ(i:Nat)=>[.d (eI i)]) (λi=>[.cells [.d (.str n),.d dc,.d dk,.d df,.d dx]]) (λi=>i<=fs.length/\q=V5 l.length (fs.drop i)) (λi=>fs.length-i) 0 rfl rfl rfl rfl (λ_ _=>⟨rfl,rfl⟩) rfl ⟨by omega,hq⟩ ?_
 repeat' first|refine st ?_|(with_reducible first|apply A5|apply A4)<;>intro _
 intro i ⟨h4,h5⟩
 cases hx:fs[i]? with
 |some f=>
  have hlt:=(B3.1 hx).1
  have hg:=A40 hx
  obtain⟨hf,hft⟩:=hfc f (C4 hx)
  have hN:=A4M f.tb hft
  rw[B7W hx] at h5
  have k1:=B7 f.cs
  have k2:=D3 f.cs
  have hsd:=f.sld
  obtain⟨nl,cs,tb⟩:=f
  have hg:(H6 fs)[i]?=some [Fo.d ⟨nl,cs,tb⟩,.str tb]:=hg
  obtain⟨fd,hfd⟩:∃fd,fd=Fo.d ⟨nl,cs,tb⟩:=⟨_,rfl⟩
  rw[<- hfd] at hsd hg
  dsimp only at k1 k2 hsd hN hf
  obtain⟨e,he⟩:∃e,e=A0f l.length ⟨nl,cs,tb⟩:=⟨_,rfl⟩
  rw[<- he] at h5
  unfold A0f at he
  dsimp only at he
  cases hv:K7 tb with
  |false=>
   rw[hv] at hN
   rw[hv,if_neg (by simp)] at he
   rw[he,if_neg (by decide)] at h5
   rw[h5]
   repeat' first|refine st ?_|((with_reducible first|apply A8|apply A7);(·exact hN))|(with_reducible first|apply A5|apply A4)<;>intro _
   all_goals rfl
  |true=>
   rw[hv] at hN
   rw[hv,if_pos rfl] at he
   have hcF:e=0->¬cs.length=0/\m9 l.length [] cs=0:=λh=>by
    by_cases g:cs.length=0
    ·rw[if_pos g] at he;omega
    ·rw[if_neg g] at he;exact⟨g,by omega⟩
   have hcF2:m9 l.length [] cs=25->e=25:=λh=>by
    by_cases g:cs.length=0
    ·rw[if_pos g] at he;exact he
    ·rw[if_neg g] at he;omega
   repeat' first|refine st ?_|((with_reducible first|apply A8|apply A7);(·exact hN))|(with_reducible first|apply A5|apply A4)<;>intro _
   refine F7 A6 C6g C5m (λ(k:Nat)=>[.d (eI k)]) (λk=>[.cells [.d (.str n),.d dc,.d dk,.d df,.d dx],.cells [.d fd,.d (.str tb)],.map (X1 (cs.take k))]) (λk=>k<=cs.length/\m9 l.length [] cs=m9 l.length (cs.take k) (cs.drop k)) (λk=>cs.length-k) 0 rfl rfl rfl rfl (λ_ _=>⟨rfl,(by rw[Z3,Z3,Z3,D1u];rfl)⟩) rfl ⟨by omega,rfl⟩ ?_
   repeat' first|refine st ?_|(with_reducible first|apply A5|apply A4)<;>intro _
   intro k ⟨h6,h7⟩
   cases hy:cs[k]? with
   |some c=>
    have hlt2:=(B3.1 hy).1
    have hg2:=N4 hy
    have hH:=B24 n l hl dc dk df dx hc c
    rw[B7u hy] at h7
    obtain⟨kvs,hkv⟩:∃kvs,kvs=X1 (cs.take k):=⟨_,rfl⟩
    have m1:l6 .i (eI c) kvs:=by rw[hkv];exact A5W _ _ (B0M _)
    have hts:cs.take k++[c]=cs.take (k+1):=by rw[Q9,hy];rfl
    by_cases hin:c∈cs.take k
    ·rw[if_neg (λh=>h.2 hin)] at h7
     have e25:=hcF2 h7
     rw[e25,if_neg (by decide)] at h5
     have e1:lkR false (zv false [.int .i64 0]) (J2 .i (eI c) kvs)=.d (eI 1):=by rw[hkv,B0H hin];rfl
     obtain⟨kv2,e2⟩:∃kv2,K5 .i (eI c) (.d (eI 2)) kvs=kv2:=⟨_,rfl⟩
     have m2:l6 .i (eI c) kv2:=by rw[<- e2,hkv];exact A5W _ _ (B8H (B0M _))
     have e3:lkR false (zv false [.int .i64 0]) (J2 .i (eI c) kv2)=.d (eI 2):=by rw[<- e2,B0I];rfl
     rw[<- hkv]
     rw[h5]
     by_cases hh:0<=c/\c<l.length
     ·rw[decide_eq_true hh] at hH
      repeat' first|refine st ?_|((with_reducible first|apply A8|apply A7);(·exact hH))|(with_reducible first|apply A5|apply A4)<;>intro _
      all_goals rfl
     ·rw[decide_eq_false hh] at hH
      repeat' first|refine st ?_|((with_reducible first|apply A8|apply A7);(·exact hH))|(with_reducible first|apply A5|apply A4)<;>intro _
      all_goals rfl
    ·have e1:lkR false (zv false [.int .i64 0]) (J2 .i (eI c) kvs)=.d (eI 0):=by rw[hkv,B8C hin];rfl
     have e2:K5 .i (eI c) (.d (eI 1)) kvs=X1 (cs.take (k+1)):=by rw[hkv,B8F hin,D1t,hts]
     have m2:l6 .i (eI c) (X1 (cs.take (k+1))):=A5W _ _ (B0M _)
     have e3:lkR false (zv false [.int .i64 0]) (J2 .i (eI c) (X1 (cs.take (k+1))))=.d (eI 1):=by rw[B0H (by rw[<- hts];simp)];rfl
     rw[<- hkv]
     by_cases hh:0<=c/\c<l.length
     ·rw[decide_eq_true hh] at hH
      rw[if_pos ⟨hh,hin⟩] at h7
      repeat' first|refine st ?_|((with_reducible first|apply A8|apply A7);(·exact hH))|(with_reducible first|apply A5|apply A4)<;>intro _
      exact⟨k+1,rfl,rfl,rfl,by omega,by omega,h7⟩
     ·rw[decide_eq_false hh] at hH
      rw[if_neg (λh=>hh h.1)] at h7
      have e25:=hcF2 h7
      rw[e25,if_neg (by decide)] at h5
      rw[h5]
      repeat' first|refine st ?_|((with_reducible first|apply A8|apply A7);(·exact hH))|(with_reducible first|apply A5|apply A4)<;>intro _
      all_goals rfl
   |none=>
    have hge2:=D8.1 hy
    rw[Y2 hge2] at h7
    have h7:m9 l.length [] cs=0:=h7
    by_cases g:cs.length=0
    ·rw[if_pos g] at he
     rw[he,if_neg (by decide)] at h5
     rw[h5]
     repeat' first|refine st ?_|(with_reducible first|apply A5|apply A4)<;>intro _
     all_goals first|rfl|(exfalso;omega)
    ·rw[if_neg g,h7] at he
     rw[if_pos he] at h5
     repeat' first|refine st ?_|(with_reducible first|apply A5|apply A4)<;>intro _
     exact⟨i+1,rfl,rfl,rfl,by omega,by omega,h5⟩
 |none=>
  have hge:=D8.1 hx
  rw[Y2 hge] at h5
  rw[h5]
  repeat' first|refine st ?_|(with_reducible first|apply A5|apply A4)<;>intro _
  all_goals rfl
end Go.Proofs
end
section
namespace Go.Proofs
open Go.Bi
def mx(l:List Nat):Nat:=l.foldl max 0
mutual
def L8:Ex->Nat
 |.mk op n v name nl args=>1+mx (A5u args)
def A5u:List Ex->List Nat
 |[]=>[]
 |e::es=>L8 e::A5u es
end
theorem B7d:∀l,A5u l=l.map L8
 |[]=>by simp[A5u]
 |e::es=>by simp[A5u,B7d es]
theorem A2k(op n:Int)(v:Vl)(name:List UInt8)(nl:Bool)(args:List Ex):L8 (.mk op n v name nl args)=1+mx (args.map L8):=by rw[L8,B7d]
theorem D1x{l:List Nat}{B:Nat}(h:∀x∈l,x<=B):mx l<=B:=by
 unfold mx
 have key:∀(l:List Nat) (a:Nat),a<=B->(∀x∈l,x<=B)->l.foldl max a<=B:=by
  intro l
  induction l with
  |nil=>intro a ha _;exact ha
  |cons x l ih=>intro a ha hl;exact ih (max a x) (by have:=hl x (by simp);omega) λy hy=>hl y (by simp[hy])
 exact key l 0 (T6 _) h
theorem D03:∀e:Ex,L8 e<=e.bk:=by
 refine Ex.ind λop n v name nl args ih=>?_
 rw[A2k]
 have h1:mx (args.map L8)<=(Ex.mk op n v name nl args).bk-1:=D1x λx hx=>by
  obtain⟨a,ha,rfl⟩:=F1.1 hx
  have h2:=ih a ha
  have h3:=Ex.bk_arg (op:=op) (n:=n) (v:=v) (name:=name) (nl:=nl) ha
  omega
 have:=(Ex.mk op n v name nl args).bk_pos
 omega
theorem D0N{α β:Type}(f:β->α->β)(b:β)(l:List α)(i:Nat)(x:α)(h:l[i]?=some x):(l.take (i+1)).foldl f b=f ((l.take i).foldl f b) x:=by
 rw[Q9,h];simp
theorem B8I{l:List Nat}{i x:Nat}(h:l[i]?=some x):mx (l.take (i+1))=max (mx (l.take i)) x:=D0N _ _ _ _ _ h
theorem C1m:∀e:Ex,e.bk<=1048576->∀m:Nat,1<=m->m<=25->Pure Tryz.prog A9f [e.av,.d (eI m)] (.d (eI (min m (L8 e):Nat))):=by
 refine Ex.ind λop n v name nl args ih hbk m hm1 hm2=>?_
 obtain⟨b1,b2,b3,b4⟩:=Ex.bk_bounds hbk
 have ih':∀a∈args,∀m:Nat,1<=m->m<=25->Pure Tryz.prog A9f [a.av,.d (eI m)] (.d (eI (min m (L8 a):Nat))):=λa ha=>ih a ha (b4 a ha)
 clear ih
 rw[Ex.av_mk,A2k]
 refine C3v.go A6 rfl ?_
 have hlen:=I6 args
 have hm:=O7 args
 have hd:B8 (ng nl (xL args)) (xL args):=p8
 have hget:∀(i:Nat) (op' n':Int) (v':Vl) (name':List UInt8) (nl':Bool) (args':List Ex),args[i]?=some (.mk op' n' v' name' nl' args')->(xL args)[i]?=some (W0 op' n' v' name' (ng nl' (xL args'))):=λi op' n' v' name' nl' args' h=>by
  rw[<- Ex.ds_mk];exact r8 h
 obtain⟨d,hde⟩:∃d,d=ng nl (xL args):=⟨_,rfl⟩
 rw[<- hde] at hd ⊢
 obtain⟨es,hes⟩:∃es,es=xL args:=⟨_,rfl⟩
 rw[<- hes] at hlen hm hd hget
 by_cases h1:m=1
 ·subst h1
  rw[show min 1 (1+mx (args.map L8))=1 by omega]
  repeat' first|refine st ?_|((with_reducible apply C7);conv=>whnf)|(with_reducible first|apply A5|apply A4)<;>intro _
  all_goals rfl
 have h2:¬(m:Int)<=1:=by omega
 repeat' first|refine st ?_|((with_reducible apply C7);conv=>whnf)|(with_reducible first|apply A5|apply A4)<;>intro _
 refine J1 A6 C64 C5a (λ(i:Nat) (t:Nat)=>[.d (eI t),.d (eI i)]) (λi t=>[.cells [.d (eI op),.d (eI n),.d (eI v.k),.d (eI v.n),.d (.str v.s),.d (.str name),.d d]]) (λi t=>i<=args.length/\t=min m (1+mx ((args.map L8).take i))) (λi _=>args.length-i) 0 1 rfl rfl rfl rfl (λ_ _ _=>⟨rfl,rfl⟩) rfl ⟨by omega,by simp[mx];omega⟩ ?_
 repeat' first|refine st ?_|((with_reducible apply C7);conv=>whnf)|(with_reducible first|apply A5|apply A4)<;>intro _
 intro i t ⟨h4,h5⟩
 cases hx:args[i]? with
 |some x=>
  have hlt:=(B3.1 hx).1
  have hI:=ih' x (C4 hx) (m-1) (by omega) (by omega)
  have hmx:=B8I (l:=args.map L8) (i:=i) (x:=L8 x) (by rw[G4,hx];rfl)
  rw[show((m-1:Nat):Int)=(m:Int)-1 by omega] at hI
  obtain⟨y,hy⟩:∃y,y=L8 x:=⟨_,rfl⟩
  rw[<- hy] at hI hmx
  obtain⟨op',n',v',name',nl',args'⟩:=x
  rw[Ex.av_mk] at hI
  have hg:=hget i _ _ _ _ _ _ hx
  repeat' first|refine st ?_|((with_reducible apply C7);conv=>whnf)|((with_reducible first|apply A8|apply A7);(·exact hI))|(with_reducible first|apply A5|apply A4)<;>intro _
  refine⟨i+1,max t (1+min (m-1) y),?_,rfl,rfl,by omega,by omega,?_⟩
  ·simp only[List.cons.injEq,AV.d.injEq,D.int.injEq,true_and,and_true]
   omega
  ·rw[hmx];omega
 |none=>
  have hge:=D8.1 hx
  rw[M7 (by simpa using hge)] at h5
  repeat' first|refine st ?_|((with_reducible apply C7);conv=>whnf)|(with_reducible first|apply A5|apply A4)<;>intro _
  rw[h5]
theorem C1k(e:Ex)(he:e.bk<=1048576):Pure Tryz.prog B5G [e.av] (.d (eI (min 25 (L8 e):Nat))):=by
 have h:=C1m e he 25 (by omega) (by omega)
 obtain⟨op,n,v,name,nl,args⟩:=e
 rw[Ex.av_mk] at h ⊢
 refine C3n.go A6 rfl ?_
 repeat' first|refine st ?_|((with_reducible apply C7);conv=>whnf)|((with_reducible first|apply A8|apply A7);(·exact h))|(with_reducible first|apply A5|apply A4)<;>intro _
theorem C1C:∀e:Ex,e.bk<=1048576->Pure Tryz.prog A95 [e.av] (.d (eI (L8 e:Nat))):=by
 refine Ex.ind λop n v name nl args ih hbk=>?_
 have hdb:=D03 (.mk op n v name nl args)
 obtain⟨b1,b2,b3,b4⟩:=Ex.bk_bounds hbk
 have ih':∀a∈args,Pure Tryz.prog A95 [a.av] (.d (eI (L8 a:Nat))):=λa ha=>ih a ha (b4 a ha)
 clear ih
 rw[A2k] at hdb
 rw[Ex.av_mk,A2k]
 refine C2V.go A6 rfl ?_
 have hlen:=I6 args
 have hm:=O7 args
 have hd:B8 (ng nl (xL args)) (xL args):=p8
 have hget:∀(i:Nat) (op' n':Int) (v':Vl) (name':List UInt8) (nl':Bool) (args':List Ex),args[i]?=some (.mk op' n' v' name' nl' args')->(xL args)[i]?=some (W0 op' n' v' name' (ng nl' (xL args'))):=λi op' n' v' name' nl' args' h=>by
  rw[<- Ex.ds_mk];exact r8 h
 obtain⟨d,hde⟩:∃d,d=ng nl (xL args):=⟨_,rfl⟩
 rw[<- hde] at hd ⊢
 obtain⟨es,hes⟩:∃es,es=xL args:=⟨_,rfl⟩
 rw[<- hes] at hlen hm hd hget
 repeat' first|refine st ?_|((with_reducible apply C7);conv=>whnf)|(with_reducible first|apply A5|apply A4)<;>intro _
 refine J1 A6 C5D C4J (λ(i:Nat) (t:Nat)=>[.d (eI t),.d (eI i)]) (λi t=>[.cells [.d (eI op),.d (eI n),.d (eI v.k),.d (eI v.n),.d (.str v.s),.d (.str name),.d d]]) (λi t=>i<=args.length/\t=mx ((args.map L8).take i)) (λi _=>args.length-i) 0 0 rfl rfl rfl rfl (λ_ _ _=>⟨rfl,rfl⟩) rfl ⟨by omega,rfl⟩ ?_
 repeat' first|refine st ?_|((with_reducible apply C7);conv=>whnf)|(with_reducible first|apply A5|apply A4)<;>intro _
 intro i t ⟨h4,h5⟩
 cases hx:args[i]? with
 |some x=>
  have hlt:=(B3.1 hx).1
  have hI:=ih' x (C4 hx)
  have hmx:=B8I (l:=args.map L8) (i:=i) (x:=L8 x) (by rw[G4,hx];rfl)
  obtain⟨y,hy⟩:∃y,y=L8 x:=⟨_,rfl⟩
  rw[<- hy] at hI hmx
  obtain⟨op',n',v',name',nl',args'⟩:=x
  rw[Ex.av_mk] at hI
  have hg:=hget i _ _ _ _ _ _ hx
  repeat' first|refine st ?_|((with_reducible apply C7);conv=>whnf)|((with_reducible first|apply A8|apply A7);(·exact hI))|(with_reducible first|apply A5|apply A4)<;>intro _
  refine⟨i+1,max t y,?_,rfl,rfl,by omega,by omega,?_⟩
  ·simp only[List.cons.injEq,AV.d.injEq,D.int.injEq,true_and,and_true]
   omega
  ·rw[hmx,h5]
 |none=>
  have hge:=D8.1 hx
  rw[M7 (by simpa using hge)] at h5
  repeat' first|refine st ?_|((with_reducible apply C7);conv=>whnf)|(with_reducible first|apply A5|apply A4)<;>intro _
  rw[h5]
  simp only[AV.d.injEq,D.int.injEq,true_and]
  omega
end Go.Proofs
end
section
namespace Go.Proofs
open Go.Bi
def S2(op n:Int):Bool×Bool:=
 if op=1\/op=2 then (decide (n=0),true)
 else if op=4\/op=18\/op=20\/op=21 then (decide (n=1),true)
 else if op=7\/op=8\/op=9\/op=10\/op=11\/op=12\/op=13\/op=14\/op=15\/op=16\/op=17\/op=19 then (decide (n=2),true)
 else if op=5\/op=6 then (decide (2<=n),true)
 else if op=22 then (decide (n=3),true)
 else if op=23 then (decide (1<=n),true)
 else if op=24 then (decide (n=4),true) else (false,false)
theorem B1H(op n:Int):Pure Tryz.prog A9e [.d (eI op),.d (eI n)] (.tup [.d (.bool (S2 op n).1),.d (.bool (S2 op n).2)]):=by
 refine C3u.go A6 rfl ?_
 repeat' first|refine st ?_|(with_reducible first|apply A5|apply A4)<;>intro _
 all_goals first
  |(subst_vars;rfl)
  |(simp only[S2];rw[if_neg (by omega),if_neg (by omega),if_neg (by omega),if_neg (by omega),if_neg (by omega),if_neg (by omega),if_neg (by omega)])
def j9(op:Int):Int×Int:=
 if op=1\/op=2 then (0,0)
 else if op=4\/op=18\/op=20\/op=21 then (1,1)
 else if op=7\/op=8\/op=9\/op=10\/op=11\/op=12\/op=13\/op=14\/op=15\/op=16\/op=17\/op=19 then (2,2)
 else if op=5\/op=6 then (2,1099511627776)
 else if op=22 then (3,3)
 else if op=23 then (1,1099511627776)
 else if op=24 then (4,4) else (-1,0)
theorem B1S(op:Int):Pure Tryz.prog A93 [.d (eI op)] (.tup [.d (eI (j9 op).1),.d (eI (j9 op).2)]):=by
 refine C2N.go A6 rfl ?_
 repeat' first|refine st ?_|(with_reducible first|apply A5|apply A4)<;>intro _
 all_goals first
  |(subst_vars;rfl)
  |(simp only[j9];rw[if_neg (by omega),if_neg (by omega),if_neg (by omega),if_neg (by omega),if_neg (by omega),if_neg (by omega),if_neg (by omega)])
theorem B6z(op:Int)(k:Nat)(hk:k<=1048576):(S2 op k).1=decide (¬((j9 op).1<0\/(k:Int)<(j9 op).1\/(j9 op).2<(k:Int)))/\(S2 op k).2=decide (¬(j9 op).1<0):=by
 unfold S2 j9
 repeat' split
 all_goals (constructor<;>(rw[A0T];simp;try omega))
end Go.Proofs
end
section
namespace Go.Proofs
open Go.Bi
def L9(op n:Int)(v:Vl)(name:List UInt8)(k:Nat):Bool:=
 (S2 op k).1&&decide (name=[])&&(if op=1 then decide (n=0)&&J9 v else if op=24 then decide (0<=n/\n<13)&&decide (v=F2) else if op=2 then decide (v=F2) else decide (n=0)&&decide (v=F2))
theorem A3l(v:Vl):decide (v=F2)=(decide (v.k=0)&&(decide (v.n=0)&&decide (v.s=[]))):=by
 rw[A0T]
 simp only[decide_eq_true_eq,L2,D3L]
 exact Iff.rfl
theorem B7P(n:Int)(v:Vl)(k:Nat)(h:(S2 1 k).1=true):L9 1 n v [] k=(decide (n=0)&&J9 v):=by unfold L9;rw[h];rfl
theorem B7R(n:Int)(v:Vl)(k:Nat)(h:(S2 24 k).1=true):L9 24 n v [] k=(decide (0<=n/\n<13)&&decide (v=F2)):=by unfold L9;rw[h];rfl
theorem B7Q(n:Int)(v:Vl)(k:Nat)(h:(S2 2 k).1=true):L9 2 n v [] k=decide (v=F2):=by unfold L9;rw[h];rfl
theorem B7S(op n:Int)(v:Vl)(k:Nat)(h:(S2 op k).1=true)(h1:op≠1)(h2:op≠24)(h3:op≠2):L9 op n v [] k=(decide (n=0)&&decide (v=F2)):=by unfold L9;rw[h,if_neg h1,if_neg h2,if_neg h3];rfl
theorem C1n(op n:Int)(v:Vl)(name:List UInt8)(d:D)(es:List (List D))(hd:B8 d es)(hs:v.s.length<=1048576)(hl:es.length<=1048576):Pure Tryz.prog B5K [eX op n v name d] (.d (.bool (L9 op n v name es.length))):=by
 refine C3w.go A6 rfl ?_
 have hV:=A4O v (by omega)
 have hC:=B1H op es.length
 cases hc:(S2 op es.length).1 with
 |false=>
  have hr:L9 op n v name es.length=false:=by unfold L9;rw[hc];rfl
  rw[hr]
  rw[hc] at hC
  repeat' first|refine st ?_|((with_reducible apply C7);conv=>whnf)|((with_reducible first|apply A8|apply A7);(·exact hC))|(with_reducible first|apply A5|apply A4)<;>intro _
 |true=>
 rw[hc] at hC
 by_cases hn:name=[]
 rotate_left
 ·have hr:L9 op n v name es.length=false:=by unfold L9;rw[decide_eq_false hn,Bool.and_false];rfl
  rw[hr]
  repeat' first|refine st ?_|((with_reducible apply C7);conv=>whnf)|((with_reducible first|apply A8|apply A7);(·exact hC))|(with_reducible first|apply A5|apply A4)<;>intro _
  all_goals rfl
 subst hn
 by_cases h1:op=1
 ·subst h1
  obtain⟨r,hr⟩:∃r,r=L9 1 n v [] es.length:=⟨_,rfl⟩
  rw[<- hr]
  rw[B7P _ _ _ hc] at hr
  by_cases hn:n=0
  ·rw[decide_eq_true hn] at hr
   repeat' first|refine st ?_|((with_reducible apply C7);conv=>whnf)|((with_reducible first|apply A8|apply A7);(·first|exact hC|exact hV))|(with_reducible first|apply A5|apply A4)<;>intro _
   all_goals (rw[hr];try rfl)
  ·rw[decide_eq_false hn] at hr
   repeat' first|refine st ?_|((with_reducible apply C7);conv=>whnf)|((with_reducible first|apply A8|apply A7);(·first|exact hC|exact hV))|(with_reducible first|apply A5|apply A4)<;>intro _
   all_goals (rw[hr];try rfl)
 by_cases h2:op=24
 ·subst h2
  obtain⟨r,hr⟩:∃r,r=L9 24 n v [] es.length:=⟨_,rfl⟩
  rw[<- hr]
  rw[B7R _ _ _ hc,A3l] at hr
  by_cases hn:0<=n/\n<13
  ·rw[decide_eq_true hn] at hr
   obtain⟨n1,n2⟩:=hn
   have n3:¬n<0:=by omega
   have n4:¬13<=n:=by omega
   repeat' first|refine st ?_|((with_reducible apply C7);conv=>whnf)|((with_reducible first|apply A8|apply A7);(·first|exact hC|exact hV))|(with_reducible first|apply A5|apply A4)<;>intro _
   all_goals (rw[hr];try (clear hr;simp_all[F2];try omega))
  ·rw[decide_eq_false hn] at hr
   repeat' first|refine st ?_|((with_reducible apply C7);conv=>whnf)|((with_reducible first|apply A8|apply A7);(·first|exact hC|exact hV))|(with_reducible first|apply A5|apply A4)<;>intro _
   all_goals (rw[hr];try (clear hr;simp_all[F2];try omega))
 by_cases h3:op=2
 ·subst h3
  obtain⟨r,hr⟩:∃r,r=L9 2 n v [] es.length:=⟨_,rfl⟩
  rw[<- hr]
  rw[B7Q _ _ _ hc,A3l] at hr
  repeat' first|refine st ?_|((with_reducible apply C7);conv=>whnf)|((with_reducible first|apply A8|apply A7);(·first|exact hC|exact hV))|(with_reducible first|apply A5|apply A4)<;>intro _
  all_goals (rw[hr];try rfl)
 obtain⟨r,hr⟩:∃r,r=L9 op n v [] es.length:=⟨_,rfl⟩
 rw[<- hr]
 rw[B7S _ _ _ _ hc h1 h2 h3,A3l] at hr
 by_cases hn:n=0
 ·rw[decide_eq_true hn] at hr
  repeat' first|refine st ?_|((with_reducible apply C7);conv=>whnf)|((with_reducible first|apply A8|apply A7);(·first|exact hC|exact hV))|(with_reducible first|apply A5|apply A4)<;>intro _
  all_goals (rw[hr];try rfl)
 ·rw[decide_eq_false hn] at hr
  repeat' first|refine st ?_|((with_reducible apply C7);conv=>whnf)|((with_reducible first|apply A8|apply A7);(·first|exact hC|exact hV))|(with_reducible first|apply A5|apply A4)<;>intro _
  all_goals (rw[hr];try rfl)
theorem C1z(op n:Int)(v:Vl)(name:List UInt8)(d:D)(es:List (List D))(hd:B8 d es)(hs:v.s.length<=1048576)(hl:es.length<=1048576):Pure Tryz.prog B5b [eX op n v name d] (.d (.bool (L9 op n v name es.length))):=by
 refine C2Q.go A6 rfl ?_
 have hV:=A4K v (by omega)
 have hC:=B1S op
 have hac:=(B6z op es.length hl).1
 cases hc:(S2 op es.length).1 with
 |false=>
  have hr:L9 op n v name es.length=false:=by unfold L9;rw[hc];rfl
  rw[hr]
  rw[hc] at hac
  have hac:(j9 op).1<0\/(es.length:Int)<(j9 op).1\/(j9 op).2<(es.length:Int):=by
   have:=of_decide_eq_false hac.symm
   omega
  repeat' first|refine st ?_|((with_reducible apply C7);conv=>whnf)|((with_reducible first|apply A8|apply A7);(·exact hC))|(with_reducible first|apply A5|apply A4)<;>intro _
  all_goals first|rfl|(exfalso;omega)
 |true=>
 rw[hc] at hac
 have hac:=of_decide_eq_true hac.symm
 have a1:¬(j9 op).1<0:=by omega
 have a2:¬(es.length:Int)<(j9 op).1:=by omega
 have a3:¬(j9 op).2<(es.length:Int):=by omega
 clear hac
 by_cases hn:name=[]
 rotate_left
 ·have hr:L9 op n v name es.length=false:=by unfold L9;rw[decide_eq_false hn,Bool.and_false];rfl
  rw[hr]
  repeat' first|refine st ?_|((with_reducible apply C7);conv=>whnf)|((with_reducible first|apply A8|apply A7);(·exact hC))|(with_reducible first|apply A5|apply A4)<;>intro _
  all_goals rfl
 subst hn
 by_cases h1:op=1
 ·subst h1
  obtain⟨r,hr⟩:∃r,r=L9 1 n v [] es.length:=⟨_,rfl⟩
  rw[<- hr]
  rw[B7P _ _ _ hc] at hr
  by_cases hn:n=0
  ·rw[decide_eq_true hn] at hr
   repeat' first|refine st ?_|((with_reducible apply C7);conv=>whnf)|((with_reducible first|apply A8|apply A7);(·first|exact hC|exact hV|exact w8))|(with_reducible first|apply A5|apply A4)<;>intro _
   all_goals (rw[hr];try rfl)
  ·rw[decide_eq_false hn] at hr
   repeat' first|refine st ?_|((with_reducible apply C7);conv=>whnf)|((with_reducible first|apply A8|apply A7);(·first|exact hC|exact hV|exact w8))|(with_reducible first|apply A5|apply A4)<;>intro _
   all_goals (rw[hr];try rfl)
 by_cases h2:op=24
 ·subst h2
  obtain⟨r,hr⟩:∃r,r=L9 24 n v [] es.length:=⟨_,rfl⟩
  rw[<- hr]
  rw[B7R _ _ _ hc,A3l] at hr
  by_cases hn:0<=n/\n<13
  ·rw[decide_eq_true hn] at hr
   obtain⟨n1,n2⟩:=hn
   have n3:¬n<0:=by omega
   have n4:¬13<=n:=by omega
   repeat' first|refine st ?_|((with_reducible apply C7);conv=>whnf)|((with_reducible first|apply A8|apply A7);(·first|exact hC|exact hV|exact w8))|(with_reducible first|apply A5|apply A4)<;>intro _
   all_goals (rw[hr];try (clear hr;simp_all[F2];try omega))
  ·rw[decide_eq_false hn] at hr
   repeat' first|refine st ?_|((with_reducible apply C7);conv=>whnf)|((with_reducible first|apply A8|apply A7);(·first|exact hC|exact hV|exact w8))|(with_reducible first|apply A5|apply A4)<;>intro _
   all_goals (rw[hr];try (clear hr;simp_all[F2];try omega))
 by_cases h3:op=2
 ·subst h3
  obtain⟨r,hr⟩:∃r,r=L9 2 n v [] es.length:=⟨_,rfl⟩
  rw[<- hr]
  rw[B7Q _ _ _ hc,A3l] at hr
  repeat' first|refine st ?_|((with_reducible apply C7);conv=>whnf)|((with_reducible first|apply A8|apply A7);(·first|exact hC|exact hV|exact w8))|(with_reducible first|apply A5|apply A4)<;>intro _
  all_goals (rw[hr];try rfl)
 obtain⟨r,hr⟩:∃r,r=L9 op n v [] es.length:=⟨_,rfl⟩
 rw[<- hr]
 rw[B7S _ _ _ _ hc h1 h2 h3,A3l] at hr
 by_cases hn:n=0
 ·rw[decide_eq_true hn] at hr
  repeat' first|refine st ?_|((with_reducible apply C7);conv=>whnf)|((with_reducible first|apply A8|apply A7);(·first|exact hC|exact hV|exact w8))|(with_reducible first|apply A5|apply A4)<;>intro _
  all_goals (rw[hr];try rfl)
 ·rw[decide_eq_false hn] at hr
  repeat' first|refine st ?_|((with_reducible apply C7);conv=>whnf)|((with_reducible first|apply A8|apply A7);(·first|exact hC|exact hV|exact w8))|(with_reducible first|apply A5|apply A4)<;>intro _
  all_goals (rw[hr];try rfl)
end Go.Proofs
end
section
namespace Go.Proofs
open Go.Bi
def w64(n:Int):Int:=IntKind.i64.wrap n
end Go.Proofs
end
section
namespace Go.Proofs
open Go.Bi
theorem A7C{α β:Type}(f:β->α->β)(b:β)(l:List α)(i:Nat)(x:α)(h:l[i]?=some x):(l.take (i+1)).foldl f b=f ((l.take i).foldl f b) x:=by
 rw[Q9,h];simp
end Go.Proofs
end
section
namespace Go.Proofs
open Go.Bi
theorem B01{op:Int}{k:Nat}(h:(S2 op k).1=true):((op=1\/op=2)/\k=0)\/((op=4\/op=18\/op=20\/op=21)/\k=1)\/((7<=op/\op<=17\/op=19)/\k=2)\/((op=5\/op=6)/\2<=k)\/(op=22/\k=3)\/(op=23/\1<=k)\/(op=24/\k=4):=by
 unfold S2 at h
 repeat' split at h
 all_goals (simp at h)
 all_goals omega
theorem B0n{op n:Int}{v:Vl}{name:List UInt8}{k:Nat}(h:L9 op n v name k=true):(S2 op k).1=true:=by
 unfold L9 at h
 simp only[L2] at h
 exact h.1.1
theorem D3B:J9 F2=true:=by decide
theorem D3D(v:Vl):J9 (w5 v)=true:=by
 unfold w5
 split
 ·assumption
 ·exact D3B
abbrev z3:List D:=[eI 0,eI 0,.str []]
end Go.Proofs
end
section
namespace Go.Proofs
open Go.Bi
def z8(k:Int):List Int->Int×Bool
 |[]=>(k,true)
 |x::l=>if x=0 then z8 k l else if k≠0/\k≠x then (0,false) else z8 x l
def f7(l:List Int):Int×Bool:=z8 0 l
theorem B9X{k:Int}{l:List Int}{i:Nat}{x:Int}(h:l[i]?=some x):z8 k (l.drop i)=if x=0 then z8 k (l.drop (i+1)) else if k≠0/\k≠x then (0,false) else z8 x (l.drop (i+1)):=by
 obtain⟨hlt,he⟩:=B3.1 h
 rw[S5 hlt,he];rfl
theorem A8v(l:List Int)(hl:l.length<=1048577)(d:D)(hd:B8 d (A0 l)):Pure Tryz.prog B5M [.d d] (.tup [.d (eI (f7 l).1),.d (.bool (f7 l).2)]):=by
 refine C3y.go A6 rfl ?_
 have h1:=B7 l
 have hm:=D3 l
 repeat' first|refine st ?_|((with_reducible apply C7);conv=>whnf)|(with_reducible first|apply A5|apply A4)<;>intro _
 refine J1 A6 C65 C5b (λ(i:Nat) (k:Int)=>[.d (eI k),.d (eI i)]) (λi k=>[]) (λi k=>i<=l.length/\f7 l=z8 k (l.drop i)) (λi _=>l.length-i) 0 0 rfl rfl rfl rfl (λ_ _ _=>⟨rfl,rfl⟩) rfl ⟨by omega,rfl⟩ ?_
 repeat' first|refine st ?_|((with_reducible apply C7);conv=>whnf)|(with_reducible first|apply A5|apply A4)<;>intro _
 intro i k ⟨h2,h3⟩
 cases hx:l[i]? with
 |some x=>
  have hlt:=(B3.1 hx).1
  have hg:=N4 hx
  rw[B9X hx] at h3
  by_cases hx0:x=0
  ·rw[if_pos hx0] at h3
   repeat' first|refine st ?_|((with_reducible apply C7);conv=>whnf)|(with_reducible first|apply A5|apply A4)<;>intro _
   exact⟨i+1,_,rfl,rfl,rfl,by omega,by omega,h3⟩
  ·rw[if_neg hx0] at h3
   by_cases hk:k≠0/\k≠x
   ·rw[if_pos hk] at h3
    rw[h3]
    obtain⟨hk1,hk2⟩:=hk
    repeat' first|refine st ?_|((with_reducible apply C7);conv=>whnf)|(with_reducible first|apply A5|apply A4)<;>intro _
    all_goals rfl
   ·rw[if_neg hk] at h3
    by_cases hk0:k=0
    ·repeat' first|refine st ?_|((with_reducible apply C7);conv=>whnf)|(with_reducible first|apply A5|apply A4)<;>intro _
     exact⟨i+1,_,rfl,rfl,rfl,by omega,by omega,h3⟩
    ·have hkx:k=x:=by omega
     repeat' first|refine st ?_|((with_reducible apply C7);conv=>whnf)|(with_reducible first|apply A5|apply A4)<;>intro _
     exact⟨i+1,_,rfl,rfl,rfl,by omega,by omega,h3⟩
 |none=>
  have hge:=D8.1 hx
  rw[Y2 hge] at h3
  rw[h3]
  repeat' first|refine st ?_|((with_reducible apply C7);conv=>whnf)|(with_reducible first|apply A5|apply A4)<;>intro _
  all_goals rfl
theorem B1T(l:List Int)(hl:l.length<=1048577)(d:D)(hd:B8 d (A0 l)):Pure Tryz.prog B5c [.d d] (.tup [.d (eI (f7 l).1),.d (.bool (f7 l).2)]):=by
 refine C2R.go A6 rfl ?_
 have h1:=B7 l
 have hm:=D3 l
 repeat' first|refine st ?_|((with_reducible apply C7);conv=>whnf)|(with_reducible first|apply A5|apply A4)<;>intro _
 refine J1 A6 C5B C4H (λ(i:Nat) (k:Int)=>[.d (eI k),.d (eI i)]) (λi k=>[]) (λi k=>i<=l.length/\f7 l=z8 k (l.drop i)) (λi _=>l.length-i) 0 0 rfl rfl rfl rfl (λ_ _ _=>⟨rfl,rfl⟩) rfl ⟨by omega,rfl⟩ ?_
 repeat' first|refine st ?_|((with_reducible apply C7);conv=>whnf)|(with_reducible first|apply A5|apply A4)<;>intro _
 intro i k ⟨h2,h3⟩
 cases hx:l[i]? with
 |some x=>
  have hlt:=(B3.1 hx).1
  have hg:=N4 hx
  rw[B9X hx] at h3
  by_cases hx0:x=0
  ·rw[if_pos hx0] at h3
   repeat' first|refine st ?_|((with_reducible apply C7);conv=>whnf)|(with_reducible first|apply A5|apply A4)<;>intro _
   exact⟨i+1,_,rfl,rfl,rfl,by omega,by omega,h3⟩
  ·rw[if_neg hx0] at h3
   by_cases hk:k≠0/\k≠x
   ·rw[if_pos hk] at h3
    rw[h3]
    obtain⟨hk1,hk2⟩:=hk
    repeat' first|refine st ?_|((with_reducible apply C7);conv=>whnf)|(with_reducible first|apply A5|apply A4)<;>intro _
    all_goals rfl
   ·rw[if_neg hk] at h3
    by_cases hk0:k=0
    ·repeat' first|refine st ?_|((with_reducible apply C7);conv=>whnf)|(with_reducible first|apply A5|apply A4)<;>intro _
     exact⟨i+1,_,rfl,rfl,rfl,by omega,by omega,h3⟩
    ·have hkx:k=x:=by omega
     repeat' first|refine st ?_|((with_reducible apply C7);conv=>whnf)|(with_reducible first|apply A5|apply A4)<;>intro _
     exact⟨i+1,_,rfl,rfl,rfl,by omega,by omega,h3⟩
 |none=>
  have hge:=D8.1 hx
  rw[Y2 hge] at h3
  rw[h3]
  repeat' first|refine st ?_|((with_reducible apply C7);conv=>whnf)|(with_reducible first|apply A5|apply A4)<;>intro _
  all_goals rfl
def Z4(l:List Int)(c:Int):Bool:=l.all λx=>decide (x=c\/x=0)
theorem B9Y(c:Int)(hc:c≠0):∀(l:List Int)(k:Int),((z8 k (l++[c])).2&&decide ((z8 k (l++[c])).1=c))=(decide (k=0\/k=c)&&Z4 l c)
 |[],k=>by
  simp only[A1B,z8,if_neg hc,Z4,List.all_nil,Bool.and_true]
  by_cases h:k≠0/\k≠c
  ·rw[if_pos h,decide_eq_false (show ¬(k=0\/k=c) by omega)];rfl
  ·rw[if_neg h,decide_eq_true (show k=0\/k=c by omega)];simp
 |x::l,k=>by
  have ih:=B9Y c hc l
  simp only[A3B,z8,Z4,Z3] at ih ⊢
  by_cases hx:x=0
  ·rw[if_pos hx,ih k,decide_eq_true (show x=c\/x=0 from .inr hx)];simp
  ·rw[if_neg hx]
   by_cases h:k≠0/\k≠x
   ·rw[if_pos h]
    by_cases hxc:x=c
    ·rw[decide_eq_false (show ¬(k=0\/k=c) by omega)];simp
    ·rw[decide_eq_false (show ¬(x=c\/x=0) by omega)];simp
   ·rw[if_neg h,ih x]
    by_cases hxc:x=c
    ·rw[decide_eq_true (show x=0\/x=c from .inr hxc),decide_eq_true (show x=c\/x=0 from .inl hxc),decide_eq_true (show k=0\/k=c by omega)];simp
    ·rw[decide_eq_false (show ¬(x=0\/x=c) by omega),decide_eq_false (show ¬(x=c\/x=0) by omega)];simp
theorem C0X:Pure Tryz.prog W4 [.d .nil] (.d .nil):=by
 refine A6Q.go A6 rfl ?_
 repeat' first|refine st ?_|((with_reducible apply C7);conv=>whnf)|(with_reducible first|apply A5|apply A4)<;>intro _
theorem C0Y(es:List (List D))(hl:es.length<=1048577)(hm:∀e∈es,e.length=1):B5 Tryz.prog W4 [.d (.sl es)] [] (λr os=>r=.arr 0 es.length/\os=[.arr es 1 0 false]):=by
 refine A6Q.goO A6 rfl ?_
 have h0:([]:List (List D)).length=0:=rfl
 have h00:(([]:List (List D))++es).length=es.length:=rfl
 have hb:(([]:List (List D)).length+es.length)*8<=140737488355328/\([]:List (List D)).length+es.length<=9223372036854775807:=by rw[h0];omega
 repeat' first|refine st ?_|((with_reducible apply C7);conv=>whnf)|(with_reducible first|apply A5|apply A4)<;>intro _
 all_goals (refine⟨rfl,?_⟩;cases es<;>rfl)
theorem D0f(l:List Int)(x:Int):A0 l++[[eI x]]=A0 (l++[x]):=by simp[A0]
theorem A6A(l:List Int)(hl:l.length<=1048576)(d:D)(hd:B8 d (A0 l))(c:Int)(hc:c≠0):Pure Tryz.prog B5J [.d d,.d (eI c)] (.d (.bool (Z4 l c))):=by
 refine C3s.go A6 rfl ?_
 have h1:=B7 l
 have hm:=D3 l
 have hU:=A8v (l++[c]) (by simp;omega) (.sl (A0 (l++[c]))) O6
 have hres:=B9Y c hc l 0
 rw[show decide ((0:Int)=0\/(0:Int)=c)=true from rfl,w6] at hres
 rw[<- hres]
 unfold f7 at hU
 rw[<- D0f] at hU
 obtain⟨x,b⟩:∃x b,z8 0 (l++[c])=(x,b):=⟨_,_,rfl⟩
 rcases hd with ⟨rfl,he⟩|rfl
 ·rw[he] at hU
  repeat' first|refine st ?_|((with_reducible apply C7);conv=>whnf)|((with_reducible first|apply A8|apply A7);(·first|exact C0X|exact hU))|(with_reducible first|apply A5|apply A4)<;>intro _
  all_goals simp[*]
 ·have hC:=C0Y (A0 l) (by omega) hm
  have ha:(A0 l++[[eI c]]).length=l.length+1:=by simp[h1]
  repeat' first|refine st ?_|((with_reducible apply C7);conv=>whnf)|((with_reducible first|apply A8|apply A7);(·exact hU))|((with_reducible first|apply I0|apply D7);(·exact hC);(try rintro _ _ ⟨rfl,rfl⟩))|((with_reducible apply I8);(·exact hC))|((with_reducible apply H8);refine st ?_;(with_reducible apply I5);(·exact rfl);refine st ?_;(with_reducible apply D7);(·exact hC);(try rintro _ _ ⟨rfl,rfl⟩))|(with_reducible first|apply A5|apply A4)<;>intro _
  all_goals simp[*]
theorem A6B(l:List Int)(hl:l.length<=1048577)(d:D)(hd:B8 d (A0 l))(c:Int):Pure Tryz.prog B5e [.d d,.d (eI c)] (.d (.bool (Z4 l c))):=by
 refine C2T.go A6 rfl ?_
 have h1:=B7 l
 have hm:=D3 l
 repeat' first|refine st ?_|((with_reducible apply C7);conv=>whnf)|(with_reducible first|apply A5|apply A4)<;>intro _
 refine F7 A6 C5C C4I (λ(i:Nat)=>[.d (eI i)]) (λi=>[]) (λi=>i<=l.length/\(l.take i).all (λx=>decide (x=c\/x=0))=true) (λi=>l.length-i) 0 rfl rfl rfl rfl (λ_ _=>⟨rfl,rfl⟩) rfl ⟨by omega,rfl⟩ ?_
 repeat' first|refine st ?_|((with_reducible apply C7);conv=>whnf)|(with_reducible first|apply A5|apply A4)<;>intro _
 intro i ⟨h2,h3⟩
 cases hx:l[i]? with
 |some x=>
  have hlt:=(B3.1 hx).1
  have hg:=N4 hx
  by_cases hk:x=c
  ·repeat' first|refine st ?_|((with_reducible apply C7);conv=>whnf)|(with_reducible first|apply A5|apply A4)<;>intro _
   refine⟨i+1,rfl,rfl,rfl,by omega,by omega,?_⟩
   rw[A2Y hx,h3,decide_eq_true (show x=c\/x=0 from .inl hk)];rfl
  ·by_cases hk0:x=0
   ·repeat' first|refine st ?_|((with_reducible apply C7);conv=>whnf)|(with_reducible first|apply A5|apply A4)<;>intro _
    refine⟨i+1,rfl,rfl,rfl,by omega,by omega,?_⟩
    rw[A2Y hx,h3,decide_eq_true (show x=c\/x=0 from .inr hk0)];rfl
   ·repeat' first|refine st ?_|((with_reducible apply C7);conv=>whnf)|(with_reducible first|apply A5|apply A4)<;>intro _
    rw[Z4,A3M hx (decide_eq_false (show ¬(x=c\/x=0) by omega))]
 |none=>
  have hge:=D8.1 hx
  rw[M7 hge] at h3
  repeat' first|refine st ?_|((with_reducible apply C7);conv=>whnf)|(with_reducible first|apply A5|apply A4)<;>intro _
  rw[Z4,h3]
end Go.Proofs
end
section
namespace Go.Proofs
open Go.Bi
def o8(op:Int)(v:Vl)(l:List Int):Int×Bool:=
 if op=1 then (v.k,true)
 else if op=4\/op=5\/op=6 then (3,Z4 l 3)
 else if op=7\/op=8\/op=9\/op=10\/op=11\/op=12 then (3,(f7 l).2)
 else if op=19 then (2,Z4 l 2)
 else if op=20 then (1,Z4 l 2)
 else if op=21 then (3,true)
 else if op=22 then ((f7 (l.drop 1)).1,(f7 (l.drop 1)).2&&Z4 (l.take 1) 3)
 else if op=23 then f7 l
 else if op=24 then (3,Z4 l 1) else (1,Z4 l 1)
theorem B7h(l:List Int)(i:Nat):(A0 l).drop i=A0 (l.drop i):=by simp[A0]
theorem B7i(l:List Int)(i:Nat):(A0 l).take i=A0 (l.take i):=by simp[A0]
theorem B1J(op n:Int)(v:Vl)(name:List UInt8)(d0:D)(l:List Int)(hl:l.length<=1048576)(d:D)(hd:B8 d (A0 l))(h22:op=22->1<=l.length):Pure Tryz.prog B5L [eX op n v name d0,.d d] (.tup [.d (eI (o8 op v l).1),.d (.bool (o8 op v l).2)]):=by
 refine C3x.go A6 rfl ?_
 have h1:=B7 l
 have hm:=D3 l
 by_cases h22':op=22
 ·subst h22'
  have hl1:=h22 rfl
  rcases hd with ⟨rfl,he⟩|rfl
  ·rw[he] at h1;simp at h1;omega
  have hU:=A8v (l.drop 1) (by simp;omega) (.sl (A0 (l.drop 1))) O6
  have hA:=A6A (l.take 1) (by simp;omega) (.sl (A0 (l.take 1))) O6 3 (by decide)
  have hcut:((A0 l).drop (1:Int).toNat).take (((A0 l).length:Int).toNat-(1:Int).toNat)=A0 (l.drop 1):=by
   rw[<- B7h,show(1:Int).toNat=1 from rfl,M7]
   simp
  have hcut2:((A0 l).drop ((0:Nat):Int).toNat).take ((1:Int).toNat-((0:Nat):Int).toNat)=A0 (l.take 1):=by
   rw[<- B7i];rfl
  rw[show o8 22 v l=((f7 (l.drop 1)).1,(f7 (l.drop 1)).2&&Z4 (l.take 1) 3) from rfl]
  obtain⟨⟨k,b⟩,hkb⟩:∃kb,f7 (l.drop 1)=kb:=⟨_,rfl⟩
  rw[hkb] at hU ⊢
  obtain⟨z,hz⟩:∃z,Z4 (l.take 1) 3=z:=⟨_,rfl⟩
  rw[hz] at hA ⊢
  obtain⟨e1,he1⟩:∃e1,e1=A0 (l.drop 1):=⟨_,rfl⟩
  obtain⟨e2,he2⟩:∃e2,e2=A0 (l.take 1):=⟨_,rfl⟩
  rw[<- he1] at hU hcut
  rw[<- he2] at hA hcut2
  have hel:((A0 l).length:Int)=l.length:=by rw[h1]
  obtain⟨es,hes⟩:∃es,es=A0 l:=⟨_,rfl⟩
  rw[<- hes] at hcut hcut2 hel hm h1 ⊢
  cases b with
  |false=>
   repeat' first|refine st ?_|(with_reducible first|apply A5|apply A4)<;>intro _
   all_goals (try rw[hcut])
   repeat' first|refine st ?_|((with_reducible first|apply A8|apply A7);(·exact hU))|(with_reducible first|apply A5|apply A4)<;>intro _
   all_goals rfl
  |true=>
   repeat' first|refine st ?_|(with_reducible first|apply A5|apply A4)<;>intro _
   all_goals (try rw[hcut])
   repeat' first|refine st ?_|((with_reducible first|apply A8|apply A7);(·exact hU))|(with_reducible first|apply A5|apply A4)<;>intro _
   all_goals (try rw[hcut2])
   repeat' first|refine st ?_|((with_reducible first|apply A8|apply A7);(·exact hA))|(with_reducible first|apply A5|apply A4)<;>intro _
   all_goals rfl
 have A3:=A6A l hl d hd 3 (by decide)
 have A2:=A6A l hl d hd 2 (by decide)
 have A1:=A6A l hl d hd 1 (by decide)
 have U:=A8v l (by omega) d hd
 repeat' first|refine st ?_|((with_reducible first|apply A8|apply A7);(·first|exact A3|exact A2|exact A1|exact U))|(with_reducible first|apply A5|apply A4)<;>intro _
 all_goals first
  |(subst_vars;rfl)
  |(simp only[o8];rw[if_neg (by omega),if_neg (by omega),if_neg (by omega),if_neg (by omega),if_neg (by omega),if_neg (by omega),if_neg (by omega),if_neg (by omega),if_neg (by omega)])
theorem C1E(n:Int)(v:Vl)(name:List UInt8)(d0:D)(l ks:List Int)(d:D)(hd:B8 d (A0 l))(dk:D)(hdk:B8 dk (A0 ks))(k:Int)(h0:0<=n)(hk:ks[n.toNat]?=some k):Pure Tryz.prog A96 [eX 2 n v name d0,.d d,.d dk] (.tup [.d (eI k),.d (.bool true)]):=by
 refine B29.go A6 rfl ?_
 have h1:=B7 ks
 have hm:=D3 ks
 have hg:=N4 hk
 have hlt:=(B3.1 hk).1
 have hn2:n<(A0 ks).length:=by omega
 repeat' first|refine st ?_|(with_reducible first|apply A5|apply A4)<;>intro _
 all_goals rfl
theorem C1D(op n:Int)(v:Vl)(name:List UInt8)(d0:D)(l:List Int)(hl:l.length<=1048576)(d:D)(hd:B8 d (A0 l))(dk:D)(h22:op=22->1<=l.length)(hop:op=1\/4<=op/\op<=24)(h2:op≠2):Pure Tryz.prog A96 [eX op n v name d0,.d d,.d dk] (.tup [.d (eI (o8 op v l).1),.d (.bool (o8 op v l).2)]):=by
  refine B29.go A6 rfl ?_
  have h1:=B7 l
  have hm:=D3 l
  by_cases h22':op=22
  · subst h22'
    have hl1:=h22 rfl
    rcases hd with ⟨rfl,he⟩|rfl
    · rw[he] at h1;simp at h1;omega
    have hU:=B1T (l.drop 1) (by simp;omega) (.sl (A0 (l.drop 1))) O6
    have hA:=A6B (l.take 1) (by simp;omega) (.sl (A0 (l.take 1))) O6 3
    have hcut:((A0 l).drop (1:Int).toNat).take (((A0 l).length:Int).toNat-(1:Int).toNat)=A0 (l.drop 1):=by
      rw[<- B7h,show(1:Int).toNat=1 from rfl,M7]
      simp
    have hcut2:((A0 l).drop ((0:Nat):Int).toNat).take ((1:Int).toNat-((0:Nat):Int).toNat)=A0 (l.take 1):=by
      rw[<- B7i];rfl
    rw[show o8 22 v l=((f7 (l.drop 1)).1,(f7 (l.drop 1)).2&&Z4 (l.take 1) 3) from rfl]
    obtain⟨⟨k,b⟩,hkb⟩:∃kb,f7 (l.drop 1)=kb:=⟨_,rfl⟩
    rw[hkb] at hU ⊢
    obtain⟨z,hz⟩:∃z,Z4 (l.take 1) 3=z:=⟨_,rfl⟩
    rw[hz] at hA ⊢
    obtain⟨e1,he1⟩:∃e1,e1=A0 (l.drop 1):=⟨_,rfl⟩
    obtain⟨e2,he2⟩:∃e2,e2=A0 (l.take 1):=⟨_,rfl⟩
    rw[<- he1] at hU hcut
    rw[<- he2] at hA hcut2
    have hel:((A0 l).length:Int)=l.length:=by rw[h1]
    obtain⟨es,hes⟩:∃es,es=A0 l:=⟨_,rfl⟩
    rw[<- hes] at hcut hcut2 hel hm h1 ⊢
    cases b with
    |false=>
      repeat' first|refine st ?_|(with_reducible first|apply A5|apply A4)<;>intro _
      all_goals (try rw[hcut])
      repeat' first|refine st ?_|((with_reducible first|apply A8|apply A7);(·exact hU))|(with_reducible first|apply A5|apply A4)<;>intro _
      all_goals rfl
    |true=>
      repeat' first|refine st ?_|(with_reducible first|apply A5|apply A4)<;>intro _
      all_goals (try rw[hcut])
      repeat' first|refine st ?_|((with_reducible first|apply A8|apply A7);(·exact hU))|(with_reducible first|apply A5|apply A4)<;>intro _
      all_goals (try rw[hcut2])
      repeat' first|refine st ?_|((with_reducible first|apply A8|apply A7);(·exact hA))|(with_reducible first|apply A5|apply A4)<;>intro _
      all_goals rfl
  have A3:=A6B l (by omega) d hd 3
  have A2:=A6B l (by omega) d hd 2
  have A1:=A6B l (by omega) d hd 1
  have U:=B1T l (by omega) d hd
  repeat' first|refine st ?_|((with_reducible first|apply A8|apply A7);(·first|exact A3|exact A2|exact A1|exact U))|(with_reducible first|apply A5|apply A4)<;>intro _
  all_goals first
    |(subst_vars;rfl)
    | (have : op = 24 := by omega
       subst this;rfl)
end Go.Proofs
end
section
namespace Go.Proofs
open Go.Bi
def fe:List (Int×Int)->Int
 |[]=>0
 |r::rs=>if r.2=0 then fe rs else r.2
def R5(op n:Int)(v:Vl)(name:List UInt8)(ks:List Int)(k:Nat)(rs:List (Int×Int)):Int×Int:=
 if (S2 op k).2=false then (0,7) else if L9 op n v name k=false then (0,8)
 else if op=2 then (if 0<=n/\n<ks.length then (ks.getD n.toNat 0,0) else (0,13))
 else if fe rs=0 then (if (o8 op v (rs.map Prod.fst)).2 then ((o8 op v (rs.map Prod.fst)).1,0) else (0,7)) else (0,fe rs)
mutual
def F6(ks:List Int):Ex->Int×Int
 |.mk op n v name nl args=>R5 op n v name ks args.length (A5n ks args)
def A5n(ks:List Int):List Ex->List (Int×Int)
 |[]=>[]
 |e::es=>F6 ks e::A5n ks es
end
theorem B6Y(ks:List Int):∀l,A5n ks l=l.map (F6 ks)
 |[]=>by simp[A5n]
 |e::es=>by simp[A5n,B6Y ks es]
theorem A0D(ks:List Int)(op n:Int)(v:Vl)(name:List UInt8)(nl:Bool)(args:List Ex):F6 ks (.mk op n v name nl args)=R5 op n v name ks args.length (args.map (F6 ks)):=by rw[F6,B6Y]
theorem B7x{l:List (Int×Int)}{i:Nat}{x:Int×Int}(h:l[i]?=some x):fe (l.drop i)=if x.2=0 then fe (l.drop (i+1)) else x.2:=by
 obtain⟨hlt,he⟩:=B3.1 h
 rw[S5 hlt,he];rfl
def Kv(rs:List (Int×Int))(i:Nat):List (List D):=A0 ((rs.take i).map Prod.fst)
theorem B4A(rs:List (Int×Int))(i:Nat)(h:i<=rs.length):(Kv rs i).length=i:=by
 unfold Kv
 rw[B7,D5,L6]
 omega
theorem B4B{rs:List (Int×Int)}{i:Nat}{x:Int×Int}(h:rs[i]?=some x):Kv rs i++[[eI x.1]]=Kv rs (i+1):=by
 unfold Kv
 rw[Q9,h]
 simp[A0]
theorem B4z{rs:List (Int×Int)}{i:Nat}(h:rs.length<=i):Kv rs i=A0 (rs.map Prod.fst):=by
 unfold Kv
 rw[M7 h]
theorem B70{op n:Int}{v:Vl}{name:List UInt8}{ks:List Int}{k:Nat}{rs:List (Int×Int)}(h:L9 op n v name k=true)(h2:op≠2):R5 op n v name ks k rs=if fe rs=0 then (if (o8 op v (rs.map Prod.fst)).2 then ((o8 op v (rs.map Prod.fst)).1,0) else (0,7)) else (0,fe rs):=by
 have hc:=B01 (B0n h)
 unfold R5
 have:(S2 op k).2=true:=by
  unfold S2
  repeat' split
  all_goals first|rfl|omega
 rw[this,h,if_neg (by simp),if_neg (by simp),if_neg h2]
theorem C1l(ks:List Int)(hks:ks.length<=1048576)(dk:D)(hdk:B8 dk (A0 ks)):∀e:Ex,e.bk<=1048576->Pure Tryz.prog A9d [e.av,.d dk] (.tup [.d (eI (F6 ks e).1),.d (eI (F6 ks e).2)]):=by
 refine Ex.ind λop n v name nl args ih hbk=>?_
 obtain⟨b1,b2,b3,b4⟩:=Ex.bk_bounds hbk
 have ih':∀a∈args,Pure Tryz.prog A9d [a.av,.d dk] (.tup [.d (eI (F6 ks a).1),.d (eI (F6 ks a).2)]):=λa ha=>ih a ha (b4 a ha)
 clear ih
 rw[Ex.av_mk,A0D]
 refine C3t.go A6 rfl ?_
 have hlen:=I6 args
 have hF:=C1n op n v name (ng nl (xL args)) (xL args) p8 b2 (by omega)
 rw[hlen] at hF
 have hC:=B1H op args.length
 have hm:=O7 args
 have hd:B8 (ng nl (xL args)) (xL args):=p8
 have hget:∀(i:Nat) (op' n':Int) (v':Vl) (name':List UInt8) (nl':Bool) (args':List Ex),args[i]?=some (.mk op' n' v' name' nl' args')->(xL args)[i]?=some (W0 op' n' v' name' (ng nl' (xL args'))):=λi op' n' v' name' nl' args' h=>by
  rw[<- Ex.ds_mk];exact r8 h
 obtain⟨d,hde⟩:∃d,d=ng nl (xL args):=⟨_,rfl⟩
 rw[<- hde] at hF hd ⊢
 obtain⟨es,hes⟩:∃es,es=xL args:=⟨_,rfl⟩
 rw[<- hes] at hlen hm hd hget
 rw[<- hlen] at hC
 obtain⟨rs,hrs⟩:∃rs,rs=args.map (F6 ks):=⟨_,rfl⟩
 have hrl:rs.length=args.length:=by rw[hrs,D5]
 have hrg:∀(i:Nat) (x:Ex),args[i]?=some x->rs[i]?=some (F6 ks x):=λi x h=>by rw[hrs,G4,h];rfl
 rw[<- hrs]
 cases hk:(S2 op args.length).2 with
 |false=>
  have e:R5 op n v name ks args.length rs=(0,7):=by unfold R5;rw[hk,if_pos rfl]
  rw[e]
  rw[hlen,hk,<- hlen] at hC
  repeat' first|refine st ?_|((with_reducible first|apply A8|apply A7);(·exact hC))|(with_reducible first|apply A5|apply A4)<;>intro _
  all_goals rfl
 |true=>
 rw[hlen,hk,<- hlen] at hC
 cases hf:L9 op n v name args.length with
 |false=>
  have e:R5 op n v name ks args.length rs=(0,8):=by unfold R5;rw[hk,if_neg (by simp),hf,if_pos rfl]
  rw[e]
  rw[hf] at hF
  repeat' first|refine st ?_|((with_reducible first|apply A8|apply A7);(·first|exact hC|exact hF))|(with_reducible first|apply A5|apply A4)<;>intro _
  all_goals rfl
 |true=>
 rw[hf] at hF
 have hkl:=B7 ks
 have hkm:=D3 ks
 by_cases h2:op=2
 ·subst h2
  by_cases hn:0<=n/\n<ks.length
  ·have e:R5 2 n v name ks args.length rs=(ks.getD n.toNat 0,0):=by unfold R5;rw[hk,if_neg (by simp),hf,if_neg (by simp),if_pos rfl,if_pos hn]
   rw[e]
   obtain⟨n1,n2⟩:=hn
   have hx:ks[n.toNat]?=some (ks.getD n.toNat 0):=by
    rw[E7,C8 (by omega)];rfl
   have hg:=N4 hx
   have n3:n<(A0 ks).length:=by omega
   repeat' first|refine st ?_|((with_reducible first|apply A8|apply A7);(·first|exact hC|exact hF))|(with_reducible first|apply A5|apply A4)<;>intro _
   all_goals rfl
  ·have e:R5 2 n v name ks args.length rs=(0,13):=by unfold R5;rw[hk,if_neg (by simp),hf,if_neg (by simp),if_pos rfl,if_neg hn]
   rw[e]
   by_cases hn0:n<0
   ·repeat' first|refine st ?_|((with_reducible first|apply A8|apply A7);(·first|exact hC|exact hF))|(with_reducible first|apply A5|apply A4)<;>intro _
    all_goals rfl
   ·have n3:(A0 ks).length<=n:=by omega
    repeat' first|refine st ?_|((with_reducible first|apply A8|apply A7);(·first|exact hC|exact hF))|(with_reducible first|apply A5|apply A4)<;>intro _
    all_goals rfl
 have hq:=B70 (ks:=ks) (rs:=rs) hf h2
 obtain⟨q,hqe⟩:∃q,q=R5 op n v name ks args.length rs:=⟨_,rfl⟩
 rw[<- hqe] at hq ⊢
 have hcnt:=B01 (B0n hf)
 repeat' first|refine st ?_|((with_reducible first|apply A8|apply A7);(·first|exact hC|exact hF))|(with_reducible first|apply A5|apply A4)<;>intro _
 refine A1t 8 1 rfl rfl ?_
 repeat' first|refine st ?_|(with_reducible first|apply A5|apply A4)<;>intro _
 refine J1 A6 C63 C59 (λ(i:Nat) (w:List (List D)×Bool)=>[.arr 1 w.1.length,.d (eI i)]) (λi w=>[.cells [.d (eI op),.d (eI n),.d (eI v.k),.d (eI v.n),.d (.str v.s),.d (.str name),.d d],.arr w.1 1 0 w.2]) (λi w=>i<=args.length/\w.1=Kv rs i/\w.2=w.1.isEmpty/\fe rs=fe (rs.drop i)) (λi _=>args.length-i) 0 ([],true) rfl rfl rfl rfl (λ_ _ _=>⟨rfl,rfl⟩) rfl ⟨by omega,rfl,rfl,rfl⟩ ?_
 repeat' first|refine st ?_|(with_reducible first|apply A5|apply A4)<;>intro _
 intro i w ⟨h4,h5,h6,h7⟩
 obtain⟨A,b⟩:=w
 dsimp only at h5 h6 h7 ⊢
 have hAl:A.length=i:=by rw[h5];exact B4A rs i (by omega)
 have hAm:∀e∈A,e.length=1:=by rw[h5];exact D3 _
 cases hx:args[i]? with
 |some x=>
  have hlt:=(B3.1 hx).1
  have hI:=ih' x (C4 hx)
  have hr:=hrg i x hx
  have hs:=B4B hr
  rw[B7x hr] at h7
  rw[<- h5] at hs
  obtain⟨⟨k,er⟩,hke⟩:∃ke,ke=F6 ks x:=⟨_,rfl⟩
  rw[<- hke] at hI hs h7
  obtain⟨op',n',v',name',nl',args'⟩:=x
  rw[Ex.av_mk] at hI
  have hg:=hget i _ _ _ _ _ _ hx
  by_cases her:er=0
  ·rw[if_pos her] at h7
   repeat' first|refine st ?_|((with_reducible first|apply A8|apply A7);(·exact hI))|(with_reducible first|apply A5|apply A4)<;>intro _
   exact⟨i+1,(A++[[eI k]],false),rfl,rfl,rfl,by omega,by omega,hs,by simp,h7⟩
  ·rw[if_neg her] at h7
   dsimp only at h7
   rw[h7,if_neg her] at hq
   rw[hq]
   repeat' first|refine st ?_|((with_reducible first|apply A8|apply A7);(·exact hI))|(with_reducible first|apply A5|apply A4)<;>intro _
   all_goals rfl
 |none=>
  have hge:=D8.1 hx
  rw[Y2 (by omega)] at h7
  rw[h7,if_pos (show fe []=0 from rfl)] at hq
  rw[B4z (by omega)] at h5
  clear hrg
  obtain⟨l,hl⟩:∃l,l=rs.map Prod.fst:=⟨_,rfl⟩
  have hll:l.length=args.length:=by rw[hl,D5,hrl]
  rw[<- hl] at h5 hq
  have h22:op=22->1<=l.length:=λe=>by omega
  obtain⟨⟨kr,br⟩,hre⟩:∃r,r=o8 op v l:=⟨_,rfl⟩
  cases b with
  |true=>
   have hA0:A=[]:=by simpa using h6
   subst hA0
   have hR:=B1J op n v name d l (by omega) .nil (.inl ⟨rfl,h5.symm⟩) h22
   rw[<- hre] at hR hq
   rw[hq]
   cases br with
   |true=>
    repeat' first|refine st ?_|((with_reducible first|apply A8|apply A7);(·exact hR))|(with_reducible first|apply A5|apply A4)<;>intro _
    all_goals rfl
   |false=>
    repeat' first|refine st ?_|((with_reducible first|apply A8|apply A7);(·exact hR))|(with_reducible first|apply A5|apply A4)<;>intro _
    all_goals rfl
  |false=>
   have hR:=B1J op n v name d l (by omega) (.sl (A0 l)) O6 h22
   rw[<- hre,<- h5] at hR
   rw[<- hre] at hq
   rw[hq]
   cases br with
   |true=>
    repeat' first|refine st ?_|((with_reducible first|apply A8|apply A7);(·exact hR))|(with_reducible first|apply A5|apply A4)<;>intro _
    all_goals rfl
   |false=>
    repeat' first|refine st ?_|((with_reducible first|apply A8|apply A7);(·exact hR))|(with_reducible first|apply A5|apply A4)<;>intro _
    all_goals rfl
theorem C1i(ks:List Int)(hks:ks.length<=1048576)(dk:D)(hdk:B8 dk (A0 ks))(e:Ex)(he:e.bk<=1048576):Pure Tryz.prog B5E [e.av,.d dk] (.tup [.d (eI (if 24<L8 e then (0,26) else F6 ks e).1),.d (eI (if 24<L8 e then ((0,26):Int×Int) else F6 ks e).2)]):=by
 have hD:=C1k e he
 have hC:=C1l ks hks dk hdk e he
 obtain⟨kr,hre⟩:∃r,r=F6 ks e:=⟨_,rfl⟩
 obtain⟨dp,hdp⟩:∃dp,dp=L8 e:=⟨_,rfl⟩
 rw[<- hre] at hC ⊢
 rw[<- hdp] at hD ⊢
 obtain⟨op,n,v,name,nl,args⟩:=e
 rw[Ex.av_mk] at hC hD ⊢
 refine C3l.go A6 rfl ?_
 by_cases h:24<dp
 ·rw[if_pos h]
  have h2:(24:Int)<((min 25 dp:Nat):Int):=by omega
  repeat' first|refine st ?_|((with_reducible first|apply A8|apply A7);(·first|exact hD|exact hC))|(with_reducible first|apply A5|apply A4)<;>intro _
  all_goals rfl
 ·rw[if_neg h]
  have h2:((min 25 dp:Nat):Int)<=24:=by omega
  repeat' first|refine st ?_|((with_reducible first|apply A8|apply A7);(·first|exact hD|exact hC))|(with_reducible first|apply A5|apply A4)<;>intro _
  all_goals rfl
end Go.Proofs
end
section
namespace Go.Proofs
open Go.Bi
theorem C1B(ks:List Int)(hks:ks.length<=1048576)(dk:D)(hdk:B8 dk (A0 ks)):∀e:Ex,e.bk<=1048576->Pure Tryz.prog A94 [e.av,.d dk] (.tup [.d (eI (F6 ks e).1),.d (eI (F6 ks e).2)]):=by
 refine Ex.ind λop n v name nl args ih hbk=>?_
 obtain⟨b1,b2,b3,b4⟩:=Ex.bk_bounds hbk
 have ih':∀a∈args,Pure Tryz.prog A94 [a.av,.d dk] (.tup [.d (eI (F6 ks a).1),.d (eI (F6 ks a).2)]):=λa ha=>ih a ha (b4 a ha)
 clear ih
 rw[Ex.av_mk,A0D]
 refine C2U.go A6 rfl ?_
 have hlen:=I6 args
 have hF:=C1z op n v name (ng nl (xL args)) (xL args) p8 b2 (by omega)
 rw[hlen] at hF
 have hC:=B1S op
 have hac:=(B6z op args.length (by omega)).2
 have hm:=O7 args
 have hd:B8 (ng nl (xL args)) (xL args):=p8
 have hget:∀(i:Nat) (op' n':Int) (v':Vl) (name':List UInt8) (nl':Bool) (args':List Ex),args[i]?=some (.mk op' n' v' name' nl' args')->(xL args)[i]?=some (W0 op' n' v' name' (ng nl' (xL args'))):=λi op' n' v' name' nl' args' h=>by
  rw[<- Ex.ds_mk];exact r8 h
 obtain⟨d,hde⟩:∃d,d=ng nl (xL args):=⟨_,rfl⟩
 rw[<- hde] at hF hd ⊢
 obtain⟨es,hes⟩:∃es,es=xL args:=⟨_,rfl⟩
 rw[<- hes] at hlen hm hd hget
 obtain⟨rs,hrs⟩:∃rs,rs=args.map (F6 ks):=⟨_,rfl⟩
 have hrl:rs.length=args.length:=by rw[hrs,D5]
 have hrg:∀(i:Nat) (x:Ex),args[i]?=some x->rs[i]?=some (F6 ks x):=λi x h=>by rw[hrs,G4,h];rfl
 rw[<- hrs]
 cases hk:(S2 op args.length).2 with
 |false=>
  have e:R5 op n v name ks args.length rs=(0,7):=by unfold R5;rw[hk,if_pos rfl]
  rw[e]
  rw[hk] at hac
  have hac:(j9 op).1<0:=by
   have:=of_decide_eq_false hac.symm
   omega
  repeat' first|refine st ?_|((with_reducible first|apply A8|apply A7);(·exact hC))|(with_reducible first|apply A5|apply A4)<;>intro _
  all_goals rfl
 |true=>
 rw[hk] at hac
 have hac:¬(j9 op).1<0:=of_decide_eq_true hac.symm
 cases hf:L9 op n v name args.length with
 |false=>
  have e:R5 op n v name ks args.length rs=(0,8):=by unfold R5;rw[hk,if_neg (by simp),hf,if_pos rfl]
  rw[e]
  rw[hf] at hF
  repeat' first|refine st ?_|((with_reducible first|apply A8|apply A7);(·first|exact hC|exact hF))|(with_reducible first|apply A5|apply A4)<;>intro _
  all_goals rfl
 |true=>
 rw[hf] at hF
 have hkl:=B7 ks
 have hkm:=D3 ks
 have hcnt:=B01 (B0n hf)
 obtain⟨q,hqe⟩:∃q,q=R5 op n v name ks args.length rs:=⟨_,rfl⟩
 rw[<- hqe]
 have hq2:op=2->q=if 0<=n/\n<ks.length then (ks.getD n.toNat 0,0) else (0,13):=λh2=>by
  rw[hqe];unfold R5;rw[hk,if_neg (by simp),hf,if_neg (by simp),if_pos h2]
 have hqo:op≠2->_:=λh2=>hqe.trans (B70 hf h2)
 clear hqe
 by_cases h2:op=2
 ·have hq:=hq2 h2
  subst h2
  by_cases hn:0<=n/\n<ks.length
  ·rw[if_pos hn] at hq
   obtain⟨n1,n2⟩:=hn
   have hx:ks[n.toNat]?=some (ks.getD n.toNat 0):=by
    rw[E7,C8 (by omega)];rfl
   have n3:n<(A0 ks).length:=by omega
   have n4:¬(A0 ks).length<=n:=by omega
   have ha0:args=[]:=A2M.1 (by omega)
   subst ha0
   have hR:=C1E n v name d [] ks (.sl (A0 [])) O6 dk hdk _ n1 hx
   have hlen0:es.length=0:=hlen
   have hes0:es=[]:=A2M.1 hlen0
   rw[hq]
   obtain⟨z,hz⟩:∃z,z=ks.getD n.toNat 0:=⟨_,rfl⟩
   rw[<- hz] at hR ⊢
   repeat' first|refine st ?_|((with_reducible first|apply A8|apply A7);(·first|exact hC|exact hF))|(with_reducible first|apply A5|apply A4)<;>intro _
   refine F7 A6 B4R B4G (λ(i:Nat)=>[.arr 1 0,.d (eI i)]) (λi=>[.cells [.d (eI 2),.d (eI n),.d (eI v.k),.d (eI v.n),.d (.str v.s),.d (.str name),.d d],.arr [] 1 0 false]) (λi=>i=0) (λi=>0) 0 rfl rfl rfl rfl (λ_ _=>⟨rfl,rfl⟩) rfl rfl ?_
   repeat' first|refine st ?_|(with_reducible first|apply A5|apply A4)<;>intro _
   intro i hi
   subst hi
   have h0:es.length<=((0:Nat):Int):=by omega
   have h00:([]:List (List D)).length=0:=rfl
   have hm0:∀e∈([]:List (List D)),e.length=1:=by intro e he;cases he
   repeat' first|refine st ?_|((with_reducible first|apply A8|apply A7);(·exact hR))|(with_reducible first|apply A5|apply A4)<;>intro _
   all_goals rfl
  ·rw[if_neg hn] at hq
   rw[hq]
   by_cases hn0:n<0
   ·repeat' first|refine st ?_|((with_reducible first|apply A8|apply A7);(·first|exact hC|exact hF))|(with_reducible first|apply A5|apply A4)<;>intro _
    all_goals rfl
   ·have n3:(A0 ks).length<=n:=by omega
    repeat' first|refine st ?_|((with_reducible first|apply A8|apply A7);(·first|exact hC|exact hF))|(with_reducible first|apply A5|apply A4)<;>intro _
    all_goals rfl
 have hq:=hqo h2
 repeat' first|refine st ?_|((with_reducible first|apply A8|apply A7);(·first|exact hC|exact hF))|(with_reducible first|apply A5|apply A4)<;>intro _
 refine J1 A6 B4R B4G (λ(i:Nat) (A:List (List D))=>[.arr 1 A.length,.d (eI i)]) (λi A=>[.cells [.d (eI op),.d (eI n),.d (eI v.k),.d (eI v.n),.d (.str v.s),.d (.str name),.d d],.arr A 1 0 false]) (λi A=>i<=args.length/\A=Kv rs i/\fe rs=fe (rs.drop i)) (λi _=>args.length-i) 0 [] rfl rfl rfl rfl (λ_ _ _=>⟨rfl,rfl⟩) rfl ⟨by omega,rfl,rfl⟩ ?_
 repeat' first|refine st ?_|(with_reducible first|apply A5|apply A4)<;>intro _
 intro i A ⟨h4,h5,h7⟩
 have hAl:A.length=i:=by rw[h5];exact B4A rs i (by omega)
 have hAm:∀e∈A,e.length=1:=by rw[h5];exact D3 _
 cases hx:args[i]? with
 |some x=>
  have hlt:=(B3.1 hx).1
  have hI:=ih' x (C4 hx)
  have hr:=hrg i x hx
  have hs:=B4B hr
  rw[B7x hr] at h7
  rw[<- h5] at hs
  obtain⟨⟨k,er⟩,hke⟩:∃ke,ke=F6 ks x:=⟨_,rfl⟩
  rw[<- hke] at hI hs h7
  obtain⟨op',n',v',name',nl',args'⟩:=x
  rw[Ex.av_mk] at hI
  have hg:=hget i _ _ _ _ _ _ hx
  by_cases her:er=0
  ·rw[if_pos her] at h7
   repeat' first|refine st ?_|((with_reducible first|apply A8|apply A7);(·exact hI))|(with_reducible first|apply A5|apply A4)<;>intro _
   exact⟨i+1,A++[[eI k]],rfl,rfl,rfl,by omega,by omega,hs,h7⟩
  ·rw[if_neg her] at h7
   dsimp only at h7
   rw[h7,if_neg her] at hq
   rw[hq]
   repeat' first|refine st ?_|((with_reducible first|apply A8|apply A7);(·exact hI))|(with_reducible first|apply A5|apply A4)<;>intro _
   all_goals rfl
 |none=>
  have hge:=D8.1 hx
  rw[Y2 (by omega)] at h7
  rw[h7,if_pos (show fe []=0 from rfl)] at hq
  rw[B4z (by omega)] at h5
  clear hrg
  obtain⟨l,hl⟩:∃l,l=rs.map Prod.fst:=⟨_,rfl⟩
  have hll:l.length=args.length:=by rw[hl,D5,hrl]
  rw[<- hl] at h5 hq
  have h22:op=22->1<=l.length:=λe=>by omega
  obtain⟨⟨kr,br⟩,hre⟩:∃r,r=o8 op v l:=⟨_,rfl⟩
  have hR:=C1D op n v name d l (by omega) (.sl (A0 l)) O6 dk h22 (by omega) h2
  rw[<- hre,<- h5] at hR
  rw[<- hre] at hq
  rw[hq]
  cases br with
  |true=>
   repeat' first|refine st ?_|((with_reducible first|apply A8|apply A7);(·exact hR))|(with_reducible first|apply A5|apply A4)<;>intro _
   all_goals rfl
  |false=>
   repeat' first|refine st ?_|((with_reducible first|apply A8|apply A7);(·exact hR))|(with_reducible first|apply A5|apply A4)<;>intro _
   all_goals rfl
theorem C1x(ks:List Int)(hks:ks.length<=1048576)(dk:D)(hdk:B8 dk (A0 ks))(e:Ex)(he:e.bk<=1048576):Pure Tryz.prog B59 [e.av,.d dk] (.tup [.d (eI (if 24<L8 e then (0,26) else F6 ks e).1),.d (eI (if 24<L8 e then ((0,26):Int×Int) else F6 ks e).2)]):=by
 have hD:=C1C e he
 have hC:=C1B ks hks dk hdk e he
 obtain⟨kr,hre⟩:∃r,r=F6 ks e:=⟨_,rfl⟩
 obtain⟨dp,hdp⟩:∃dp,dp=L8 e:=⟨_,rfl⟩
 rw[<- hre] at hC ⊢
 rw[<- hdp] at hD ⊢
 obtain⟨op,n,v,name,nl,args⟩:=e
 rw[Ex.av_mk] at hC hD ⊢
 refine C2O.go A6 rfl ?_
 by_cases h:24<dp
 ·rw[if_pos h]
  have h2:(24:Int)<(dp:Int):=by omega
  repeat' first|refine st ?_|((with_reducible first|apply A8|apply A7);(·first|exact hD|exact hC))|(with_reducible first|apply A5|apply A4)<;>intro _
  all_goals rfl
 ·rw[if_neg h]
  have h2:(dp:Int)<=24:=by omega
  repeat' first|refine st ?_|((with_reducible first|apply A8|apply A7);(·first|exact hD|exact hC))|(with_reducible first|apply A5|apply A4)<;>intro _
  all_goals rfl
end Go.Proofs
end
section
namespace Go.Proofs
open Go.Bi
def A17(ks:List Int)(e:Ex):Int×Int:=if 24<L8 e then (0,26) else F6 ks e
def A0b(ks:List Int)(e:Ex):Int:=if (A17 ks e).2=0 then (if (A17 ks e).1=3\/(A17 ks e).1=0 then 0 else 7) else (A17 ks e).2
def t6(ks:List Int):List Ex->Int
 |[]=>0
 |e::r=>if A0b ks e=0 then t6 ks r else A0b ks e
def A16(ks:List Int)(l:List Ex):Int:=if l.length<=4 then t6 ks l else 5
theorem B6X{ks:List Int}{l:List Ex}{i:Nat}{e:Ex}(h:l[i]?=some e):t6 ks (l.drop i)=if A0b ks e=0 then t6 ks (l.drop (i+1)) else A0b ks e:=by
 obtain⟨hlt,he⟩:=B3.1 h
 rw[S5 hlt,he];rfl
theorem m4{args:List Ex}(i:Nat)(op' n':Int)(v':Vl)(name':List UInt8)(nl':Bool)(args':List Ex)(h:args[i]?=some (.mk op' n' v' name' nl' args')):(xL args)[i]?=some (W0 op' n' v' name' (ng nl' (xL args'))):=by
 rw[<- Ex.ds_mk];exact r8 h
theorem C28(n:List UInt8)(l:List Co)(hl:l.length<=1048576)(dc dk df dx:D)(hc:B8 dc (B2 l))(xs:List Ex)(hxs:xs.length<=1048576)(hxb:∀e∈xs,e.bk<=1048576)(hdx:B8 dx (xL xs)):Pure Tryz.prog A7b [eT n dc dk df dx] (.d (eI (A16 (kd l) xs))):=by
 refine C3P.go A6 rfl ?_
 have h1:=I6 xs
 have hm:=O7 xs
 have hK:=A6J n l hl dc dk df dx hc
 unfold A16
 by_cases h0:xs.length<=4
 rotate_left
 ·rw[if_neg h0]
  repeat' first|refine st ?_|(with_reducible first|apply A5|apply A4)<;>intro _
  all_goals first|rfl|(exfalso;omega)
 rw[if_pos h0]
 obtain⟨q,hq⟩:∃q,q=t6 (kd l) xs:=⟨_,rfl⟩
 rw[<- hq]
 repeat' first|refine st ?_|(with_reducible first|apply A5|apply A4)<;>intro _
 refine F7 A6 C6e C5k (λ(i:Nat)=>[.d (eI i)]) (λi=>[.cells [.d (.str n),.d dc,.d dk,.d df,.d dx]]) (λi=>i<=xs.length/\q=t6 (kd l) (xs.drop i)) (λi=>xs.length-i) 0 rfl rfl rfl rfl (λ_ _=>⟨rfl,rfl⟩) rfl ⟨by omega,hq⟩ ?_
 repeat' first|refine st ?_|(with_reducible first|apply A5|apply A4)<;>intro _
 intro i ⟨h4,h5⟩
 cases hx:xs[i]? with
 |some e=>
  have hlt:=(B3.1 hx).1
  have hE:=C1i (kd l) (by rw[O3];exact hl) (kdD l) (A7L l) e (hxb e (C4 hx))
  rw[B6X hx] at h5
  unfold A0b at h5
  obtain⟨⟨k,er⟩,hr⟩:∃r,r=A17 (kd l) e:=⟨_,rfl⟩
  rw[<- hr] at h5
  unfold A17 at hr
  rw[<- hr] at hE
  dsimp only at h5 hE
  obtain⟨op',n',v',name',nl',args'⟩:=e
  rw[Ex.av_mk] at hE
  have hg:=m4 i _ _ _ _ _ _ hx
  obtain⟨z,hz⟩:∃z,z=(if er=0 then (if k=3\/k=0 then (0:Int) else 7) else er):=⟨_,rfl⟩
  rw[<- hz] at h5
  by_cases he:er=0
  ·rw[if_pos he] at hz
   by_cases h3:k=3
   ·rw[if_pos (Or.inl h3)] at hz
    rw[if_pos hz] at h5
    repeat' first|refine st ?_|((with_reducible first|apply A8|apply A7);(·first|exact hK|exact hE))|(with_reducible first|apply A5|apply A4)<;>intro _
    exact⟨i+1,rfl,rfl,rfl,by omega,by omega,h5⟩
   ·by_cases h00:k=0
    ·rw[if_pos (Or.inr h00)] at hz
     rw[if_pos hz] at h5
     repeat' first|refine st ?_|((with_reducible first|apply A8|apply A7);(·first|exact hK|exact hE))|(with_reducible first|apply A5|apply A4)<;>intro _
     exact⟨i+1,rfl,rfl,rfl,by omega,by omega,h5⟩
    ·rw[if_neg (by omega)] at hz
     rw[if_neg (by omega),hz] at h5
     rw[h5]
     repeat' first|refine st ?_|((with_reducible first|apply A8|apply A7);(·first|exact hK|exact hE))|(with_reducible first|apply A5|apply A4)<;>intro _
     all_goals rfl
  ·rw[if_neg he] at hz
   rw[if_neg (by omega),hz] at h5
   rw[h5]
   repeat' first|refine st ?_|((with_reducible first|apply A8|apply A7);(·first|exact hK|exact hE))|(with_reducible first|apply A5|apply A4)<;>intro _
   all_goals rfl
 |none=>
  have hge:=D8.1 hx
  rw[Y2 hge] at h5
  rw[h5]
  repeat' first|refine st ?_|(with_reducible first|apply A5|apply A4)<;>intro _
  all_goals rfl
end Go.Proofs
end
section
namespace Go.Proofs
open Go.Bi
structure Tb where
 nm:List UInt8
 cs:List Co
 ks:List Int
 fs:List Fo
 xs:List Ex
structure M6(t:Tb)(dc dk df dx:D):Prop where
 hn:t.nm.length<=1048576
 hl:t.cs.length<=1048576
 hls:∀c∈t.cs,c.nm.length<=1048576
 hk:t.ks.length<=1048576
 hfl:t.fs.length<=1048576
 hfc:∀f∈t.fs,f.cs.length<=1048576/\f.tb.length<=1048576
 hxs:t.xs.length<=1048576
 hxb:∀e∈t.xs,e.bk<=1048576
 dc:B8 dc (B2 t.cs)
 dk:B8 dk (A0 t.ks)
 df:B8 df (H6 t.fs)
 dx:B8 dx (xL t.xs)
def A19(t:Tb):Int:=if t.fs.length<=4 then (if V5 t.cs.length t.fs=0 then A16 (kd t.cs) t.xs else V5 t.cs.length t.fs) else 5
theorem C9R(t:Tb):A19 t=if A49 t.cs.length t.fs=0 then A16 (kd t.cs) t.xs else A49 t.cs.length t.fs:=by
 unfold A19 A49
 by_cases h:t.fs.length<=4
 ·rw[if_pos h,if_pos h]
 ·rw[if_neg h,if_neg h,if_neg (by decide)]
def K8(t:Tb):Int:=if K7 t.nm then (if t8 t.cs=0 then (if A0i t.cs t.ks=0 then A19 t else A0i t.cs t.ks) else t8 t.cs) else 1
theorem C1H(t:Tb)(dc dk df dx:D)(h:M6 t dc dk df dx):Pure Tryz.prog B5j [eT t.nm dc dk df dx] (.d (eI (A19 t))):=by
 obtain⟨n,l,ks,fs,xs⟩:=t
 obtain⟨hn,hl,hls,hk,hfl,hfc,hxs,hxb,hc,hdk,hdf,hdx⟩:=h
 dsimp only at hn hl hls hk hfl hfc hxs hxb hc hdk hdf hdx ⊢
 refine C34.go A6 rfl ?_
 have h1:=A1M fs
 have hm:=A36 fs
 have h2:=I6 xs
 have hm2:=O7 xs
 have hK:=A4I n l hl dc dk df dx hc
 unfold A19
 dsimp only
 by_cases h0:fs.length<=4
 rotate_left
 ·rw[if_neg h0]
  repeat' first|refine st ?_|(with_reducible first|apply A5|apply A4)<;>intro _
  all_goals first|rfl|(exfalso;omega)
 rw[if_pos h0]
 obtain⟨q,hq⟩:∃q,q=(if V5 l.length fs=0 then A16 (kd l) xs else V5 l.length fs):=⟨_,rfl⟩
 rw[<- hq]
 repeat' first|refine st ?_|(with_reducible first|apply A5|apply A4)<;>intro _
 refine F7 A6 C5K C4Q (λ(i:Nat)=>[.d (eI i)]) (λi=>[.cells [.d (.str n),.d dc,.d dk,.d df,.d dx]]) (λi=>i<=fs.length/\V5 l.length fs=V5 l.length (fs.drop i)) (λi=>fs.length-i) 0 rfl rfl rfl rfl (λ_ _=>⟨rfl,rfl⟩) rfl ⟨by omega,rfl⟩ ?_
 repeat' first|refine st ?_|(with_reducible first|apply A5|apply A4)<;>intro _
 intro i ⟨h4,h5⟩
 cases hx:fs[i]? with
 |some f=>
  have hlt:=(B3.1 hx).1
  have hg:=A40 hx
  obtain⟨hf,hft⟩:=hfc f (C4 hx)
  have hF:=C1I n l hl dc dk df dx hc f hf hft
  rw[B7W hx] at h5
  obtain⟨e,he⟩:∃e,e=A0f l.length f:=⟨_,rfl⟩
  rw[<- he] at h5 hF
  obtain⟨fd,hfd⟩:∃fd,fd=f.d:=⟨_,rfl⟩
  have hg:(H6 fs)[i]?=some [fd,.str f.tb]:=by rw[hfd];exact hg
  rw[<- hfd] at hF
  by_cases h0:e=0
  ·rw[if_pos h0] at h5
   repeat' first|refine st ?_|((with_reducible first|apply A8|apply A7);(·exact hF))|(with_reducible first|apply A5|apply A4)<;>intro _
   exact⟨i+1,rfl,rfl,rfl,by omega,by omega,h5⟩
  ·rw[if_neg h0] at h5
   rw[h5,if_neg h0] at hq
   rw[hq]
   repeat' first|refine st ?_|((with_reducible first|apply A8|apply A7);(·exact hF))|(with_reducible first|apply A5|apply A4)<;>intro _
   all_goals rfl
 |none=>
  have hge:=D8.1 hx
  rw[Y2 hge] at h5
  have h5:V5 l.length fs=0:=h5
  rw[if_pos h5] at hq
  unfold A16 at hq
  by_cases h0:xs.length<=4
  rotate_left
  ·rw[if_neg h0] at hq
   rw[hq]
   repeat' first|refine st ?_|(with_reducible first|apply A5|apply A4)<;>intro _
   all_goals first|rfl|(exfalso;omega)
  rw[if_pos h0] at hq
  repeat' first|refine st ?_|(with_reducible first|apply A5|apply A4)<;>intro _
  refine F7 A6 C5L C4R (λ(i:Nat)=>[.d (eI i)]) (λi=>[.cells [.d (.str n),.d dc,.d dk,.d df,.d dx]]) (λi=>i<=xs.length/\q=t6 (kd l) (xs.drop i)) (λi=>xs.length-i) 0 rfl rfl rfl rfl (λ_ _=>⟨rfl,rfl⟩) rfl ⟨by omega,hq⟩ ?_
  repeat' first|refine st ?_|(with_reducible first|apply A5|apply A4)<;>intro _
  intro i ⟨h4,h5⟩
  cases hx:xs[i]? with
  |some e=>
   have hlt:=(B3.1 hx).1
   have hE:=C1x (kd l) (by rw[O3];exact hl) (.sl (A0 (kd l))) (.inr rfl) e (hxb e (C4 hx))
   rw[B6X hx] at h5
   unfold A0b at h5
   obtain⟨⟨k,er⟩,hr⟩:∃r,r=A17 (kd l) e:=⟨_,rfl⟩
   rw[<- hr] at h5
   unfold A17 at hr
   rw[<- hr] at hE
   dsimp only at h5 hE
   obtain⟨op',n',v',name',nl',args'⟩:=e
   rw[Ex.av_mk] at hE
   have hg:=m4 i _ _ _ _ _ _ hx
   obtain⟨z,hz⟩:∃z,z=(if er=0 then (if k=3\/k=0 then (0:Int) else 7) else er):=⟨_,rfl⟩
   rw[<- hz] at h5
   by_cases he:er=0
   ·rw[if_pos he] at hz
    by_cases h3:k=3
    ·rw[if_pos (Or.inl h3)] at hz
     rw[if_pos hz] at h5
     repeat' first|refine st ?_|((with_reducible first|apply A8|apply A7);(·first|exact hK|exact hE))|(with_reducible first|apply A5|apply A4)<;>intro _
     exact⟨i+1,rfl,rfl,rfl,by omega,by omega,h5⟩
    ·by_cases h00:k=0
     ·rw[if_pos (Or.inr h00)] at hz
      rw[if_pos hz] at h5
      repeat' first|refine st ?_|((with_reducible first|apply A8|apply A7);(·first|exact hK|exact hE))|(with_reducible first|apply A5|apply A4)<;>intro _
      exact⟨i+1,rfl,rfl,rfl,by omega,by omega,h5⟩
     ·rw[if_neg (by omega)] at hz
      rw[if_neg (by omega),hz] at h5
      rw[h5]
      repeat' first|refine st ?_|((with_reducible first|apply A8|apply A7);(·first|exact hK|exact hE))|(with_reducible first|apply A5|apply A4)<;>intro _
      all_goals rfl
   ·rw[if_neg he] at hz
    rw[if_neg (by omega),hz] at h5
    rw[h5]
    repeat' first|refine st ?_|((with_reducible first|apply A8|apply A7);(·first|exact hK|exact hE))|(with_reducible first|apply A5|apply A4)<;>intro _
    all_goals rfl
  |none=>
   have hge:=D8.1 hx
   rw[Y2 hge] at h5
   rw[h5]
   repeat' first|refine st ?_|(with_reducible first|apply A5|apply A4)<;>intro _
   all_goals rfl
theorem B1V(t:Tb)(dc dk df dx:D)(h:M6 t dc dk df dx):Pure Tryz.prog A70 [eT t.nm dc dk df dx] (.d (eI (K8 t))):=by
 have h1:=A4J t.nm h.hn
 have h2:=C1G t.nm t.cs h.hl h.hls dc dk df dx h.dc
 have h3:=C1K t.nm t.cs h.hl dc dk df dx h.dc t.ks h.hk h.dk
 have h4:=C1H t dc dk df dx h
 refine C2X.go A6 rfl ?_
 unfold K8
 cases hv:K7 t.nm with
 |false=>
  rw[hv] at h1
  rw[if_neg (by simp)]
  repeat' first|refine st ?_|((with_reducible first|apply A8|apply A7);(·exact h1))|(with_reducible first|apply A5|apply A4)<;>intro _
  all_goals rfl
 |true=>
  rw[hv] at h1
  rw[if_pos rfl]
  by_cases ha:t8 t.cs=0
  ·rw[if_pos ha]
   rw[ha] at h2
   by_cases hb:A0i t.cs t.ks=0
   ·rw[if_pos hb]
    rw[hb] at h3
    repeat' first|refine st ?_|((with_reducible first|apply A8|apply A7);(·first|exact h1|exact h2|exact h3|exact h4))|(with_reducible first|apply A5|apply A4)<;>intro _
    all_goals rfl
   ·rw[if_neg hb]
    repeat' first|refine st ?_|((with_reducible first|apply A8|apply A7);(·first|exact h1|exact h2|exact h3|exact h4))|(with_reducible first|apply A5|apply A4)<;>intro _
    all_goals rfl
  ·rw[if_neg ha]
   repeat' first|refine st ?_|((with_reducible first|apply A8|apply A7);(·first|exact h1|exact h2|exact h3|exact h4))|(with_reducible first|apply A5|apply A4)<;>intro _
   all_goals rfl
theorem B23(t:Tb)(dc dk df dx:D)(h:M6 t dc dk df dx):Pure Tryz.prog A9p [eT t.nm dc dk df dx] (.d (eI (K8 t))):=by
 have h1:=A4M t.nm h.hn
 have h2:=C29 t.nm t.cs h.hl h.hls dc dk df dx h.dc
 have h3:=C2b t.nm t.cs h.hl dc dk df dx h.dc t.ks h.hk h.dk
 have h4:=C2a t.nm t.cs h.hl t.fs h.hfl h.hfc dc dk df dx h.dc h.df
 have h5:=C28 t.nm t.cs h.hl dc dk df dx h.dc t.xs h.hxs h.hxb h.dx
 obtain⟨n,l,ks,fs,xs⟩:=t
 dsimp only at h1 h2 h3 h4 h5 ⊢
 refine C3K.go A6 rfl ?_
 unfold K8
 rw[C9R]
 dsimp only
 cases hv:K7 n with
 |false=>
  rw[hv] at h1
  rw[if_neg (by simp)]
  repeat' first|refine st ?_|((with_reducible first|apply A8|apply A7);(·exact h1))|(with_reducible first|apply A5|apply A4)<;>intro _
  all_goals rfl
 |true=>
  rw[hv] at h1
  rw[if_pos rfl]
  obtain⟨a,ha⟩:∃a,a=t8 l:=⟨_,rfl⟩
  obtain⟨b,hb⟩:∃a,a=A0i l ks:=⟨_,rfl⟩
  obtain⟨c,hc⟩:∃a,a=A49 l.length fs:=⟨_,rfl⟩
  obtain⟨d,hd⟩:∃a,a=A16 (kd l) xs:=⟨_,rfl⟩
  rw[<- ha] at h2 ⊢
  rw[<- hb] at h3 ⊢
  rw[<- hc] at h4 ⊢
  rw[<- hd] at h5 ⊢
  obtain⟨q,hq⟩:∃q,q=(if a=0 then (if b=0 then (if c=0 then d else c) else b) else a):=⟨_,rfl⟩
  rw[<- hq]
  obtain⟨A,hA⟩:∃A:List (List D),A=[[.fn A7c],[.fn A7e],[.fn A7d],[.fn A7b]]:=⟨_,rfl⟩
  have hAl:A.length=4:=by rw[hA];rfl
  repeat' first|refine st ?_|((with_reducible first|apply A8|apply A7);(·exact h1))|(with_reducible first|apply A5|apply A4)<;>intro _
  rw[<- hA]
  refine F7 A6 C6b C5h (λ(i:Nat)=>[.d (eI i)]) (λi=>[.cells [.d (.str n),.d dc,.d dk,.d df,.d dx],.arr A 1 0 false]) (λi=>i<=4/\(0<i->a=0)/\(1<i->b=0)/\(2<i->c=0)/\(3<i->d=0)) (λi=>4-i) 0 rfl rfl rfl rfl (λ_ _=>⟨rfl,rfl⟩) rfl ⟨by omega,by omega,by omega,by omega,by omega⟩ ?_
  repeat' first|refine st ?_|(with_reducible first|apply A5|apply A4)<;>intro _
  intro i ⟨g0,g1,g2,g3,g4⟩
  by_cases e4:i=4
  ·rw[if_pos (g1 (by omega)),if_pos (g2 (by omega)),if_pos (g3 (by omega)),g4 (by omega)] at hq
   rw[hq]
   repeat' first|refine st ?_|(with_reducible first|apply A5|apply A4)<;>intro _
   all_goals rfl
  by_cases e0:i=0
  ·have hg:A[i]?=some [.fn A7c]:=by rw[hA,e0];rfl
   by_cases z:a=0
   ·repeat' first|refine st ?_|((with_reducible first|apply A8|apply A7);(·exact h2))|(with_reducible first|apply A5|apply A4)<;>intro _
    exact⟨i+1,rfl,rfl,rfl,by omega,by omega,λ_=>z,by omega,by omega,by omega⟩
   ·rw[if_neg z] at hq
    rw[hq]
    repeat' first|refine st ?_|((with_reducible first|apply A8|apply A7);(·exact h2))|(with_reducible first|apply A5|apply A4)<;>intro _
    all_goals rfl
  by_cases e1:i=1
  ·have hg:A[i]?=some [.fn A7e]:=by rw[hA,e1];rfl
   rw[if_pos (g1 (by omega))] at hq
   by_cases z:b=0
   ·repeat' first|refine st ?_|((with_reducible first|apply A8|apply A7);(·exact h3))|(with_reducible first|apply A5|apply A4)<;>intro _
    exact⟨i+1,rfl,rfl,rfl,by omega,by omega,λ_=>g1 (by omega),λ_=>z,by omega,by omega⟩
   ·rw[if_neg z] at hq
    rw[hq]
    repeat' first|refine st ?_|((with_reducible first|apply A8|apply A7);(·exact h3))|(with_reducible first|apply A5|apply A4)<;>intro _
    all_goals rfl
  by_cases e2:i=2
  ·have hg:A[i]?=some [.fn A7d]:=by rw[hA,e2];rfl
   rw[if_pos (g1 (by omega)),if_pos (g2 (by omega))] at hq
   by_cases z:c=0
   ·repeat' first|refine st ?_|((with_reducible first|apply A8|apply A7);(·exact h4))|(with_reducible first|apply A5|apply A4)<;>intro _
    exact⟨i+1,rfl,rfl,rfl,by omega,by omega,λ_=>g1 (by omega),λ_=>g2 (by omega),λ_=>z,by omega⟩
   ·rw[if_neg z] at hq
    rw[hq]
    repeat' first|refine st ?_|((with_reducible first|apply A8|apply A7);(·exact h4))|(with_reducible first|apply A5|apply A4)<;>intro _
    all_goals rfl
  have e3:i=3:=by omega
  ·have hg:A[i]?=some [.fn A7b]:=by rw[hA,e3];rfl
   rw[if_pos (g1 (by omega)),if_pos (g2 (by omega)),if_pos (g3 (by omega))] at hq
   by_cases z:d=0
   ·repeat' first|refine st ?_|((with_reducible first|apply A8|apply A7);(·exact h5))|(with_reducible first|apply A5|apply A4)<;>intro _
    exact⟨i+1,rfl,rfl,rfl,by omega,by omega,λ_=>g1 (by omega),λ_=>g2 (by omega),λ_=>g3 (by omega),λ_=>z⟩
   ·rw[hq]
    repeat' first|refine st ?_|((with_reducible first|apply A8|apply A7);(·exact h5))|(with_reducible first|apply A5|apply A4)<;>intro _
    all_goals rfl
end Go.Proofs
end
