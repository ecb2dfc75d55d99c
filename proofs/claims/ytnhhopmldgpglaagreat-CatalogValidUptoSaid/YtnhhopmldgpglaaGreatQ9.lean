/- Texts of this claim, joined. No condition. -/
import Derived.Test.YtnhhopmldgpglaaGreatQ8
import Derived.Sort.Walk0
set_option linter.unusedSimpArgs false
set_option linter.unusedVariables false
set_option maxRecDepth 10000
set_option maxHeartbeats 4000000
section
namespace Go.Proofs
open Go.Bi
theorem B7y{l:List En}(h:∀e∈l,e.ok):(u7 l).ok:=by
 cases l with
 |nil=>exact w6
 |cons e r=>
  show(if H9 e.ch=true then e.cr else K4).ok
  split
  ·exact(h e (by simp)).cr
  ·exact w6
theorem B7x{l:List En}(h:∀e∈l,e.ok):∀c∈Q7 l,J1 c:=by
 intro c hc
 unfold Q7 at hc
 split at hc
 ·obtain⟨e,he,rfl⟩:=F2.1 hc
  exact(h e (List.mem_of_mem_tail he)).ch
 ·cases hc
theorem D0J(l:List En):(Q7 l).length<=l.length:=by
 unfold Q7
 split
 ·rw[D0,List.length_tail];omega
 ·simp
def C8(at':Int)(nm:List UInt8)(c:List En):List En:=c.filter (Q1 at' nm)
theorem A6b(at':Int)(nm:List UInt8)(c:List En):(C8 at' nm c).length<=c.length:=j4 ..
theorem A0r{at':Int}{nm:List UInt8}{c:List En}(h:∀e∈c,e.ok):∀e∈C8 at' nm c,e.ok:=λe he=>h e (X8.1 he).1
def I6(s:List En):TD×Nat×Bool:=if u6 s then (((u7 s).runs (Q7 s)).1,((u7 s).runs (Q7 s)).2.1,decide (((u7 s).runs (Q7 s)).2.2=0)) else (K4,0,false)
theorem A6t(c:List En)(hc:c.length<=1048576)(hok:∀e∈c,e.ok)(d:D)(hd:B5 d (C4 c))(at':Int)(nm:List UInt8) :
  Pure Tryz.prog A3w [.d d,.d (eI at'),.d (.str nm)] (.tup [(I6 (C8 at' nm c)).1.av,.d (eI ((I6 (C8 at' nm c)).2.1:Nat)),.d (.bool (I6 (C8 at' nm c)).2.2)]):=by
 have hS:=A8e A6R at' nm (Q1 at' nm) (B1f at' nm) c hc d hd
 have hsl:=A6b at' nm c
 have hso:=A0r (at':=at') (nm:=nm) hok
 rw[show c.filter (Q1 at' nm)=C8 at' nm c from rfl] at hS
 obtain⟨s,hs⟩:∃s,s=C8 at' nm c:=⟨_,rfl⟩
 rw[<- hs] at hS hsl hso ⊢
 have hH:=B0R s (by omega) (C0 (C4 s).isEmpty (C4 s)) (X5 λe=>w8.1 e)
 have hcl:=D0J s
 have hR:=C0M (u7 s) (B7y hso) (Q7 s) (by omega) (B7x hso) (C0 (P8 (Q7 s)).isEmpty (P8 (Q7 s))) (X5 λe=>w8.1 e)
 obtain⟨q,hq⟩:∃q,q=I6 s:=⟨_,rfl⟩
 rw[<- hq]
 unfold I6 at hq
 obtain⟨T,hT⟩:∃T,T=u7 s:=⟨_,rfl⟩
 rw[<- hT] at hH hR hq
 obtain⟨dl,hdl⟩:∃z,z=C0 (P8 (Q7 s)).isEmpty (P8 (Q7 s)):=⟨_,rfl⟩
 rw[<- hdl] at hH hR
 obtain⟨de,hde⟩:∃z,z=C0 (C4 s).isEmpty (C4 s):=⟨_,rfl⟩
 rw[<- hde] at hS hH
 obtain⟨⟨y,n,e⟩,hy⟩:∃z,z=T.runs (Q7 s):=⟨_,rfl⟩
 rw[<- hy] at hR hq
 dsimp only at hR hq
 clear hs hT hdl hde hy hso
 cases hb:u6 s with
 |false=>
  rw[hb] at hH hq
  rw[if_neg (by decide)] at hq
  subst hq
  obtain⟨⟨tn,cs,ks,fs,xs⟩,dc,dk,df,dx⟩:=T
  refine B1v.go A6 rfl ?_
  repeat' first|refine st ?_|((with_reducible first|apply A8|apply A7);(·first|exact hS|exact hH))|(with_reducible first|apply A5|apply A4)<;>intro _
  all_goals rfl
 |true=>
  rw[hb] at hH hq
  rw[if_pos rfl] at hq
  subst hq
  obtain⟨⟨tn,cs,ks,fs,xs⟩,dc,dk,df,dx⟩:=T
  have hR:Bi.Pure Tryz.prog A8T [eT tn dc dk df dx,.d dl] (.tup [eT y.t.nm y.dc y.dk y.df y.dx,.d (eI n),.d (eI e)]):=hR
  refine B1v.go A6 rfl ?_
  repeat' first|refine st ?_|((with_reducible first|apply A8|apply A7);(·first|exact hS|exact hH|exact hR))|(with_reducible first|apply A5|apply A4)<;>intro _
  all_goals rfl
theorem A43{s:List En}(h:∀e∈s,e.ok):(I6 s).1.ok:=by
 unfold I6
 split
 ·exact D2T (B7y h) (B7x h)
 ·exact w6
theorem A2H(c:List En)(hc:c.length<=1048576)(hok:∀e∈c,e.ok)(d:D)(hd:B5 d (C4 c))(at':Int)(nm:List UInt8) :
  Pure Tryz.prog A2M [.d d,.d (eI at'),.d (.str nm)] (if (I6 (C8 at' nm c)).2.2 then .tup [(I6 (C8 at' nm c)).1.av,.d (eI ((I6 (C8 at' nm c)).2.1:Nat)),.d (eI 0)] else .tup [K4.av,.d (eI 0),.d (eI 11)]):=by
 have hN:=A6t c hc hok d hd at' nm
 obtain⟨⟨y,n,b⟩,hq⟩:∃q,q=I6 (C8 at' nm c):=⟨_,rfl⟩
 rw[<- hq] at hN ⊢
 dsimp only at hN ⊢
 have hN:Bi.Pure Tryz.prog A3w [.d d,.d (eI at'),.d (.str nm)] (.tup [eT y.t.nm y.dc y.dk y.df y.dx,.d (eI n),.d (.bool b)]):=hN
 clear hq
 cases b with
 |false=>
  rw[if_neg (by decide)]
  refine B1s.go A6 rfl ?_
  repeat' first|refine st ?_|((with_reducible first|apply A8|apply A7);(·exact hN))|(with_reducible first|apply A5|apply A4)<;>intro _
  all_goals rfl
 |true=>
  rw[if_pos rfl]
  refine B1s.go A6 rfl ?_
  repeat' first|refine st ?_|((with_reducible first|apply A8|apply A7);(·exact hN))|(with_reducible first|apply A5|apply A4)<;>intro _
  all_goals rfl
def S2(c:List En)(at':Int):Int:=
 if at'<0\/1099511627776<=at' then 6 else match c[c.length-1]? with
  |none=>0
  |some e=>if at'<e.tm then 9 else 0
theorem A8c(c:List En)(hc:c.length<=1048576)(d:D)(hd:B5 d (C4 c))(at':Int):Pure Tryz.prog B54 [.d d,.d (eI at')] (.d (eI (S2 c at'))):=by
 have h1:=Q6 c
 have hm:=U1 c
 have hg0:=λi e=>@k7 c i e
 obtain⟨q,hq⟩:∃q,q=S2 c at':=⟨_,rfl⟩
 rw[<- hq]
 unfold S2 at hq
 obtain⟨es,hes⟩:∃es,es=C4 c:=⟨_,rfl⟩
 rw[<- hes] at h1 hm hg0 hd
 clear hes
 by_cases g1:at'<0
 ·rw[if_pos (.inl g1)] at hq
  subst hq
  refine A4E.go A6 rfl ?_
  repeat' first|refine st ?_|(with_reducible first|apply A5|apply A4)<;>intro _
  all_goals rfl
 by_cases g2:1099511627776<=at'
 ·rw[if_pos (.inr g2)] at hq
  subst hq
  refine A4E.go A6 rfl ?_
  repeat' first|refine st ?_|(with_reducible first|apply A5|apply A4)<;>intro _
  all_goals rfl
 rw[if_neg (by omega)] at hq
 cases hx:c[c.length-1]? with
 |none=>
  rw[hx] at hq
  have hge:=D1.1 hx
  dsimp only at hq
  subst hq
  have h0:es.length=0:=by omega
  refine A4E.go A6 rfl ?_
  repeat' first|refine st ?_|(with_reducible first|apply A5|apply A4)<;>intro _
  all_goals rfl
 |some e=>
  rw[hx] at hq
  dsimp only at hq
  have hlt:=(B2.1 hx).1
  have hg:es[((es.length:Int)-1).toNat]?=some e.ds:=by rw[show((es.length:Int)-1).toNat=c.length-1 by omega];exact hg0 _ e hx
  have hl:0<es.length:=by omega
  obtain⟨tm,tb,⟨⟨nm',cs,ks,fs,xs⟩,dc,dk,df,dx⟩,⟨k,cnm,to,⟨cn,ck,cl⟩,⟨vk,vn,vs⟩⟩⟩:=e
  dsimp only at hq
  by_cases g3:at'<tm
  ·rw[if_pos g3] at hq
   subst hq
   refine A4E.go A6 rfl ?_
   repeat' first|refine st ?_|(with_reducible first|apply A5|apply A4)<;>intro _
   all_goals rfl
  ·rw[if_neg g3] at hq
   subst hq
   refine A4E.go A6 rfl ?_
   repeat' first|refine st ?_|(with_reducible first|apply A5|apply A4)<;>intro _
   all_goals rfl
def p7(s:List En):TD:=s.foldl (λt e=>if H9 e.ch then e.cr else t) K4
def T6(s:List En):List Ch:=(s.filter λe=>!H9 e.ch).map En.ch
def rhB(s:List En):Bool:=s.any λe=>H9 e.ch
theorem D2X{at':Int}{nm:List UInt8}{c:List En}{i:Nat}{e:En}(h:c[i]?=some e):C8 at' nm (c.take (i+1))=C8 at' nm (c.take i)++if Q1 at' nm e then [e] else []:=A5v h
theorem B18(c:List En)(hc:c.length<=1048576)(d:D)(hd:B5 d (C4 c))(at':Int)(nm:List UInt8) :
  Pure Tryz.prog A8N [.d d,.d (eI at'),.d (.str nm)] (.tup [(p7 (C8 at' nm c)).av,.d (.sl (P8 (T6 (C8 at' nm c)))),.d (.bool (rhB (C8 at' nm c)))]):=by
 have h1:=Q6 c
 have hm:=U1 c
 have hg0:=λi e=>@k7 c i e
 obtain⟨es,hes⟩:∃es,es=C4 c:=⟨_,rfl⟩
 rw[<- hes] at h1 hm hg0 hd
 clear hes
 obtain⟨S,hS⟩:∃S,S=C8 at' nm c:=⟨_,rfl⟩
 rw[<- hS]
 refine C2E.go A6 rfl ?_
 repeat' first|refine st ?_|(with_reducible first|apply A5|apply A4)<;>intro _
 refine I8 A6 C5w C4q (λ(i:Nat) (w:List (List D)×TD×Bool)=>[.arr 2 w.1.length,.d (.bool w.2.2),.d (eI i)]) (λi w=>[.cells [.d (.str []),.d .nil,.d .nil,.d .nil,.d .nil],.cells [.d (.str w.2.1.t.nm),.d w.2.1.dc,.d w.2.1.dk,.d w.2.1.df,.d w.2.1.dx],.arr w.1 9 0 false]) (λi w=>i<=c.length/\w.1=P8 (T6 (C8 at' nm (c.take i)))/\w.2.1=p7 (C8 at' nm (c.take i))/\w.2.2=rhB (C8 at' nm (c.take i))) (λi w=>c.length-i) 0 ([],K4,false) rfl rfl rfl rfl (λ_ _ _=>⟨rfl,rfl⟩) rfl ⟨by omega,rfl,rfl,rfl⟩ ?_
 repeat' first|refine st ?_|(with_reducible first|apply A5|apply A4)<;>intro _
 intro i w ⟨g1,g2,g3,g4⟩
 obtain⟨A,T,b⟩:=w
 dsimp only at g2 g3 g4 ⊢
 have hAl:A.length<=i:=by
  rw[g2,A5p]
  unfold T6
  rw[D0]
  exact N7 (j4 ..) (N7 (A6b ..) (by rw[N6];omega))
 have hAm:∀e∈A,e.length=9:=by rw[g2];exact A7d _
 cases hx:c[i]? with
 |some e=>
  have hlt:=(B2.1 hx).1
  have hg:es[((i:Nat):Int).toNat]?=some e.ds:=hg0 i e hx
  have hil:(i:Int)<es.length:=by omega
  have hC:=A6z e
  have hs:=D2X (at':=at') (nm:=nm) hx
  have s1:A++(if Q1 at' nm e&&!H9 e.ch then [A78 e.ch] else [])=P8 (T6 (C8 at' nm (c.take (i+1)))):=by
   rw[g2,hs]
   unfold T6
   rw[A1A,s7]
   unfold P8
   rw[s7]
   congr 1
   cases Q1 at' nm e<;>cases hc:H9 e.ch<;>simp[hc]
  have s2:(if Q1 at' nm e&&H9 e.ch then e.cr else T)=p7 (C8 at' nm (c.take (i+1))):=by
   rw[g3,hs]
   unfold p7
   rw[A3r]
   cases Q1 at' nm e<;>cases hc:H9 e.ch<;>simp[hc]
  have s3:(b||(Q1 at' nm e&&H9 e.ch))=rhB (C8 at' nm (c.take (i+1))):=by
   rw[g4,hs]
   unfold rhB
   rw[List.any_append]
   cases Q1 at' nm e<;>cases hc:H9 e.ch<;>simp[hc]
  clear g2 g3 g4 hs
  unfold Q1 at s1 s2 s3
  by_cases q1:at'<e.tm
  ·rw[decide_eq_false (by omega)] at s1 s2 s3
   simp only[Bool.false_and,Bool.or_false,L8,if_false,Z6] at s1 s2 s3
   obtain⟨tm,tb,⟨⟨nm',cs,ks,fs,xs⟩,dc,dk,df,dx⟩,⟨k,cnm,to,⟨cn,ck,cl⟩,⟨vk,vn,vs⟩⟩⟩:=e
   dsimp only at q1
   repeat' first|refine st ?_|((with_reducible first|apply A8|apply A7);(·exact hC))|(with_reducible first|apply A5|apply A4)<;>intro _
   all_goals exact⟨i+1,(A,T,b),rfl,rfl,rfl,by omega,by omega,s1,s2,s3⟩
  rw[decide_eq_true (show e.tm<=at' by omega)] at s1 s2 s3
  by_cases q2:e.tb=nm
  rotate_left
  ·rw[decide_eq_false q2] at s1 s2 s3
   simp only[Bool.and_false,Bool.false_and,Bool.or_false,L8,if_false,Z6] at s1 s2 s3
   obtain⟨tm,tb,⟨⟨nm',cs,ks,fs,xs⟩,dc,dk,df,dx⟩,⟨k,cnm,to,⟨cn,ck,cl⟩,⟨vk,vn,vs⟩⟩⟩:=e
   dsimp only at q1 q2
   repeat' first|refine st ?_|((with_reducible first|apply A8|apply A7);(·exact hC))|(with_reducible first|apply A5|apply A4)<;>intro _
   all_goals exact⟨i+1,(A,T,b),rfl,rfl,rfl,by omega,by omega,s1,s2,s3⟩
  rw[decide_eq_true q2] at s1 s2 s3
  cases q3:H9 e.ch with
  |true=>
   rw[q3] at s1 s2 s3 hC
   simp only[Bool.and_true,s5,Bool.not_true,Bool.or_true,L8,if_false,if_true,Z6] at s1 s2 s3
   clear q3
   obtain⟨tm,tb,⟨⟨nm',cs,ks,fs,xs⟩,dc,dk,df,dx⟩,⟨k,cnm,to,⟨cn,ck,cl⟩,⟨vk,vn,vs⟩⟩⟩:=e
   dsimp only at q1 q2
   subst q2
   have r1:tb=tb:=rfl
   repeat' first|refine st ?_|((with_reducible first|apply A8|apply A7);(·exact hC))|(with_reducible first|apply A5|apply A4)<;>intro _
   all_goals exact⟨i+1,(A,⟨⟨nm',cs,ks,fs,xs⟩,dc,dk,df,dx⟩,true),rfl,rfl,rfl,by omega,by omega,s1,s2,s3⟩
  |false=>
   rw[q3] at s1 s2 s3 hC
   simp only[Bool.and_true,Bool.and_false,s5,Bool.not_false,Bool.or_false,L8,if_false,if_true] at s1 s2 s3
   clear q3
   obtain⟨tm,tb,⟨⟨nm',cs,ks,fs,xs⟩,dc,dk,df,dx⟩,⟨k,cnm,to,⟨cn,ck,cl⟩,⟨vk,vn,vs⟩⟩⟩:=e
   dsimp only at q1 q2
   subst q2
   have r1:tb=tb:=rfl
   repeat' first|refine st ?_|((with_reducible first|apply A8|apply A7);(·exact hC))|(with_reducible first|apply A5|apply A4)<;>intro _
   all_goals exact⟨i+1,(A++[_],T,b),rfl,rfl,rfl,by omega,by omega,s1,s2,s3⟩
 |none=>
  have hge:=D1.1 hx
  rw[L0 hge,<- hS] at g2 g3 g4
  rw[<- g2,<- g3,<- g4]
  have hil:(es.length:Int)<=i:=by omega
  clear g2 g3 g4
  repeat' first|refine st ?_|(with_reducible first|apply A5|apply A4)<;>intro _
  all_goals rfl
end Go.Proofs
end
section
namespace Go.Bi
open Go Go.Proofs Go.Sort Go.Shelf
section
variable {P:Program}{M:C5}{G:Gh}{os:List AO}{w w':World}
def D9(zs:List (List UInt8)):List (List D):=zs.map λz=>[.str z]
theorem Z3(zs:List (List UInt8)):(D9 zs).length=zs.length:=by simp[D9]
theorem A1r(zs:List (List UInt8)):∀e∈D9 zs,e.length=1:=by
 intro e he
 obtain⟨z,_,rfl⟩:=F2.1 he
 rfl
theorem D2G(he:C3 M G os w){id:Nat}{zs ys:List (List UInt8)}(ho:os[id]?=some (.arr (D9 zs) 1 0 false))(hlen:ys.length=zs.length)(n:Nat) :
  C3 M G (os.set id (.arr (D9 ys) 1 0 false)) (putRow encStr (Sort.ahead w n) (G.blk id) 0 ys.toArray)/\E3 M G os w M G (os.set id (.arr (D9 ys) 1 0 false)) (putRow encStr (Sort.ahead w n) (G.blk id) 0 ys.toArray):=by
 obtain⟨h1,h2,h3,h4,h5⟩:=he.obj id _ ho
 obtain⟨ca,t,h6,h7,h8,h9,h10,h11⟩:=h5 rfl
 have hlt:=(B2.1 ho).1
 have hno:∀a v,M a=some v->a.block=G.blk id->False:=λa v ha hb=>by
  obtain⟨es',sz',frz',nl',h12,h13⟩:=he.sep id a v (E6.arr ho) ha hb
  rw[ho] at h12
  cases h12
  omega
 have hk:M5 G G id (os.set id (.arr (D9 ys) 1 0 false)) (.arr (D9 zs) 1 0 false):=⟨D9 ys,0,false,by simp[hlt],by rw[Z3,Z3];omega,λ_=>⟨rfl,rfl,rfl⟩⟩
 have hoth:∀b,b≠G.blk id->(putRow encStr (Sort.ahead w n) (G.blk id) 0 ys.toArray).heap[b]?=w.heap[b]?:=λb hb=>B80 _ _ b hb
 have hs:=l8 he (w':=putRow encStr (Sort.ahead w n) (G.blk id) 0 ys.toArray) (M':=M) ho rfl rfl rfl rfl (by simp) hoth (λ_ _ h=>h) (λ_ _ h=>.inl h) hk
 refine⟨u5 he ho rfl rfl rfl rfl (by simp) hoth (λ_ _ h=>h) (λ_ _ h=>.inl h) hk (λ_ _=>rfl) (λa v ha hb=>(hno a v ha hb).elim) (λa v ha hb=>(hno a v ha hb).elim) ?_,hs⟩
 rw[Z3] at h8
 refine⟨h1,A1r ys,S9 _,λh=>(by cases h),λ_=>⟨putCells encStr 0 ys.toArray ca,t,?_,?_,?_,h9,λi j e x hi hj=>?_,λo ho=>(by omega)⟩⟩
 ·show(mapBlock (Sort.ahead w n) (G.blk id) _).heap[G.blk id]?=_
  unfold mapBlock
  simp only[A4j,if_true]
  show Option.map _ w.heap[G.blk id]?=_
  rw[h6];rfl
 ·unfold putCells
  rw[Array.size_mapIdx,h7]
 ·rw[Z3];omega
 ·obtain⟨z,hz,rfl⟩:∃z,ys[i]?=some z/\e=[.str z]:=by
   unfold D9 at hi
   rw[G4] at hi
   cases hy:ys[i]? with
   |none=>rw[hy] at hi;cases hi
   |some z=>rw[hy] at hi;cases hi;exact⟨z,rfl,rfl⟩
  have hil:=(B2.1 hz).1
  cases j with
  |succ j=>cases hj
  |zero=>
   cases hj
   refine⟨encStr z,?_,.str _⟩
   unfold putCells
   have hic:i*1+0<ca.size:=by rw[h7];omega
   rw[Array.getElem?_mapIdx,K5 hic,A0A,if_pos (by simp;omega)]
   have:ys.toArray[i*1+0-0]! = z:=by
    have e:i*1+0-0=i:=by omega
    rw[e,getElem!_pos _ i (by simpa using hil)]
    simpa using(B2.1 hz).2
   rw[this]
theorem D2H(he:C3 M G os w){id:Nat}{zs:List (List UInt8)}(ho:os[id]?=some (.arr (D9 zs) 1 0 false)):Holds encStr w (G.blk id) 0 zs.toArray:=by
 obtain⟨h1,h2,h3,h4,h5⟩:=he.obj id _ ho
 obtain⟨ca,t,h6,h7,h8,h9,h10,h11⟩:=h5 rfl
 intro j hj
 have hj':j<zs.length:=by simpa using hj
 have hz:(D9 zs)[j]?=some [.str zs[j]]:=by unfold D9;rw[G4,C9 hj'];rfl
 obtain⟨u,hu,hr⟩:=h10 j 0 _ _ hz rfl
 cases hr
 rw[Nat.mul_one,A10] at hu
 refine⟨?_,?_⟩
 ·have:zs.toArray[j]! = zs[j]:=by rw[getElem!_pos _ j hj];simp
  rw[this,x8]
  unfold World.cell?
  rw[h6]
  simpa using hu
 ·unfold World.frozen?
  rw[h6]
  simp
theorem D37{ρ:Ren}(L:Lays.n190 P ρ)(he:Enters P (ρ.f 190))(zs:List (List UInt8))(nl:Bool)(hz:zs.length<4611686018427387904) :
  B4 P (ρ.f 190) [.arr 0 (D9 zs).length] [.arr (D9 zs) 1 0 nl] (λr os'=>r=.tup []/\os'=[.arr (D9 (zs.mergeSort λx y=>decide (x<=y))) 1 0 nl]):=by
 refine⟨he,λM G w vs hE hl hv=>?_⟩
 obtain⟨v,rfl⟩:∃v,vs=#[v]:=by
  obtain⟨l⟩:=vs
  match l,hl with
  |[x],_=>exact⟨x,rfl⟩
 have hval:=hv 0 _ v rfl rfl
 obtain⟨h0,es,sz,frz,nl',h1,h2,h3⟩:=hval
 cases h1
 have hv:=h3 rfl
 subst hv
 unfold Gh.slv
 cases nl with
 |true=>
  have hnil:D9 zs=[]:=(hE.obj 0 _ rfl).2.2.2.1 rfl
  have hzs:zs=[]:=by unfold D9 at hnil;simpa using hnil
  subst hzs
  rw[if_pos rfl]
  refine(Any.slices_Sort_string_none L none 0 w).mono ?_
  rintro e w' ⟨rfl,rfl⟩
  exact⟨_,rfl,M,G,.tup [],_,hE,E3.refl ..,⟨#[],rfl,rfl,by simp⟩,rfl,by simp⟩
 |false=>
  rw[if_neg (by decide),Z3]
  have hlt:=OR.live_lt hE (id:=0) rfl rfl
  refine(Any.slices_Sort_string L (G.blk 0) 0 (G.cap 0) zs w (D2H hE (id:=0) rfl) hlt hz).mono ?_
  rintro e w' ⟨rfl,n,xs,rfl⟩
  obtain⟨e1,s1⟩:=D2G hE (id:=0) (ys:=zs.mergeSort λx y=>decide (x<=y)) rfl (by simp) n
  have hh:∀b,b<(putRow encStr (Sort.ahead w n) (G.blk 0) 0 (zs.mergeSort λx y=>decide (x<=y)).toArray).heap.size->(grow (putRow encStr (Sort.ahead w n) (G.blk 0) 0 (zs.mergeSort λx y=>decide (x<=y)).toArray) xs).heap[b]?=(putRow encStr (Sort.ahead w n) (G.blk 0) 0 (zs.mergeSort λx y=>decide (x<=y)).toArray).heap[b]?:=λb hb=>by
   unfold grow
   exact A23 hb
  refine⟨_,rfl,M,G,.tup [],_,B6K e1 rfl rfl rfl (by simp[grow]) hh,s1.trans (A7R rfl rfl rfl (by simp[grow]) hh),⟨#[],rfl,rfl,by simp⟩,rfl,rfl⟩
end
end Go.Bi
namespace Go.Proofs
open Go.Bi
theorem A4d{l:List (List UInt8)}{i:Nat}{r:List UInt8}(h:l[i]?=some r):(D9 l)[i]?=some [.str r]:=by simp[D9,h]
theorem D07:Bi.Enters Tryz.prog B5z:=⟨_,Tryz.func43,by kernel_rfl,by decide⟩
def I2(zs:List (List UInt8)):List (List UInt8):=zs.mergeSort λx y=>decide (x<=y)
theorem C1R(zs:List (List UInt8))(nl:Bool)(hz:zs.length<4611686018427387904){os:List AO}{id:Nat}(ho:os[id]?=some (.arr (D9 zs) 1 0 nl)) :
  B4 Tryz.prog B5z [.arr id (D9 zs).length] os (λr os'=>r=.tup []/\os'=os.set id (.arr (D9 (I2 zs)) 1 0 nl)):=
 A9Z (λid=>[.arr id (D9 zs).length]) (D37 Tryz.lays190 D07 zs nl hz) (λ_=>rfl) (λ_=>rfl) (λ_=>rfl) (λ_ _=>rfl) (by simp[AV.bnd2,AV.bnd1]) (A9j ..) ho
end Go.Proofs
end
section
namespace Go.Proofs
open Go.Bi
def crE(e:En):Bool:=H9 e.ch
def F1(at':Int)(c:List En):List (List UInt8):=((c.filter (k8 at')).filter crE).map En.tb
theorem C9y{at':Int}{c:List En}{i:Nat}{e:En}(h:c[i]?=some e):F1 at' (c.take (i+1))=F1 at' (c.take i)++if k8 at' e&&crE e then [e.tb] else []:=by
 unfold F1
 rw[A5v h,A1A,s7]
 congr 1
 cases k8 at' e<;>cases hc:crE e<;>simp[hc]
theorem A2h(at':Int)(c:List En):(F1 at' c).length<=c.length:=by
 unfold F1
 rw[D0]
 exact N7 (j4 ..) (j4 ..)
def l9(l:List (List UInt8)):D:=C0 (D9 l).isEmpty (D9 l)
theorem A2z(l:List (List UInt8)):(I2 l).length=l.length:=by simp[I2]
theorem A3n(c:List En)(hc:c.length<=1048576)(d:D)(hd:B5 d (C4 c))(at':Int):Pure Tryz.prog A8O [.d d,.d (eI at')] (.d (l9 (I2 (F1 at' c)))):=by
 have hS:=A8e A8R at' [] (k8 at') (B1e at' []) c hc d hd
 have hsl:(c.filter (k8 at')).length<=c.length:=j4 ..
 obtain⟨S,hSS⟩:∃S,S=c.filter (k8 at'):=⟨_,rfl⟩
 rw[<- hSS] at hS hsl
 obtain⟨N',hN⟩:∃N',N'=F1 at' c:=⟨_,rfl⟩
 have hNe:N'=(S.filter crE).map En.tb:=by rw[hN,hSS];rfl
 have hNl:N'.length<=1048576:=by rw[hN];have:=A2h at' c;omega
 rw[<- hN]
 clear hN hSS
 have h1:=Q6 S
 have hm:=U1 S
 have hg0:=λi e=>@k7 S i e
 have hsd:B5 (C0 (C4 S).isEmpty (C4 S)) (C4 S):=X5 λe=>w8.1 e
 obtain⟨de,hde⟩:∃z,z=C0 (C4 S).isEmpty (C4 S):=⟨_,rfl⟩
 rw[<- hde] at hS hsd
 obtain⟨es,hes⟩:∃es,es=C4 S:=⟨_,rfl⟩
 rw[<- hes] at h1 hm hg0 hsd
 clear hes hde
 refine C2I.go A6 rfl ?_
 repeat' first|refine st ?_|((with_reducible first|apply A8|apply A7);(·exact hS))|(with_reducible first|apply A5|apply A4)<;>intro _
 refine s0 5 1 rfl rfl ?_
 refine I8 A6 C5A C4u (λ(i:Nat) (w:List (List UInt8))=>[.arr 0 (D9 w).length,.d (eI i)]) (λi w=>[.arr (D9 w) 1 0 (D9 w).isEmpty]) (λi w=>i<=S.length/\w=((S.take i).filter crE).map En.tb) (λi w=>S.length-i) 0 [] rfl rfl rfl rfl (λ_ _ _=>⟨rfl,rfl⟩) rfl ⟨by omega,rfl⟩ ?_
 repeat' first|refine st ?_|(with_reducible first|apply A5|apply A4)<;>intro _
 intro i A ⟨g1,g2⟩
 have hAl:(D9 A).length<=i:=by
  rw[Z3,g2,D0]
  exact N7 (j4 ..) (by rw[N6];omega)
 have hAm:=A1r A
 cases hx:S[i]? with
 |some e=>
  have hlt:=(B2.1 hx).1
  have hg:=hg0 i e hx
  have hC:=A8d e
  have hs:((S.take (i+1)).filter crE).map En.tb=A++(if crE e then [e.tb] else []):=by
   rw[A5v hx,g2,s7]
   congr 1
   split<;>rfl
  rw[show crE e=H9 e.ch from rfl] at hs
  cases hp:H9 e.ch with
  |true=>
   rw[hp] at hC hs
   have hap:D9 (A++[e.tb])=D9 A++[[.str e.tb]]:=by simp[D9]
   obtain⟨tm,tb,⟨⟨nm',cs,ks,fs,xs⟩,dc,dk,df,dx⟩,⟨k,cnm,to,⟨cn,ck,cl⟩,⟨vk,vn,vs⟩⟩⟩:=e
   clear g2 hNe hp
   dsimp only at hap hs
   repeat' first|refine st ?_|((with_reducible first|apply A8|apply A7);(·exact hC))|(with_reducible first|apply A5|apply A4)<;>intro _
   exact⟨i+1,A++[tb],by rw[hap];rfl,rfl,by rw[hap];first|rfl|(simp;done),by omega,by omega,hs.symm⟩
  |false=>
   rw[hp] at hC hs
   obtain⟨tm,tb,⟨⟨nm',cs,ks,fs,xs⟩,dc,dk,df,dx⟩,⟨k,cnm,to,⟨cn,ck,cl⟩,⟨vk,vn,vs⟩⟩⟩:=e
   clear g2 hNe hp
   repeat' first|refine st ?_|((with_reducible first|apply A8|apply A7);(·exact hC))|(with_reducible first|apply A5|apply A4)<;>intro _
   exact⟨i+1,A,rfl,rfl,rfl,by omega,by omega,by rw[hs];simp⟩
 |none=>
  have hge:=D1.1 hx
  rw[L0 hge,<- hNe] at g2
  subst g2
  have hSo:=C1R A (D9 A).isEmpty (by omega) (os:=[.arr (D9 A) 1 0 (D9 A).isEmpty]) (id:=0) rfl
  have hll:(D9 (I2 A)).length=(D9 A).length:=by rw[Z3,Z3,A2z]
  have hem:(D9 A).isEmpty=(D9 (I2 A)).isEmpty:=by
   rw[A08,List.isEmpty_iff_length_eq_zero,List.isEmpty_iff_length_eq_zero,hll]
  unfold l9
  obtain⟨B,hB⟩:∃B,B=D9 (I2 A):=⟨_,rfl⟩
  rw[<- hB] at hSo hll hem ⊢
  clear hNe hB
  repeat' first|(with_reducible apply I5)|refine st ?_|((with_reducible first|apply I7|apply D8);(·exact hSo);(try rintro _ _ ⟨rfl,rfl⟩))|((with_reducible apply J4);(·exact hSo))|((with_reducible apply I5);refine st ?_;(with_reducible apply J2);(·exact rfl);refine st ?_;(with_reducible apply D8);(·exact hSo);(try rintro _ _ ⟨rfl,rfl⟩))|(with_reducible first|apply A5|apply A4)<;>intro _
  all_goals first|(rw[hem];cases B<;>rfl)|(rw[hem];rfl)
def X0(l:List (List UInt8))(s:List UInt8):List (List UInt8):=l.takeWhile (λx=>decide (x<s))++s::l.dropWhile (λx=>decide (x<s))
theorem D0L(l:List (List UInt8))(s:List UInt8):(X0 l s).length=l.length+1:=by
 unfold X0
 have:=congrArg List.length (List.takeWhile_append_dropWhile (p:=λx=>decide (x<s)) (l:=l))
 rw[Q3] at this
 rw[Q3,N9]
 omega
theorem D3i (l : List (List UInt8)) (p : List UInt8 → Bool) : ∀ i, (∀ j x, j < i → l[j]? = some x → p x = true) → i ≤ l.length → (∀ x, l[i]? = some x → p x = false) → l.takeWhile p = l.take i ∧ l.dropWhile p = l.drop i := by
  induction l with
  | nil => intro i _ hi _; have : i = 0 := by simpa using hi
           subst this; exact ⟨rfl, rfl⟩
  | cons a r ih =>
    intro i h1 hi h2
    cases i with
    | zero =>
      have := h2 a rfl
      exact ⟨by simp [List.takeWhile_cons, this], by simp [List.dropWhile_cons, this]⟩
    | succ i =>
      have h0 := h1 0 a (by omega) rfl
      obtain ⟨e1, e2⟩ := ih i (fun j x hj hx => h1 (j + 1) x (by omega) (by simpa using hx)) (by simpa using hi) (fun x hx => h2 x (by simpa using hx))
      exact ⟨by simp [List.takeWhile_cons, h0, e1], by simp [List.dropWhile_cons, h0, e2]⟩
theorem C1x(l:List (List UInt8))(hl:l.length<=1048576)(s:List UInt8)(d:D)(hd:B5 d (D9 l)):Pure Tryz.prog B4X [.d d,.d (.str s)] (.d (.sl (D9 (X0 l s)))):=by
 have h1:=Z3 l
 have hm:=A1r l
 have hg0:=λi e=>@A4d l i e
 obtain⟨R,hR⟩:∃R,R=D9 (X0 l s):=⟨_,rfl⟩
 rw[<- hR]
 obtain⟨es,hes⟩:∃es,es=D9 l:=⟨_,rfl⟩
 rw[<- hes] at h1 hm hg0 hd
 refine C2F.go A6 rfl ?_
 repeat' first|refine st ?_|(with_reducible first|apply A5|apply A4)<;>intro _
 refine F3 A6 C5x C4r (λ(i:Nat)=>[.arr 0 (es.take i).length,.d (eI i)]) (λi=>[.arr (es.take i) 1 0 false]) (λi=>i<=l.length/\∀j x,j<i->l[j]?=some x->decide (x<s)=true) (λi=>l.length-i) 0 rfl rfl rfl rfl (λ_ _=>⟨rfl,rfl⟩) rfl ⟨by omega,λj x hj=>by omega⟩ ?_
 repeat' first|refine st ?_|(with_reducible first|apply A5|apply A4)<;>intro _
 intro i ⟨g1,g2⟩
 have htl:(es.take i).length=i:=by rw[N6];omega
 have htm:∀e∈es.take i,e.length=1:=λe he=>hm e (A1F he)
 have hfin:(∀x,l[i]?=some x->decide (x<s)=false)->R=es.take i++[[.str s]]++es.drop i:=λh=>by
  obtain⟨e1,e2⟩:=D3i l (λx=>decide (x<s)) i g2 g1 h
  rw[hR,hes]
  unfold X0
  rw[e1,e2]
  simp[D9]
 cases hx:l[i]? with
 |some x=>
  have hlt:=(B2.1 hx).1
  have hg:es[((i:Nat):Int).toNat]?=some [.str x]:=hg0 i x hx
  have hil:(i:Int)<es.length:=by omega
  have hbl:=bytesLess_eq x s
  obtain rfl:d=.sl es:=by
   rcases hd with ⟨_,he⟩|h
   ·rw[he] at hg;cases hg
   ·exact h
  cases hp:decide (x<s) with
  |true=>
   rw[hp] at hbl
   have hsn:es.take (i+1)=es.take i++[[.str x]]:=by rw[P5,show es[i]?=some [.str x] from hg];rfl
   have hinv:∀j y,j<i+1->l[j]?=some y->decide (y<s)=true:=λj y hj hy=>by
    by_cases e:j=i
    ·subst e;rw[hx] at hy;cases hy;exact hp
    ·exact g2 j y (by omega) hy
   clear hfin g2 hR hes
   repeat' first|refine st ?_|(with_reducible first|apply A5|apply A4)<;>intro _
   exact⟨i+1,by rw[hsn];rfl,rfl,by rw[hsn];rfl,by omega,by omega,hinv⟩
  |false=>
   rw[hp] at hbl
   have hfin:=hfin λy hy=>by rw[hx] at hy;cases hy;exact hp
   have hq:List.take ((es.length:Int).toNat-(((i:Nat):Int)).toNat) (List.drop (((i:Nat):Int)).toNat es)=es.drop i:=by
    rw[S6,S6,L0 (by rw[A1D];exact M9 _)]
   have hdl:(es.drop i).length<=1048576:=by rw[A1D];omega
   have hdm:∀e∈es.drop i,e.length=1:=λe he=>hm e (A6I he)
   have hb1:(es.take i++[[D.str s]]).length=i+1:=by rw[Q3,htl];rfl
   clear g2 hR hes
   subst hfin
   repeat' first|(rw[hq])|refine st ?_|(with_reducible first|apply A5|apply A4)<;>intro _
   all_goals first|rfl|(cases es.drop i<;>rfl)
 |none=>
  have hge:=D1.1 hx
  have hil:¬(i:Int)<es.length:=by omega
  have hfin:=hfin λy hy=>by rw[hx] at hy;cases hy
  have hq:List.take ((es.length:Int).toNat-(((i:Nat):Int)).toNat) (List.drop (((i:Nat):Int)).toNat es)=es.drop i:=by
   rw[S6,S6,L0 (by rw[A1D];exact M9 _)]
  have hdl:(es.drop i).length<=1048576:=by rw[A1D];omega
  have hdm:∀e∈es.drop i,e.length=1:=λe he=>hm e (A6I he)
  have hb1:(es.take i++[[D.str s]]).length=i+1:=by rw[Q3,htl];rfl
  have hd0:es.drop i=[]:=A4H (by omega)
  clear g2 hR hes
  subst hfin
  rcases hd with ⟨rfl,he⟩|rfl
  ·have hi0:i=0:=by rw[he] at h1;simp at h1;omega
   repeat' first|(rw[hq])|refine st ?_|(with_reducible first|apply A5|apply A4)<;>intro _
   all_goals first|rfl|(rw[hd0];rfl)
  ·repeat' first|(rw[hq])|refine st ?_|(with_reducible first|apply A5|apply A4)<;>intro _
   all_goals first|rfl|(cases es.drop i<;>rfl)
theorem B7W{a b:List UInt8}:¬a<b↔b<=a:=by rw[List.not_lt]
theorem B7A(l:List (List UInt8))(s:List UInt8):(X0 l s).Perm (s::l):=by
 unfold X0
 refine List.perm_middle.trans ?_
 rw[List.takeWhile_append_dropWhile]
theorem D0M{l:List (List UInt8)}(s:List UInt8)(h:l.Pairwise (·<=·)):(X0 l s).Pairwise (·<=·):=by
 induction l with
 |nil=>simp[X0]
 |cons a r ih=>
  have ih:=ih (s9.1 h).2
  unfold X0 at ih ⊢
  by_cases ha:a<s
  ·rw[List.takeWhile_cons,List.dropWhile_cons,decide_eq_true ha]
   simp only[if_true,A25]
   refine s9.2 ⟨λy hy=>?_,ih⟩
   have hp:y∈s::r:=(B7A r s).mem_iff.1 hy
   rcases I9.1 hp with rfl|hp
   ·exact List.le_of_lt ha
   ·exact(s9.1 h).1 y hp
  ·rw[List.takeWhile_cons,List.dropWhile_cons,decide_eq_false ha]
   simp only[L8,if_false,A1H]
   refine s9.2 ⟨λy hy=>?_,h⟩
   rcases I9.1 hy with rfl|hy
   ·exact B7W.1 ha
   ·exact List.le_trans (B7W.1 ha) ((s9.1 h).1 y hy)
theorem B9n(l:List (List UInt8)):(I2 l).Pairwise (·<=·):=by
 have:=List.pairwise_mergeSort (le:=λx y:List UInt8=>decide (x<=y)) (λa b c h1 h2=>by simp only[decide_eq_true_eq] at *;exact List.le_trans h1 h2) (λa b=>by simp only[A2G,decide_eq_true_eq];exact List.le_total a b) l
 exact this.imp (by intro a b h;simpa using h)
theorem A7T(l:List (List UInt8)):(I2 l).Perm l:=List.mergeSort_perm ..
theorem B7i:∀(l F5:List (List UInt8)),F5.Pairwise (·<=·)->(l.foldl X0 F5).Pairwise (·<=·)/\(l.foldl X0 F5).Perm (F5++l)
 |[],F5,h=>⟨h,by simp⟩
 |a::r,F5,h=>by
  obtain⟨h1,h2⟩:=B7i r (X0 F5 a) (D0M a h)
  refine⟨h1,h2.trans ?_⟩
  exact((B7A F5 a).append_right r).trans List.perm_middle.symm
theorem D0z(l:List (List UInt8)):l.foldl X0 []=I2 l:=by
 obtain⟨h1,h2⟩:=B7i l [] List.Pairwise.nil
 exact List.Perm.eq_of_pairwise (λa b _ _ h3 h4=>List.le_antisymm h3 h4) h1 (B9n l) (h2.trans (by simpa using(A7T l).symm))
theorem B7j:∀(l F5:List (List UInt8)),(l.foldl X0 F5).length=F5.length+l.length
 |[],F5=>rfl
 |a::r,F5=>by rw[A26,B7j r,D0L,N9];omega
theorem A8l(c:List En)(hc:c.length<=1048575)(d:D)(hd:B5 d (C4 c))(at':Int):Pure Tryz.prog B4S [.d d,.d (eI at')] (.d (.sl (D9 (I2 (F1 at' c))))):=by
 have h1:=Q6 c
 have hm:=U1 c
 have hg0:=λi e=>@k7 c i e
 obtain⟨es,hes⟩:∃es,es=C4 c:=⟨_,rfl⟩
 rw[<- hes] at h1 hm hg0 hd
 clear hes
 rw[<- D0z]
 obtain⟨R,hR⟩:∃R,R=(F1 at' c).foldl X0 []:=⟨_,rfl⟩
 rw[<- hR]
 refine C2y.go A6 rfl ?_
 repeat' first|refine st ?_|(with_reducible first|apply A5|apply A4)<;>intro _
 refine A2D 5 rfl rfl rfl ?_
 repeat' first|refine st ?_|(with_reducible first|apply A5|apply A4)<;>intro _
 refine I8 A6 C5q C4k (λ(i:Nat) (w:List (List UInt8))=>[.d (.sl (D9 w)),.d (eI i)]) (λi w=>[.arr [] 1 0 false]) (λi w=>i<=c.length/\w=(F1 at' (c.take i)).foldl X0 []) (λi w=>c.length-i) 0 [] rfl rfl rfl rfl (λ_ _ _=>⟨rfl,rfl⟩) rfl ⟨by omega,rfl⟩ ?_
 repeat' first|refine st ?_|(with_reducible first|apply A5|apply A4)<;>intro _
 intro i A ⟨g1,g2⟩
 have hAl:A.length<=i:=by
  rw[g2,B7j]
  have:=A2h at' (c.take i)
  rw[N6] at this
  simp only[X7];omega
 cases hx:c[i]? with
 |some e=>
  have hlt:=(B2.1 hx).1
  have hg:es[((i:Nat):Int).toNat]?=some e.ds:=hg0 i e hx
  have hil:(i:Int)<es.length:=by omega
  have hC:=A6z e
  have hI:=C1x A (by omega) e.tb (.sl (D9 A)) (.inr rfl)
  have hs:(if k8 at' e&&H9 e.ch then X0 A e.tb else A)=(F1 at' (c.take (i+1))).foldl X0 []:=by
   rw[C9y hx,A3r,<- g2]
   unfold crE
   cases k8 at' e<;>cases H9 e.ch<;>rfl
  obtain⟨B,hB⟩:∃B,B=X0 A e.tb:=⟨_,rfl⟩
  rw[<- hB] at hI hs
  unfold k8 at hs
  clear g2 hR hB
  by_cases q1:e.tm<=at'
  ·rw[decide_eq_true q1,s5] at hs
   cases q3:H9 e.ch with
   |true=>
    rw[q3] at hC hs
    rw[if_pos rfl] at hs
    clear q3
    obtain⟨tm,tb,⟨⟨nm',cs,ks,fs,xs⟩,dc,dk,df,dx⟩,⟨k,cnm,to,⟨cn,ck,cl⟩,⟨vk,vn,vs⟩⟩⟩:=e
    dsimp only at q1 hI
    repeat' first|refine st ?_|((with_reducible first|apply A8|apply A7);(·first|exact hC|exact hI))|(with_reducible first|apply A5|apply A4)<;>intro _
    all_goals exact⟨i+1,B,rfl,rfl,rfl,by omega,by omega,hs⟩
   |false=>
    rw[q3] at hC hs
    rw[if_neg (by decide)] at hs
    clear q3
    obtain⟨tm,tb,⟨⟨nm',cs,ks,fs,xs⟩,dc,dk,df,dx⟩,⟨k,cnm,to,⟨cn,ck,cl⟩,⟨vk,vn,vs⟩⟩⟩:=e
    dsimp only at q1
    repeat' first|refine st ?_|((with_reducible first|apply A8|apply A7);(·exact hC))|(with_reducible first|apply A5|apply A4)<;>intro _
    all_goals exact⟨i+1,A,rfl,rfl,rfl,by omega,by omega,hs⟩
  ·rw[decide_eq_false q1,Bool.false_and,if_neg (by decide)] at hs
   obtain⟨tm,tb,⟨⟨nm',cs,ks,fs,xs⟩,dc,dk,df,dx⟩,⟨k,cnm,to,⟨cn,ck,cl⟩,⟨vk,vn,vs⟩⟩⟩:=e
   dsimp only at q1
   repeat' first|refine st ?_|((with_reducible first|apply A8|apply A7);(·exact hC))|(with_reducible first|apply A5|apply A4)<;>intro _
   all_goals exact⟨i+1,A,rfl,rfl,rfl,by omega,by omega,hs⟩
 |none=>
  have hge:=D1.1 hx
  rw[L0 hge,<- hR] at g2
  subst g2
  have hil:(es.length:Int)<=i:=by omega
  clear hR
  repeat' first|refine st ?_|(with_reducible first|apply A5|apply A4)<;>intro _
  all_goals rfl
theorem A7N{l:List En}(h:∀e∈l,e.ok):(p7 l).ok:=by
 unfold p7
 have:∀(l:List En) (t:TD),t.ok->(∀e∈l,e.ok)->(l.foldl (λt e=>if H9 e.ch then e.cr else t) t).ok:=by
  intro l
  induction l with
  |nil=>intro t ht _;exact ht
  |cons e r ih=>
   intro t ht h
   refine ih _ ?_ λx hx=>h x (by simp[hx])
   dsimp only
   split
   ·exact(h e (by simp)).cr
   ·exact ht
 exact this l K4 w6 h
theorem A7M{l:List En}(h:∀e∈l,e.ok):∀c∈T6 l,J1 c:=by
 intro c hc
 obtain⟨e,he,rfl⟩:=F2.1 hc
 exact(h e (X8.1 he).1).ch
theorem B8X(l:List En):(T6 l).length<=l.length:=by
 unfold T6
 rw[D0]
 exact j4 ..
def R3(s:List En):TD×Nat×Int:=if rhB s then (((p7 s).runsR (T6 s)).1,((p7 s).runsR (T6 s)).2.1,0) else (K4,0,11)
theorem A6y(c:List En)(hc:c.length<=1048576)(hok:∀e∈c,e.ok)(d:D)(hd:B5 d (C4 c))(at':Int)(nm:List UInt8) :
  Pure Tryz.prog A4Z [.d d,.d (eI at'),.d (.str nm)] (.tup [(R3 (C8 at' nm c)).1.av,.d (eI ((R3 (C8 at' nm c)).2.1:Nat)),.d (eI (R3 (C8 at' nm c)).2.2)]):=by
 have hH:=B18 c hc d hd at' nm
 have hsl:=A6b at' nm c
 have hso:=A0r (at':=at') (nm:=nm) hok
 obtain⟨s,hs⟩:∃s,s=C8 at' nm c:=⟨_,rfl⟩
 rw[<- hs] at hH hsl hso ⊢
 have hcl:=B8X s
 have hR:=B14 (p7 s) (A7N hso) (T6 s) (by omega) (A7M hso) (.sl (P8 (T6 s))) (.inr rfl)
 obtain⟨q,hq⟩:∃q,q=R3 s:=⟨_,rfl⟩
 rw[<- hq]
 unfold R3 at hq
 obtain⟨T,hT⟩:∃T,T=p7 s:=⟨_,rfl⟩
 rw[<- hT] at hH hR hq
 obtain⟨dl,hdl⟩:∃z,z=D.sl (P8 (T6 s)):=⟨_,rfl⟩
 rw[<- hdl] at hH hR
 obtain⟨⟨y,n,e⟩,hy⟩:∃z,z=T.runsR (T6 s):=⟨_,rfl⟩
 rw[<- hy] at hR hq
 dsimp only at hR hq
 clear hs hT hdl hy hso
 cases hb:rhB s with
 |false=>
  rw[hb] at hH hq
  rw[if_neg (by decide)] at hq
  subst hq
  obtain⟨⟨tn,cs,ks,fs,xs⟩,dc,dk,df,dx⟩:=T
  refine B1p.go A6 rfl ?_
  repeat' first|refine st ?_|((with_reducible first|apply A8|apply A7);(·exact hH))|(with_reducible first|apply A5|apply A4)<;>intro _
  all_goals rfl
 |true=>
  rw[hb] at hH hq
  rw[if_pos rfl] at hq
  subst hq
  obtain⟨⟨tn,cs,ks,fs,xs⟩,dc,dk,df,dx⟩:=T
  have hR:Bi.Pure Tryz.prog A6O [eT tn dc dk df dx,.d dl] (.tup [eT y.t.nm y.dc y.dk y.df y.dx,.d (eI n),.d (eI e)]):=hR
  refine B1p.go A6 rfl ?_
  repeat' first|refine st ?_|((with_reducible first|apply A8|apply A7);(·first|exact hH|exact hR))|(with_reducible first|apply A5|apply A4)<;>intro _
  all_goals rfl
theorem A4a{d:D}{es:List (List D)}(h:B5 d es)(he:es=[]):d=.nil\/d=.sl []:=by
 rcases h with ⟨h,_⟩|h
 ·exact .inl h
 ·rw[he] at h;exact .inr h
theorem C0G(l:List Co)(hl:l.length<=1048576)(d:D)(hd:B5 d (B3 l)):Pure Tryz.prog B5v [.d d,.d .nil] (.d (.bool l.isEmpty)):=by
 have h0:([]:List (List D)).length=0:=rfl
 cases l with
 |nil=>
  refine B1G.go A6 rfl ?_
  rcases A4a hd rfl with rfl|rfl
  all_goals
   repeat' first|refine st ?_|(with_reducible first|apply A5|apply A4)<;>intro _
   refine F3 A6 C5Z C4T (λ(i:Nat)=>[.d (eI i)]) (λi=>[]) (λi=>True) (λi=>0) 0 rfl rfl rfl rfl (λ_ _=>⟨rfl,rfl⟩) rfl trivial ?_
   repeat' first|refine st ?_|(with_reducible first|apply A5|apply A4)<;>intro _
   intro i _
   repeat' first|refine st ?_|(with_reducible first|apply A5|apply A4)<;>intro _
   all_goals first|rfl|(exfalso;omega)
 |cons a r=>
  have hd:d=.sl (B3 (a::r)):=by
   rcases hd with ⟨_,h⟩|h
   ·cases h
   ·exact h
  subst hd
  have h1:(B3 (a::r)).length=r.length+1:=by rw[G5,N9]
  obtain⟨es,hes⟩:∃es,es=B3 (a::r):=⟨_,rfl⟩
  rw[<- hes] at h1 ⊢
  clear hes
  refine B1G.go A6 rfl ?_
  repeat' first|refine st ?_|(with_reducible first|apply A5|apply A4)<;>intro _
  all_goals first|rfl|(exfalso;omega)
theorem C0I(l:List Int)(hl:l.length<=1048576)(d:D)(hd:B5 d (A0 l)):Pure Tryz.prog B5w [.d d,.d .nil] (.d (.bool l.isEmpty)):=by
 have h0:([]:List (List D)).length=0:=rfl
 cases l with
 |nil=>
  refine B1H.go A6 rfl ?_
  rcases A4a hd rfl with rfl|rfl
  all_goals
   repeat' first|refine st ?_|(with_reducible first|apply A5|apply A4)<;>intro _
   refine F3 A6 C60 C4U (λ(i:Nat)=>[.d (eI i)]) (λi=>[]) (λi=>True) (λi=>0) 0 rfl rfl rfl rfl (λ_ _=>⟨rfl,rfl⟩) rfl trivial ?_
   repeat' first|refine st ?_|(with_reducible first|apply A5|apply A4)<;>intro _
   intro i _
   repeat' first|refine st ?_|(with_reducible first|apply A5|apply A4)<;>intro _
   all_goals first|rfl|(exfalso;omega)
 |cons a r=>
  have hd:d=.sl (A0 (a::r)):=by
   rcases hd with ⟨_,h⟩|h
   ·cases h
   ·exact h
  subst hd
  have h1:(A0 (a::r)).length=r.length+1:=by rw[B6,N9]
  obtain⟨es,hes⟩:∃es,es=A0 (a::r):=⟨_,rfl⟩
  rw[<- hes] at h1 ⊢
  clear hes
  refine B1H.go A6 rfl ?_
  repeat' first|refine st ?_|(with_reducible first|apply A5|apply A4)<;>intro _
  all_goals first|rfl|(exfalso;omega)
theorem C0H(l:List Fo)(hl:l.length<=1048576)(d:D)(hd:B5 d (F8 l)):Pure Tryz.prog B5u [.d d,.d .nil,.d (.fn C67)] (.d (.bool l.isEmpty)):=by
 have h0:([]:List (List D)).length=0:=rfl
 cases l with
 |nil=>
  refine B1F.go A6 rfl ?_
  rcases A4a hd rfl with rfl|rfl
  all_goals
   repeat' first|refine st ?_|(with_reducible first|apply A5|apply A4)<;>intro _
   refine F3 A6 C5Y C4S (λ(i:Nat)=>[.d (eI i)]) (λi=>[]) (λi=>True) (λi=>0) 0 rfl rfl rfl rfl (λ_ _=>⟨rfl,rfl⟩) rfl trivial ?_
   repeat' first|refine st ?_|(with_reducible first|apply A5|apply A4)<;>intro _
   intro i _
   repeat' first|refine st ?_|(with_reducible first|apply A5|apply A4)<;>intro _
   all_goals first|rfl|(exfalso;omega)
 |cons a r=>
  have hd:d=.sl (F8 (a::r)):=by
   rcases hd with ⟨_,h⟩|h
   ·cases h
   ·exact h
  subst hd
  have h1:(F8 (a::r)).length=r.length+1:=by rw[c8,N9]
  obtain⟨es,hes⟩:∃es,es=F8 (a::r):=⟨_,rfl⟩
  rw[<- hes] at h1 ⊢
  clear hes
  refine B1F.go A6 rfl ?_
  repeat' first|refine st ?_|(with_reducible first|apply A5|apply A4)<;>intro _
  all_goals first|rfl|(exfalso;omega)
theorem C0J(l:List Ex)(hl:l.length<=1048576)(d:D)(hd:B5 d (xL l)):Pure Tryz.prog B5t [.d d,.d .nil,.d (.fn C66)] (.d (.bool l.isEmpty)):=by
 have h0:([]:List (List D)).length=0:=rfl
 cases l with
 |nil=>
  refine B1E.go A6 rfl ?_
  rcases A4a hd rfl with rfl|rfl
  all_goals
   repeat' first|refine st ?_|(with_reducible first|apply A5|apply A4)<;>intro _
   refine F3 A6 C5X C4R (λ(i:Nat)=>[.d (eI i)]) (λi=>[]) (λi=>True) (λi=>0) 0 rfl rfl rfl rfl (λ_ _=>⟨rfl,rfl⟩) rfl trivial ?_
   repeat' first|refine st ?_|(with_reducible first|apply A5|apply A4)<;>intro _
   intro i _
   repeat' first|refine st ?_|(with_reducible first|apply A5|apply A4)<;>intro _
   all_goals first|rfl|(exfalso;omega)
 |cons a r=>
  have hd:d=.sl (xL (a::r)):=by
   rcases hd with ⟨_,h⟩|h
   ·cases h
   ·exact h
  subst hd
  have h1:(xL (a::r)).length=r.length+1:=by rw[I3,N9]
  obtain⟨es,hes⟩:∃es,es=xL (a::r):=⟨_,rfl⟩
  rw[<- hes] at h1 ⊢
  clear hes
  refine B1E.go A6 rfl ?_
  repeat' first|refine st ?_|(with_reducible first|apply A5|apply A4)<;>intro _
  all_goals first|rfl|(exfalso;omega)
theorem C1b(l:List Int)(hl:l.length<=1048576)(d:D)(hd:B5 d (A0 l)):Pure Tryz.prog A4X [.d d,.d .nil] (.d (.bool l.isEmpty)):=by
 have h0:([]:List (List D)).length=0:=rfl
 cases l with
 |nil=>
  refine A8t.go A6 rfl ?_
  rcases A4a hd rfl with rfl|rfl
  all_goals
   repeat' first|refine st ?_|(with_reducible first|apply A5|apply A4)<;>intro _
   refine F3 A6 B4f B40 (λ(i:Nat)=>[.d (eI i)]) (λi=>[]) (λi=>True) (λi=>0) 0 rfl rfl rfl rfl (λ_ _=>⟨rfl,rfl⟩) rfl trivial ?_
   repeat' first|refine st ?_|(with_reducible first|apply A5|apply A4)<;>intro _
   intro i _
   repeat' first|refine st ?_|(with_reducible first|apply A5|apply A4)<;>intro _
   all_goals first|rfl|(exfalso;omega)
 |cons a r=>
  have hd:d=.sl (A0 (a::r)):=by
   rcases hd with ⟨_,h⟩|h
   ·cases h
   ·exact h
  subst hd
  have h1:(A0 (a::r)).length=r.length+1:=by rw[B6,N9]
  obtain⟨es,hes⟩:∃es,es=A0 (a::r):=⟨_,rfl⟩
  rw[<- hes] at h1 ⊢
  clear hes
  refine A8t.go A6 rfl ?_
  repeat' first|refine st ?_|(with_reducible first|apply A5|apply A4)<;>intro _
  all_goals first|rfl|(exfalso;omega)
theorem C14(l:List Ex)(hl:l.length<=1048576)(d:D)(hd:B5 d (xL l)):Pure Tryz.prog A6M [.d d,.d .nil] (.d (.bool l.isEmpty)):=by
 have h0:([]:List (List D)).length=0:=rfl
 cases l with
 |nil=>
  refine A8s.go A6 rfl ?_
  rcases A4a hd rfl with rfl|rfl
  all_goals
   repeat' first|refine st ?_|(with_reducible first|apply A5|apply A4)<;>intro _
   refine F3 A6 B4b B3W (λ(i:Nat)=>[.d (eI i)]) (λi=>[]) (λi=>True) (λi=>0) 0 rfl rfl rfl rfl (λ_ _=>⟨rfl,rfl⟩) rfl trivial ?_
   repeat' first|refine st ?_|(with_reducible first|apply A5|apply A4)<;>intro _
   intro i _
   repeat' first|refine st ?_|(with_reducible first|apply A5|apply A4)<;>intro _
   all_goals first|rfl|(exfalso;omega)
 |cons a r=>
  have hd:d=.sl (xL (a::r)):=by
   rcases hd with ⟨_,h⟩|h
   ·cases h
   ·exact h
  subst hd
  have h1:(xL (a::r)).length=r.length+1:=by rw[I3,N9]
  obtain⟨es,hes⟩:∃es,es=xL (a::r):=⟨_,rfl⟩
  rw[<- hes] at h1 ⊢
  clear hes
  refine A8s.go A6 rfl ?_
  repeat' first|refine st ?_|(with_reducible first|apply A5|apply A4)<;>intro _
  all_goals first|rfl|(exfalso;omega)
def W0(t:Tb):Bool:=decide (t.nm=[])&&(t.cs.isEmpty&&(t.ks.isEmpty&&(t.fs.isEmpty&&t.xs.isEmpty)))
theorem C1G(x:TD)(h:x.ok):Pure Tryz.prog B5n [x.av,.agg [.d (.str []),.d .nil,.d .nil,.d .nil,.d .nil]] (.d (.bool (W0 x.t))):=by
 have h1:=C0G x.t.cs h.tok.hl x.dc h.tok.dc
 have h2:=C0I x.t.ks h.tok.hk x.dk h.tok.dk
 have h3:=C0H x.t.fs h.tok.hfl x.df h.tok.df
 have h4:=C0J x.t.xs h.tok.hxs x.dx h.tok.dx
 obtain⟨q,hq⟩:∃q,q=W0 x.t:=⟨_,rfl⟩
 rw[<- hq]
 unfold W0 at hq
 obtain⟨b1,e1⟩:∃b,b=x.t.cs.isEmpty:=⟨_,rfl⟩
 obtain⟨b2,e2⟩:∃b,b=x.t.ks.isEmpty:=⟨_,rfl⟩
 obtain⟨b3,e3⟩:∃b,b=x.t.fs.isEmpty:=⟨_,rfl⟩
 obtain⟨b4,e4⟩:∃b,b=x.t.xs.isEmpty:=⟨_,rfl⟩
 rw[<- e1] at h1 hq
 rw[<- e2] at h2 hq
 rw[<- e3] at h3 hq
 rw[<- e4] at h4 hq
 clear e1 e2 e3 e4 h
 obtain⟨⟨nm,cs,ks,fs,xs⟩,dc,dk,df,dx⟩:=x
 dsimp only at hq h1 h2 h3 h4
 subst hq
 have r1:([]:List UInt8)=[]:=rfl
 refine C3e.go A6 rfl ?_
 by_cases g:nm=[]
 ·subst g
  cases b1<;>cases b2<;>cases b3
  all_goals
   repeat' first|refine st ?_|((with_reducible first|apply A8|apply A7);(·first|exact h1|exact h2|exact h3|exact h4))|(with_reducible first|apply A5|apply A4)<;>intro _
   all_goals first|rfl|(exfalso;simp_all;done)
 ·rw[decide_eq_false g]
  repeat' first|refine st ?_|((with_reducible first|apply A8|apply A7);(·first|exact h1|exact h2|exact h3|exact h4))|(with_reducible first|apply A5|apply A4)<;>intro _
  all_goals first|rfl|(exfalso;simp_all;done)
theorem C1d(x:TD)(h:x.ok):Pure Tryz.prog A6N [x.av,.agg [.d (.str []),.d .nil,.d .nil,.d .nil,.d .nil]] (.d (.bool (W0 x.t))):=by
 have h2:=C1b x.t.ks h.tok.hk x.dk h.tok.dk
 have h4:=C14 x.t.xs h.tok.hxs x.dx h.tok.dx
 obtain⟨q,hq⟩:∃q,q=W0 x.t:=⟨_,rfl⟩
 rw[<- hq]
 unfold W0 at hq
 obtain⟨b2,e2⟩:∃b,b=x.t.ks.isEmpty:=⟨_,rfl⟩
 obtain⟨b4,e4⟩:∃b,b=x.t.xs.isEmpty:=⟨_,rfl⟩
 rw[<- e2] at h2 hq
 rw[<- e4] at h4 hq
 clear e2 e4
 have hdc:=h.tok.dc
 have hdf:=h.tok.df
 have lc:=G5 x.t.cs
 have lf:=c8 x.t.fs
 have lc2:=h.tok.hl
 have lf2:=h.tok.hfl
 have h0:([]:List (List D)).length=0:=rfl
 clear h
 obtain⟨⟨nm,cs,ks,fs,xs⟩,dc,dk,df,dx⟩:=x
 dsimp only at hq h2 h4 hdc hdf lc lf lc2 lf2
 have r1:([]:List UInt8)=[]:=rfl
 obtain⟨Cs,hCs⟩:∃z,z=B3 cs:=⟨_,rfl⟩
 obtain⟨Fs,hFs⟩:∃z,z=F8 fs:=⟨_,rfl⟩
 rw[<- hCs] at hdc lc
 rw[<- hFs] at hdf lf
 clear hCs hFs
 refine B1m.go A6 rfl ?_
 by_cases g:nm=[]
 rotate_left
 ·rw[decide_eq_false g,Bool.false_and] at hq
  subst hq
  repeat' first|refine st ?_|((with_reducible first|apply A8|apply A7);(·first|exact h2|exact h4))|(with_reducible first|apply A5|apply A4)<;>intro _
  all_goals rfl
 subst g
 rw[decide_eq_true rfl,s5] at hq
 cases cs with
 |cons a r=>
  have hq:q=false:=hq
  subst hq
  simp only[N9] at lc
  repeat' first|refine st ?_|((with_reducible first|apply A8|apply A7);(·first|exact h2|exact h4))|(with_reducible first|apply A5|apply A4)<;>intro _
  all_goals rfl
 |nil=>
  have hq:q=(b2&&(fs.isEmpty&&b4)):=hq
  simp only[X7] at lc
  cases b2 with
  |false=>
   have hq:q=false:=hq
   subst hq
   repeat' first|refine st ?_|((with_reducible first|apply A8|apply A7);(·first|exact h2|exact h4))|(with_reducible first|apply A5|apply A4)<;>intro _
   all_goals rfl
  |true=>
   rw[s5] at hq
   cases fs with
   |cons a r=>
    have hq:q=false:=hq
    subst hq
    simp only[N9] at lf
    repeat' first|refine st ?_|((with_reducible first|apply A8|apply A7);(·first|exact h2|exact h4))|(with_reducible first|apply A5|apply A4)<;>intro _
    all_goals rfl
   |nil=>
    have hq:q=b4:=hq
    simp only[X7] at lf
    cases b4 with
    |false=>
     subst hq
     repeat' first|refine st ?_|((with_reducible first|apply A8|apply A7);(·first|exact h2|exact h4))|(with_reducible first|apply A5|apply A4)<;>intro _
     all_goals rfl
    |true=>
     subst hq
     repeat' first|refine st ?_|((with_reducible first|apply A8|apply A7);(·first|exact h2|exact h4))|(with_reducible first|apply A5|apply A4)<;>intro _
     refine F3 A6 B4h B42 (λ(i:Nat)=>[.d (eI i)]) (λi=>[.cells [.d (.str []),.d dc,.d dk,.d df,.d dx],.cells [.d (.str []),.d .nil,.d .nil,.d .nil,.d .nil]]) (λi=>True) (λi=>0) 0 rfl rfl rfl rfl (λ_ _=>⟨rfl,rfl⟩) rfl trivial ?_
     repeat' first|refine st ?_|(with_reducible first|apply A5|apply A4)<;>intro _
     intro i _
     repeat' first|refine st ?_|(with_reducible first|apply A5|apply A4)<;>intro _
     refine F3 A6 B4i B43 (λ(i:Nat)=>[.d (eI i)]) (λi=>[.cells [.d (.str []),.d dc,.d dk,.d df,.d dx],.cells [.d (.str []),.d .nil,.d .nil,.d .nil,.d .nil]]) (λi=>True) (λi=>0) 0 rfl rfl rfl rfl (λ_ _=>⟨rfl,rfl⟩) rfl trivial ?_
     repeat' first|refine st ?_|(with_reducible first|apply A5|apply A4)<;>intro _
     intro j _
     repeat' first|refine st ?_|(with_reducible first|apply A5|apply A4)<;>intro _
     all_goals rfl
theorem C1z(x:TD)(h:x.ok):Pure Tryz.prog B50 [x.av] (.d (.bool (W0 x.t))):=by
 have hS:=C1d x h
 obtain⟨q,hq⟩:∃q,q=W0 x.t:=⟨_,rfl⟩
 rw[<- hq] at hS ⊢
 clear hq h
 obtain⟨⟨nm,cs,ks,fs,xs⟩,dc,dk,df,dx⟩:=x
 refine C2G.go A6 rfl ?_
 repeat' first|refine st ?_|((with_reducible first|apply A8|apply A7);(·exact hS))|(with_reducible first|apply A5|apply A4)<;>intro _
 all_goals rfl
theorem C1P(l:List (List UInt8))(hl:l.length<=1048576)(d:D)(hd:B5 d (D9 l))(s:List UInt8):∃n:Int,Pure Tryz.prog B5y [.d d,.d (.str s)] (.d (eI n))/\decide (0<=n)=l.contains s:=by
 have h1:=Z3 l
 have hm:=A1r l
 have hg0:=λi e=>@A4d l i e
 by_cases hin:s∈l
 ·obtain⟨k,hk⟩:=A1E.1 hin
  -- the first place
  obtain⟨j,hj,hf⟩:∃j,l[j]?=some s/\∀i,i<j->l[i]?≠some s:=by
   have hex:∃j,l[j]?=some s:=⟨k,hk⟩
   have:=Nat.strongRecOn (motive:=λn=>l[n]?=some s->∃j,l[j]?=some s/\∀i,i<j->l[i]?≠some s) k (λn ih hn=>by
    by_cases h:∃i,i<n/\l[i]?=some s
    ·obtain⟨i,hi,he⟩:=h;exact ih i hi he
    ·exact⟨n,hn,λi hi he=>h ⟨i,hi,he⟩⟩)
   exact this hk
  have hjl:=(B2.1 hj).1
  refine⟨j,?_,by rw[decide_eq_true (by omega)];simp[hin]⟩
  obtain⟨es,hes⟩:∃es,es=D9 l:=⟨_,rfl⟩
  rw[<- hes] at h1 hm hg0 hd
  clear hes
  refine B1I.go A6 rfl ?_
  repeat' first|refine st ?_|(with_reducible first|apply A5|apply A4)<;>intro _
  refine F3 A6 B4n B48 (λ(i:Nat)=>[.d (eI i)]) (λi=>[]) (λi=>i<=j) (λi=>j-i) 0 rfl rfl rfl rfl (λ_ _=>⟨rfl,rfl⟩) rfl (by omega) ?_
  repeat' first|refine st ?_|(with_reducible first|apply A5|apply A4)<;>intro _
  intro i hi
  obtain⟨x,hx⟩:∃x,l[i]?=some x:=⟨_,C9 (by omega)⟩
  have hg:es[((i:Nat):Int).toNat]?=some [.str x]:=hg0 i x hx
  have hil:(i:Int)<es.length:=by omega
  by_cases hij:i=j
  ·subst hij
   rw[hj] at hx
   cases hx
   have r1:s=s:=rfl
   repeat' first|refine st ?_|(with_reducible first|apply A5|apply A4)<;>intro _
   all_goals first|rfl|(exfalso;rename_i hh;exact hh rfl)
  ·have hne:¬s=x:=λe=>hf i (by omega) (by rw[hx,e])
   repeat' first|refine st ?_|(with_reducible first|apply A5|apply A4)<;>intro _
   exact⟨i+1,rfl,rfl,rfl,by omega,by omega⟩
 ·refine⟨-1,?_,by rw[decide_eq_false (by decide)];simp[hin]⟩
  obtain⟨es,hes⟩:∃es,es=D9 l:=⟨_,rfl⟩
  rw[<- hes] at h1 hm hg0 hd
  clear hes
  refine B1I.go A6 rfl ?_
  repeat' first|refine st ?_|(with_reducible first|apply A5|apply A4)<;>intro _
  refine F3 A6 B4n B48 (λ(i:Nat)=>[.d (eI i)]) (λi=>[]) (λi=>i<=l.length) (λi=>l.length-i) 0 rfl rfl rfl rfl (λ_ _=>⟨rfl,rfl⟩) rfl (by omega) ?_
  repeat' first|refine st ?_|(with_reducible first|apply A5|apply A4)<;>intro _
  intro i hi
  cases hx:l[i]? with
  |some x=>
   have hlt:=(B2.1 hx).1
   have hg:es[((i:Nat):Int).toNat]?=some [.str x]:=hg0 i x hx
   have hil:(i:Int)<es.length:=by omega
   have hne:¬s=x:=λe=>hin (by rw[e];exact C2 hx)
   repeat' first|refine st ?_|(with_reducible first|apply A5|apply A4)<;>intro _
   exact⟨i+1,rfl,rfl,rfl,by omega,by omega⟩
  |none=>
   have hge:=D1.1 hx
   have hil:(es.length:Int)<=i:=by omega
   repeat' first|refine st ?_|(with_reducible first|apply A5|apply A4)<;>intro _
   all_goals rfl
theorem C1O(l:List (List UInt8))(hl:l.length<=1048576)(d:D)(hd:B5 d (D9 l))(s:List UInt8):Pure Tryz.prog B5s [.d d,.d (.str s)] (.d (.bool (l.contains s))):=by
 obtain⟨n,h1,h2⟩:=C1P l hl d hd s
 rw[<- h2]
 clear h2
 refine C3n.go A6 rfl ?_
 repeat' first|refine st ?_|((with_reducible first|apply A8|apply A7);(·exact h1))|(with_reducible first|apply A5|apply A4)<;>intro _
 all_goals rfl
abbrev D7:Int:=1099511627776
def R8(c:List En)(at':Int)(nm:List UInt8)(ch:Ch):Int:=
 if S2 c at'≠0 then S2 c at' else if (I6 (C8 D7 nm c)).2.2=false then 11 else if 64<=(I6 (C8 D7 nm c)).2.1 then 5 else E5 (I6 (C8 D7 nm c)).1.t ch
theorem B0P(c:List En)(hc:c.length<=1048576)(hok:∀e∈c,e.ok)(d:D)(hd:B5 d (C4 c))(at':Int)(nm:List UInt8)(ch:Ch)(hch:J1 ch) :
  Pure Tryz.prog B52 [.d d,.d (eI at'),.d (.str nm),ch.av] (.d (eI (R8 c at' nm ch))):=by
 have hT:=A8c c hc d hd at'
 have hN:=A6t c hc hok d hd D7 nm
 have hso:=A43 (A0r (at':=D7) (nm:=nm) hok)
 have hE:=U7 (I6 (C8 D7 nm c)).1.t (I6 (C8 D7 nm c)).1.dc (I6 (C8 D7 nm c)).1.dk (I6 (C8 D7 nm c)).1.df (I6 (C8 D7 nm c)).1.dx hso.tok ch hch
 obtain⟨q,hq⟩:∃q,q=R8 c at' nm ch:=⟨_,rfl⟩
 rw[<- hq]
 unfold R8 at hq
 obtain⟨e,he⟩:∃e,e=S2 c at':=⟨_,rfl⟩
 rw[<- he] at hT hq
 obtain⟨⟨y,n,b⟩,hy⟩:∃z,z=I6 (C8 D7 nm c):=⟨_,rfl⟩
 rw[<- hy] at hN hq hE
 dsimp only at hN hq hE
 have hN:Bi.Pure Tryz.prog A3w [.d d,.d (eI D7),.d (.str nm)] (.tup [eT y.t.nm y.dc y.dk y.df y.dx,.d (eI n),.d (.bool b)]):=hN
 obtain⟨v,hv⟩:∃v,v=E5 y.t ch:=⟨_,rfl⟩
 rw[<- hv] at hE hq
 clear he hy hso hv
 obtain⟨k,cnm,to,⟨cn,ck,cl⟩,⟨vk,vn,vs⟩⟩:=ch
 by_cases g1:e=0
 rotate_left
 ·rw[if_pos g1] at hq
  subst hq
  refine A6C.go A6 rfl ?_
  repeat' first|refine st ?_|((with_reducible first|apply A8|apply A7);(·exact hT))|(with_reducible first|apply A5|apply A4)<;>intro _
  all_goals rfl
 subst g1
 rw[if_neg (by decide)] at hq
 cases b with
 |false=>
  rw[if_pos rfl] at hq
  subst hq
  refine A6C.go A6 rfl ?_
  repeat' first|refine st ?_|((with_reducible first|apply A8|apply A7);(·first|exact hT|exact hN))|(with_reducible first|apply A5|apply A4)<;>intro _
  all_goals rfl
 |true=>
  rw[if_neg (by decide)] at hq
  by_cases g2:64<=n
  ·rw[if_pos g2] at hq
   subst hq
   have g3:(64:Int)<=n:=by omega
   refine A6C.go A6 rfl ?_
   repeat' first|refine st ?_|((with_reducible first|apply A8|apply A7);(·first|exact hT|exact hN))|(with_reducible first|apply A5|apply A4)<;>intro _
   all_goals rfl
  ·rw[if_neg g2] at hq
   subst hq
   have g3:¬(64:Int)<=n:=by omega
   refine A6C.go A6 rfl ?_
   repeat' first|refine st ?_|((with_reducible first|apply A8|apply A7);(·first|exact hT|exact hN|exact hE))|(with_reducible first|apply A5|apply A4)<;>intro _
   all_goals rfl
theorem D0m(t:Tb)(c:Ch):(G8 t c).nm=t.nm:=by unfold G8;split;rfl;split;rfl;split<;>rfl
theorem D0p{t u:Tb}(h:nf t=nf u)(c:Ch):E5 t c=E5 u c/\nf (G8 t c)=nf (G8 u c):=by
 refine⟨?_,?_⟩
 ·rw[<- A2o,h,A2o]
 ·rw[<- A7B,h,A7B]
theorem A47:∀(l:List Ch)(x:TD)(i:Nat),J0 x.t=0->(TD.run x i l).2.2=0->J0 (TD.run x i l).1.t=0/\(TD.run x i l).2.1=i+l.length
 |[],x,i,h,_=>⟨h,rfl⟩
 |c::r,x,i,h,hr=>by
  unfold TD.run at hr ⊢
  by_cases hq:E5 x.t c=0
  ·rw[if_pos hq] at hr ⊢
   have:=A47 r _ (i+1) (A0t.2 (D0q hq)) hr
   exact⟨this.1,by rw[this.2,N9];omega⟩
  ·rw[if_neg hq] at hr
   exact absurd hr hq
theorem B97:∀(l:List Ch)(x y:TD)(i j:Nat),nf x.t=nf y.t->(TD.run x i l).2.2=(TD.run y j l).2.2/\(TD.run x i l).2.1+j=(TD.run y j l).2.1+i/\nf (TD.run x i l).1.t=nf (TD.run y j l).1.t
 |[],x,y,i,j,h=>⟨rfl,Nat.add_comm ..,h⟩
 |c::r,x,y,i,j,h=>by
  obtain⟨h1,h2⟩:=D0p h c
  by_cases hq:E5 x.t c=0
  ·have e1:TD.run x i (c::r)=TD.run (x.evo c) (i+1) r:=by rw[TD.run,if_pos hq]
   have e2:TD.run y j (c::r)=TD.run (y.evo c) (j+1) r:=by rw[TD.run,if_pos (by rw[<- h1];exact hq)]
   rw[e1,e2]
   have:=B97 r (x.evo c) (y.evo c) (i+1) (j+1) h2
   exact⟨this.1,by omega,this.2.2⟩
  ·have e1:TD.run x i (c::r)=(K4,i,E5 x.t c):=by rw[TD.run,if_neg hq]
   have e2:TD.run y j (c::r)=(K4,j,E5 y.t c):=by rw[TD.run,if_neg (by rw[<- h1];exact hq)]
   rw[e1,e2]
   exact⟨h1,Nat.add_comm ..,rfl⟩
def kiA(l:List Co)(k:Int):Int:=(l[k.toNat]?.map Co.k).getD 0
def kiE(a p:List Co):List Int->List Int->Int
 |c::cs,k::ks=>if kiA a c=kiA p k then kiE a p cs ks else 7
 |_,_=>0
theorem A7u{a p:List Co}:∀{cs ks:List Int}{i:Nat}{c k:Int},cs[i]?=some c->ks[i]?=some k->kiE a p (cs.drop i) (ks.drop i)=if kiA a c=kiA p k then kiE a p (cs.drop (i+1)) (ks.drop (i+1)) else 7:=by
 intro cs ks i c k h g
 obtain⟨h1,h2⟩:=B2.1 h
 obtain⟨g1,g2⟩:=B2.1 g
 rw[V5 h1,V5 g1,h2,g2]
 rfl
def Y2(x:TD)(c:List En)(nm:List UInt8):TD×Bool:=if nm=x.t.nm then (x,true) else ((I6 (C8 D7 nm c)).1,(I6 (C8 D7 nm c)).2.2)
def z6(x:TD)(c:List En)(f:Fo):Int:=
 if (Y2 x c f.tb).2=false then 11 else if f.cs.length=(Y2 x c f.tb).1.t.ks.length then kiE x.t.cs (Y2 x c f.tb).1.t.cs f.cs (Y2 x c f.tb).1.t.ks else 13
def A1g(x:TD)(c:List En):List Fo->Int
 |[]=>0
 |f::r=>if z6 x c f=0 then A1g x c r else z6 x c f
theorem D0E{x:TD}{c:List En}{l:List Fo}{i:Nat}{f:Fo}(h:l[i]?=some f):A1g x c (l.drop i)=if z6 x c f=0 then A1g x c (l.drop (i+1)) else z6 x c f:=by
 obtain⟨hlt,he⟩:=B2.1 h
 rw[V5 hlt,he];rfl
def S1(c:List En)(at':Int)(x:TD):Int:=
 if S2 c at'=0 then (if J0 x.t=0 then (if 16<=(F1 D7 c).length then 5 else if (I2 (F1 D7 c)).contains x.t.nm then 10 else A1g x c x.t.fs) else J0 x.t) else S2 c at'
theorem D1o{s:List En}(h:(I6 s).2.2=true):Vd (I6 s).1.t:=by
 unfold I6 at h ⊢
 split at h
 ·rename_i hb
  rw[if_pos hb]
  have h:=of_decide_eq_true h
  show Vd ((u7 s).runs (Q7 s)).1.t
  unfold TD.runs at h ⊢
  split at h
  ·rename_i ht
   rw[if_pos ht]
   exact A0t.1 (A47 _ _ _ (TD.cp_vd ht) h).1
  ·rename_i ht
   exact absurd h ht
 ·cases h
theorem D2m{x:TD}{c:List En}{nm:List UInt8}(hx:J0 x.t=0)(h:(Y2 x c nm).2=true):Vd (Y2 x c nm).1.t:=by
 unfold Y2 at h ⊢
 split
 ·exact A0t.1 hx
 ·rename_i hn
  rw[if_neg hn] at h
  exact D1o h
theorem A2r{l:List Co}{k:Int}{c:Co}(h:l[k.toNat]?=some c):kiA l k=c.k:=by unfold kiA;rw[h];rfl
theorem B0Q(c:List En)(hc:c.length<=1048576)(hok:∀e∈c,e.ok)(d:D)(hd:B5 d (C4 c))(at':Int)(x:TD)(hx:x.ok) :
  Pure Tryz.prog B53 [.d d,.d (eI at'),x.av] (.d (eI (S1 c at' x))):=by
 have hT:=A8c c hc d hd at'
 have hC:=A8n x.t x.dc x.dk x.df x.dx hx.tok
 have hM:=A3n c hc d hd D7
 have hml:=A2z (F1 D7 c)
 have hmc:=A2h D7 c
 have hsl:=Z3 (I2 (F1 D7 c))
 have hsd:B5 (l9 (I2 (F1 D7 c))) (D9 (I2 (F1 D7 c))):=X5 λe=>w8.1 e
 have hH:=C1O (I2 (F1 D7 c)) (by omega) _ hsd x.t.nm
 have hN:=λnm=>A6t c hc hok d hd D7 nm
 have hNo:=λnm=>(A43 (A0r (at':=D7) (nm:=nm) hok)).tok
 have hP:=λnm=>@D2m x c nm
 have hV:=@A0t x.t
 obtain⟨q,hq⟩:∃q,q=S1 c at' x:=⟨_,rfl⟩
 rw[<- hq]
 unfold S1 at hq
 obtain⟨e,he⟩:∃e,e=S2 c at':=⟨_,rfl⟩
 rw[<- he] at hT hq
 clear he
 obtain⟨X4,hnm⟩:∃n,n=I2 (F1 D7 c):=⟨_,rfl⟩
 rw[<- hnm] at hM hH hq hsd hsl hml
 rw[<- hml] at hq
 clear hnm
 obtain⟨nd,hnd⟩:∃n,n=l9 X4:=⟨_,rfl⟩
 rw[<- hnd] at hM hH hsd
 clear hnd
 obtain⟨ss,hss⟩:∃n,n=D9 X4:=⟨_,rfl⟩
 rw[<- hss] at hsd hsl
 clear hss
 obtain⟨te,hte⟩:∃n,n=J0 x.t:=⟨_,rfl⟩
 rw[<- hte] at hC hq
 by_cases g1:e=0
 rotate_left
 ·rw[if_neg g1] at hq
  subst hq
  refine A4D.go A6 rfl ?_
  repeat' first|refine st ?_|((with_reducible first|apply A8|apply A7);(·exact hT))|(with_reducible first|apply A5|apply A4)<;>intro _
  all_goals rfl
 subst g1
 rw[if_pos rfl] at hq
 by_cases g2:te=0
 rotate_left
 ·rw[if_neg g2] at hq
  subst hq
  refine A4D.go A6 rfl ?_
  repeat' first|refine st ?_|((with_reducible first|apply A8|apply A7);(·first|exact hT|exact hC))|(with_reducible first|apply A5|apply A4)<;>intro _
  all_goals rfl
 rw[if_pos g2] at hq
 subst g2
 have hv:=hV.1 hte.symm
 by_cases g3:16<=X4.length
 ·rw[if_pos g3] at hq
  subst hq
  have g4:(16:Int)<=ss.length:=by omega
  refine A4D.go A6 rfl ?_
  repeat' first|refine st ?_|((with_reducible first|apply A8|apply A7);(·first|exact hT|exact hC|exact hM))|(with_reducible first|apply A5|apply A4)<;>intro _
  all_goals first|rfl|(exfalso;omega)
 rw[if_neg g3] at hq
 have g4:¬(16:Int)<=ss.length:=by omega
 obtain⟨b,hb⟩:∃b,b=X4.contains x.t.nm:=⟨_,rfl⟩
 rw[<- hb] at hH hq
 cases b with
 |true=>
  rw[if_pos rfl] at hq
  subst hq
  refine A4D.go A6 rfl ?_
  repeat' first|refine st ?_|((with_reducible first|apply A8|apply A7);(·first|exact hT|exact hC|exact hM|exact hH))|(with_reducible first|apply A5|apply A4)<;>intro _
  all_goals first|rfl|(exfalso;omega)
 |false=>
  rw[if_neg (by decide)] at hq
  have hfl:=hv.fl
  have hfs:=hv.fs
  have h1:=c8 x.t.fs
  have hm:=y7 x.t.fs
  have hdf:=hx.tok.df
  have hdc:=hx.tok.dc
  have hcl:=G5 x.t.cs
  have hcm:=I1 x.t.cs
  have hc12:=hv.l2
  refine A4D.go A6 rfl ?_
  --L
  repeat' first|refine st ?_|((with_reducible first|apply A8|apply A7);(·first|exact hT|exact hC|exact hM|exact hH))|(with_reducible first|apply A5|apply A4)<;>intro _
  refine F3 A6 C5D C4x (λ(i:Nat)=>[.d (eI i)]) (λi=>[.cells [.d (.str x.t.nm),.d x.dc,.d x.dk,.d x.df,.d x.dx]]) (λi=>i<=x.t.fs.length/\q=A1g x c (x.t.fs.drop i)) (λi=>x.t.fs.length-i) 0 rfl rfl rfl rfl (λ_ _=>⟨rfl,rfl⟩) rfl ⟨by omega,hq⟩ ?_
  repeat' first|refine st ?_|(with_reducible first|apply A5|apply A4)<;>intro _
  intro i ⟨h4,h5⟩
  cases hy:x.t.fs[i]? with
  |some f=>
   have hlt:=(B2.1 hy).1
   have hg:=A0i hy
   obtain⟨_,_,hfi,_⟩:=hfs f (C2 hy)
   have hN2:=hN f.tb
   have hP2:=hP f.tb hte.symm
   have hO2:=hNo f.tb
   rw[D0E hy] at h5
   have k1:=B6 f.cs
   have k2:=D2 f.cs
   have hfd:=f.sld
   obtain⟨nl,cs,tb⟩:=f
   have hg:(F8 x.t.fs)[i]?=some [Fo.d ⟨nl,cs,tb⟩,.str tb]:=hg
   obtain⟨fd,hfe⟩:∃fd,fd=Fo.d ⟨nl,cs,tb⟩:=⟨_,rfl⟩
   rw[<- hfe] at hfd hg
   clear hfe
   dsimp only at k1 k2 hfd hN2 hP2 hO2 hfi
   obtain⟨ve,hve⟩:∃v,v=z6 x c ⟨nl,cs,tb⟩:=⟨_,rfl⟩
   rw[<- hve] at h5
   unfold z6 at hve
   dsimp only at hve
   unfold Y2 at hve hP2
   obtain⟨⟨y,n,b⟩,hyn⟩:∃z,z=I6 (C8 D7 tb c):=⟨_,rfl⟩
   rw[<- hyn] at hN2 hP2 hve hO2
   clear hyn
   dsimp only at hve hP2 hO2
   have hN2:Bi.Pure Tryz.prog A3w [.d d,.d (eI D7),.d (.str tb)] (.tup [eT y.t.nm y.dc y.dk y.df y.dx,.d (eI n),.d (.bool b)]):=hN2
   by_cases hs:tb=x.t.nm
   ·rw[if_pos hs] at hve
    rw[if_neg (by simp)] at hve
    rw[if_pos hs] at hP2
    have yvd:Vd x.t:=hP2 rfl
    have ydc:=hx.tok.dc
    have ydk:=hx.tok.dk
    have y1:=B6 x.t.ks
    have y2:=D2 x.t.ks
    have y3:=G5 x.t.cs
    have y4:=I1 x.t.cs
    have y5:=yvd.l2
    have y6:=hx.tok.hk
    dsimp only at hve
    by_cases hlen:cs.length=x.t.ks.length
    rotate_left
    ·rw[if_neg hlen] at hve
     rw[hve,if_neg (by decide)] at h5
     subst h5
     have g5:¬((cs.length:Nat):Int)=(A0 x.t.ks).length:=by omega
     repeat' first|refine st ?_|((with_reducible first|apply A8|apply A7);(·exact hN2))|(with_reducible first|apply A5|apply A4)<;>intro _
     all_goals first|rfl|(exfalso;omega)
    rw[if_pos hlen] at hve
    have g5:((cs.length:Nat):Int)=(A0 x.t.ks).length:=by omega
    repeat' first|refine st ?_|((with_reducible first|apply A8|apply A7);(·exact hN2))|(with_reducible first|apply A5|apply A4)<;>intro _
    refine F3 A6 B4l B46 (λ(k:Nat)=>[.d (eI k)]) (λk=>[.cells [.d (.str x.t.nm),.d x.dc,.d x.dk,.d x.df,.d x.dx],.cells [.d fd,.d (.str tb)],.cells [.d (.str x.t.nm),.d x.dc,.d x.dk,.d x.df,.d x.dx]]) (λk=>k<=cs.length/\ve=kiE x.t.cs x.t.cs (cs.drop k) (x.t.ks.drop k)) (λk=>cs.length-k) 0 rfl rfl rfl rfl (λ_ _=>⟨rfl,rfl⟩) rfl ⟨by omega,hve⟩ ?_
    repeat' first|refine st ?_|(with_reducible first|apply A5|apply A4)<;>intro _
    intro k ⟨h6,h7⟩
    cases hz:cs[k]? with
    |some ci=>
     have hlt2:=(B2.1 hz).1
     have hg2:=J9 hz
     obtain⟨ki,hki⟩:∃ki,x.t.ks[k]?=some ki:=⟨_,C9 (by omega)⟩
     have hg3:=J9 hki
     obtain⟨i1,i2⟩:=hfi ci (C2 hz)
     obtain⟨i3,i4,_⟩:=yvd.ks ki (C2 hki)
     obtain⟨ca,hca⟩:∃a,x.t.cs[ci.toNat]?=some a:=⟨_,C9 (by omega)⟩
     obtain⟨cb,hcb⟩:∃a,x.t.cs[ki.toNat]?=some a:=⟨_,C9 (by omega)⟩
     rw[A7u hz hki,A2r hca,A2r hcb] at h7
     have hg4:=L5 hca
     have hg5:=L5 hcb
     obtain⟨an,ak,al⟩:=ca
     obtain⟨bn,bk,bl⟩:=cb
     dsimp only at h7 hg4 hg5
     by_cases hkk:ak=bk
     ·rw[if_pos hkk] at h7
      subst hkk
      have r1:ak=ak:=rfl
      repeat' first|refine st ?_|(with_reducible first|apply A5|apply A4)<;>intro _
      all_goals first|exact⟨k+1,rfl,rfl,rfl,by omega,by omega,h7⟩|(exfalso;rename_i hh;exact hh rfl)
     ·rw[if_neg hkk] at h7
      rw[h7,if_neg (by decide)] at h5
      subst h5
      repeat' first|refine st ?_|(with_reducible first|apply A5|apply A4)<;>intro _
      all_goals rfl
    |none=>
     have hge2:=D1.1 hz
     rw[R1 hge2] at h7
     have h7:ve=0:=h7
     rw[if_pos h7] at h5
     repeat' first|refine st ?_|(with_reducible first|apply A5|apply A4)<;>intro _
     exact⟨i+1,rfl,rfl,rfl,by omega,by omega,h5⟩
   ·rw[if_neg hs] at hve hP2
    cases b with
    |false=>
     rw[if_pos rfl] at hve
     rw[hve,if_neg (by decide)] at h5
     subst h5
     repeat' first|refine st ?_|((with_reducible first|apply A8|apply A7);(·exact hN2))|(with_reducible first|apply A5|apply A4)<;>intro _
     all_goals rfl
    |true=>
    have yvd:Vd y.t:=hP2 rfl
    have ydc:=hO2.dc
    have ydk:=hO2.dk
    have y1:=B6 y.t.ks
    have y2:=D2 y.t.ks
    have y3:=G5 y.t.cs
    have y4:=I1 y.t.cs
    have y5:=yvd.l2
    have y6:=hO2.hk
    rw[if_neg (by simp)] at hve
    dsimp only at hve
    by_cases hlen:cs.length=y.t.ks.length
    rotate_left
    ·rw[if_neg hlen] at hve
     rw[hve,if_neg (by decide)] at h5
     subst h5
     have g5:¬((cs.length:Nat):Int)=(A0 y.t.ks).length:=by omega
     repeat' first|refine st ?_|((with_reducible first|apply A8|apply A7);(·exact hN2))|(with_reducible first|apply A5|apply A4)<;>intro _
     all_goals first|rfl|(exfalso;omega)
    rw[if_pos hlen] at hve
    have g5:((cs.length:Nat):Int)=(A0 y.t.ks).length:=by omega
    repeat' first|refine st ?_|((with_reducible first|apply A8|apply A7);(·exact hN2))|(with_reducible first|apply A5|apply A4)<;>intro _
    refine F3 A6 B4l B46 (λ(k:Nat)=>[.d (eI k)]) (λk=>[.cells [.d (.str x.t.nm),.d x.dc,.d x.dk,.d x.df,.d x.dx],.cells [.d fd,.d (.str tb)],.cells [.d (.str y.t.nm),.d y.dc,.d y.dk,.d y.df,.d y.dx]]) (λk=>k<=cs.length/\ve=kiE x.t.cs y.t.cs (cs.drop k) (y.t.ks.drop k)) (λk=>cs.length-k) 0 rfl rfl rfl rfl (λ_ _=>⟨rfl,rfl⟩) rfl ⟨by omega,hve⟩ ?_
    repeat' first|refine st ?_|(with_reducible first|apply A5|apply A4)<;>intro _
    intro k ⟨h6,h7⟩
    cases hz:cs[k]? with
    |some ci=>
     have hlt2:=(B2.1 hz).1
     have hg2:=J9 hz
     obtain⟨ki,hki⟩:∃ki,y.t.ks[k]?=some ki:=⟨_,C9 (by omega)⟩
     have hg3:=J9 hki
     obtain⟨i1,i2⟩:=hfi ci (C2 hz)
     obtain⟨i3,i4,_⟩:=yvd.ks ki (C2 hki)
     obtain⟨ca,hca⟩:∃a,x.t.cs[ci.toNat]?=some a:=⟨_,C9 (by omega)⟩
     obtain⟨cb,hcb⟩:∃a,y.t.cs[ki.toNat]?=some a:=⟨_,C9 (by omega)⟩
     rw[A7u hz hki,A2r hca,A2r hcb] at h7
     have hg4:=L5 hca
     have hg5:=L5 hcb
     obtain⟨an,ak,al⟩:=ca
     obtain⟨bn,bk,bl⟩:=cb
     dsimp only at h7 hg4 hg5
     by_cases hkk:ak=bk
     ·rw[if_pos hkk] at h7
      subst hkk
      have r1:ak=ak:=rfl
      repeat' first|refine st ?_|(with_reducible first|apply A5|apply A4)<;>intro _
      all_goals first|exact⟨k+1,rfl,rfl,rfl,by omega,by omega,h7⟩|(exfalso;rename_i hh;exact hh rfl)
     ·rw[if_neg hkk] at h7
      rw[h7,if_neg (by decide)] at h5
      subst h5
      repeat' first|refine st ?_|(with_reducible first|apply A5|apply A4)<;>intro _
      all_goals rfl
    |none=>
     have hge2:=D1.1 hz
     rw[R1 hge2] at h7
     have h7:ve=0:=h7
     rw[if_pos h7] at h5
     repeat' first|refine st ?_|(with_reducible first|apply A5|apply A4)<;>intro _
     exact⟨i+1,rfl,rfl,rfl,by omega,by omega,h5⟩
  |none=>
   have hge:=D1.1 hy
   rw[R1 hge] at h5
   rw[h5]
   repeat' first|refine st ?_|(with_reducible first|apply A5|apply A4)<;>intro _
   all_goals rfl
def F9(c:List En)(e:En):Int:=
 if S2 c e.tm=0 then (if H9 e.ch=false then (if W0 e.cr.t=false then 8 else R8 c e.tm e.tb e.ch) else (if e.tb=e.cr.t.nm then S1 c e.tm e.cr else 8)) else S2 c e.tm
theorem C0r(c:List En)(hc:c.length<=1048576)(hok:∀e∈c,e.ok)(d:D)(hd:B5 d (C4 c))(e:En)(he:e.ok) :
  Pure Tryz.prog A8Q [.d d,e.av] (.d (eI (F9 c e))):=by
 have hT:=A8c c hc d hd e.tm
 have hC:=A8d e
 have hZ:=C1G e.cr he.cr
 have hA:=B0P c hc hok d hd e.tm e.tb e.ch he.ch
 have hK:=B0Q c hc hok d hd e.tm e.cr he.cr
 obtain⟨q,hq⟩:∃q,q=F9 c e:=⟨_,rfl⟩
 rw[<- hq]
 unfold F9 at hq
 obtain⟨v1,g1⟩:∃v,v=S2 c e.tm:=⟨_,rfl⟩
 obtain⟨v2,g2⟩:∃v,v=H9 e.ch:=⟨_,rfl⟩
 obtain⟨v3,g3⟩:∃v,v=W0 e.cr.t:=⟨_,rfl⟩
 obtain⟨v4,g4⟩:∃v,v=R8 c e.tm e.tb e.ch:=⟨_,rfl⟩
 obtain⟨v5,g5⟩:∃v,v=S1 c e.tm e.cr:=⟨_,rfl⟩
 rw[<- g1] at hT hq
 rw[<- g2] at hC hq
 rw[<- g3] at hZ hq
 rw[<- g4] at hA hq
 rw[<- g5] at hK hq
 clear g1 g2 g3 g4 g5
 obtain⟨tm,tb,⟨⟨nm,cs,ks,fs,xs⟩,dc,dk,df,dx⟩,⟨k,cnm,to,⟨cn,ck,cl⟩,⟨vk,vn,vs⟩⟩⟩:=e
 by_cases q1:v1=0
 rotate_left
 ·rw[if_neg q1] at hq
  subst hq
  refine A4C.go A6 rfl ?_
  repeat' first|refine st ?_|((with_reducible first|apply A8|apply A7);(·exact hT))|(with_reducible first|apply A5|apply A4)<;>intro _
  all_goals rfl
 subst q1
 rw[if_pos rfl] at hq
 cases v2 with
 |false=>
  rw[if_pos rfl] at hq
  cases v3 with
  |false=>
   rw[if_pos rfl] at hq
   subst hq
   refine A4C.go A6 rfl ?_
   repeat' first|refine st ?_|((with_reducible first|apply A8|apply A7);(·first|exact hT|exact hC|exact hZ))|(with_reducible first|apply A5|apply A4)<;>intro _
   all_goals rfl
  |true=>
   rw[if_neg (by decide)] at hq
   subst hq
   refine A4C.go A6 rfl ?_
   repeat' first|refine st ?_|((with_reducible first|apply A8|apply A7);(·first|exact hT|exact hC|exact hZ|exact hA))|(with_reducible first|apply A5|apply A4)<;>intro _
   all_goals rfl
 |true=>
  rw[if_neg (by decide)] at hq
  by_cases q2:tb=nm
  ·rw[if_pos q2] at hq
   subst hq
   refine A4C.go A6 rfl ?_
   repeat' first|refine st ?_|((with_reducible first|apply A8|apply A7);(·first|exact hT|exact hC|exact hK))|(with_reducible first|apply A5|apply A4)<;>intro _
   all_goals rfl
  ·rw[if_neg q2] at hq
   subst hq
   refine A4C.go A6 rfl ?_
   repeat' first|refine st ?_|((with_reducible first|apply A8|apply A7);(·first|exact hT|exact hC))|(with_reducible first|apply A5|apply A4)<;>intro _
   all_goals rfl
def K7(E:List En->En->Int)(p:List En):List En->Int
 |[]=>0
 |e::r=>if E p e=0 then K7 E (p++[e]) r else E p e
theorem B6j{E:List En->En->Int}{c:List En}{i:Nat}{e:En}(h:c[i]?=some e):K7 E (c.take i) (c.drop i)=if E (c.take i) e=0 then K7 E (c.take (i+1)) (c.drop (i+1)) else E (c.take i) e:=by
 obtain⟨hlt,he⟩:=B2.1 h
 rw[V5 hlt,he,P5,h]
 rfl
theorem A4k(c:List En)(hc:c.length<=1048576)(hok:∀e∈c,e.ok)(d:D)(hd:B5 d (C4 c)) :
  Pure Tryz.prog A50 [.d d] (.d (eI (K7 F9 [] c))):=by
 have h1:=Q6 c
 have hm:=U1 c
 have hg0:=λi e=>@k7 c i e
 have hK:∀(i:Nat) (e:En),e.ok->∀d',B5 d' ((C4 c).take i)->Bi.Pure Tryz.prog A8Q [.d d',e.av] (.d (eI (F9 (c.take i) e))):=λi e he d' hd'=>by
  rw[A7e] at hd'
  exact C0r (c.take i) (by rw[N6];omega) (λx hx=>hok x (A1F hx)) d' hd' e he
 obtain⟨es,hes⟩:∃es,es=C4 c:=⟨_,rfl⟩
 rw[<- hes] at h1 hm hg0 hd hK
 clear hes
 obtain⟨q,hq⟩:∃q,q=K7 F9 [] c:=⟨_,rfl⟩
 rw[<- hq]
 refine C2H.go A6 rfl ?_
 repeat' first|refine st ?_|(with_reducible first|apply A5|apply A4)<;>intro _
 refine F3 A6 C5z C4t (λ(i:Nat)=>[.d (eI i)]) (λi=>[]) (λi=>i<=c.length/\q=K7 F9 (c.take i) (c.drop i)) (λi=>c.length-i) 0 rfl rfl rfl rfl (λ_ _=>⟨rfl,rfl⟩) rfl ⟨by omega,hq⟩ ?_
 repeat' first|refine st ?_|(with_reducible first|apply A5|apply A4)<;>intro _
 intro i ⟨g1,g2⟩
 cases hx:c[i]? with
 |some e=>
  have hlt:=(B2.1 hx).1
  have hg:es[((i:Nat):Int).toNat]?=some e.ds:=hg0 i e hx
  have hil:(i:Int)<es.length:=by omega
  rw[B6j hx] at g2
  rcases hd with ⟨rfl,hnil⟩|rfl
  ·exact absurd hil (by rw[hnil];simp)
  have hE:=hK i e (hok e (C2 hx)) (.sl ((es.drop (0:Int).toNat).take ((i:Int).toNat-(0:Int).toNat))) L4
  obtain⟨v,hv⟩:∃v,v=F9 (c.take i) e:=⟨_,rfl⟩
  rw[<- hv] at hE g2
  clear hv hK
  obtain⟨tm,tb,⟨⟨nm,cs,ks,fs,xs⟩,dc,dk,df,dx⟩,⟨k,cnm,to,⟨cn,ck,cl⟩,⟨vk,vn,vs⟩⟩⟩:=e
  by_cases q1:v=0
  ·rw[if_pos q1] at g2
   subst q1
   repeat' first|refine st ?_|((with_reducible first|apply A8|apply A7);(·exact hE))|(with_reducible first|apply A5|apply A4)<;>intro _
   exact⟨i+1,rfl,rfl,rfl,by omega,by omega,g2⟩
  ·rw[if_neg q1] at g2
   subst g2
   repeat' first|refine st ?_|((with_reducible first|apply A8|apply A7);(·exact hE))|(with_reducible first|apply A5|apply A4)<;>intro _
   all_goals rfl
 |none=>
  have hge:=D1.1 hx
  have hil:(es.length:Int)<=i:=by omega
  rw[R1 hge] at g2
  have g2:q=0:=g2
  subst g2
  repeat' first|refine st ?_|(with_reducible first|apply A5|apply A4)<;>intro _
  all_goals rfl
theorem B92:∀(l:List Ch)(x:TD)(i:Nat),(TD.runR x i l).2.2≠0->(TD.runR x i l).1=K4
 |[],x,i,h=>absurd rfl h
 |c::r,x,i,h=>by
  unfold TD.runR at h ⊢
  split at h
  ·rename_i hq
   rw[if_pos hq]
   exact B92 r _ _ h
  ·rename_i hq
   rw[if_neg hq]
theorem D2R(x:TD)(l:List Ch):Vd (x.runsR l).1.t\/(x.runsR l).1=K4:=by
 by_cases hq:J0 x.t=0
 ·by_cases he:(x.runsR l).2.2=0
  ·refine .inl (A0t.1 ?_)
   obtain⟨h1,h2⟩:=A48 x l
   rw[<- A2B,<- h2,A2B]
   rw[<- h1] at he
   unfold TD.runs at he ⊢
   rw[if_pos hq] at he ⊢
   exact(A47 _ _ _ (TD.cp_vd hq) he).1
  ·refine .inr ?_
   unfold TD.runsR at he ⊢
   rw[if_pos hq] at he ⊢
   exact B92 _ _ _ he
 ·refine .inr ?_
  unfold TD.runsR
  rw[if_neg hq]
theorem C8C(s:List En):Vd (R3 s).1.t\/(R3 s).1=K4:=by
 unfold R3
 split
 ·exact D2R _ _
 ·exact .inr rfl
theorem A9g{s:List En}(h:∀e∈s,e.ok):(R3 s).1.ok:=by
 unfold R3
 split
 ·exact B9d (A7N h) (A7M h)
 ·exact w6
def A1S(x:TD)(c:List En)(nm:List UInt8):TD×Bool:=if nm=x.t.nm then (x,true) else ((R3 (C8 D7 nm c)).1,decide ((R3 (C8 D7 nm c)).2.2=0))
def frR(x:TD)(c:List En)(f:Fo):Int:=
 if (A1S x c f.tb).2=false then 11 else if f.cs.length=(A1S x c f.tb).1.t.ks.length then kiE x.t.cs (A1S x c f.tb).1.t.cs f.cs (A1S x c f.tb).1.t.ks else 13
theorem C1y(c:List En)(hc:c.length<=1048576)(hok:∀e∈c,e.ok)(d:D)(hd:B5 d (C4 c))(x:TD)(hx:x.ok)(hv:Vd x.t)(f:Fo)(hf:f∈x.t.fs) :
  Pure Tryz.prog B4Y [.d d,x.av,.agg [.d (Fo.d f),.d (.str f.tb)]] (.d (eI (frR x c f))):=by
 have hN2:=A6y c hc hok d hd D7 f.tb
 have hA:=C8C (C8 D7 f.tb c)
 have hO2:=(A9g (A0r (at':=D7) (nm:=f.tb) hok)).tok
 obtain⟨_,hfn,hfi,_⟩:=hv.fs f hf
 have hdc:=hx.tok.dc
 have hcl:=G5 x.t.cs
 have hcm:=I1 x.t.cs
 have hc12:=hv.l2
 have k1:=B6 f.cs
 have k2:=D2 f.cs
 have hfd:=f.sld
 have hfl:=(hx.tok.hfc f hf).1
 obtain⟨nl,cs,tb⟩:=f
 obtain⟨fd,hfe⟩:∃fd,fd=Fo.d ⟨nl,cs,tb⟩:=⟨_,rfl⟩
 dsimp only
 rw[<- hfe] at hfd ⊢
 clear hfe hf
 dsimp only at k1 k2 hfd hN2 hA hO2 hfi hfn hfl
 obtain⟨ve,hve⟩:∃v,v=frR x c ⟨nl,cs,tb⟩:=⟨_,rfl⟩
 rw[<- hve]
 unfold frR at hve
 dsimp only at hve
 unfold A1S at hve
 obtain⟨⟨y,n,b⟩,hyn⟩:∃z,z=R3 (C8 D7 tb c):=⟨_,rfl⟩
 rw[<- hyn] at hN2 hve hO2 hA
 clear hyn
 dsimp only at hve hO2 hA
 have hN2:Bi.Pure Tryz.prog A4Z [.d d,.d (eI D7),.d (.str tb)] (.tup [eT y.t.nm y.dc y.dk y.df y.dx,.d (eI n),.d (eI b)]):=hN2
 by_cases hs:tb=x.t.nm
 ·rw[if_pos hs] at hve
  rw[if_neg (by simp)] at hve
  have yvd:Vd x.t:=hv
  have ydc:=hx.tok.dc
  have ydk:=hx.tok.dk
  have y1:=B6 x.t.ks
  have y2:=D2 x.t.ks
  have y3:=G5 x.t.cs
  have y4:=I1 x.t.cs
  have y5:=yvd.l2
  have y6:=hx.tok.hk
  dsimp only at hve
  by_cases hlen:cs.length=x.t.ks.length
  rotate_left
  ·rw[if_neg hlen] at hve
   subst hve
   have g5:¬((cs.length:Nat):Int)=(A0 x.t.ks).length:=by omega
   have g6:¬((A0 cs).length:Int)=(A0 x.t.ks).length:=by omega
   refine A4B.go A6 rfl ?_
   repeat' first|refine st ?_|((with_reducible first|apply A8|apply A7);(·exact hN2))|(with_reducible first|apply A5|apply A4)<;>intro _
   all_goals first|rfl|(exfalso;omega)
  rw[if_pos hlen] at hve
  have g5:((cs.length:Nat):Int)=(A0 x.t.ks).length:=by omega
  have g6:((A0 cs).length:Int)=(A0 x.t.ks).length:=by omega
  refine A4B.go A6 rfl ?_
  repeat' first|refine st ?_|((with_reducible first|apply A8|apply A7);(·exact hN2))|(with_reducible first|apply A5|apply A4)<;>intro _
  refine F3 A6 B4k B45 (λ(k:Nat)=>[.d (eI k)]) (λk=>[.cells [.d (.str x.t.nm),.d x.dc,.d x.dk,.d x.df,.d x.dx],.cells [.d fd,.d (.str tb)],.cells [.d (.str x.t.nm),.d x.dc,.d x.dk,.d x.df,.d x.dx]]) (λk=>k<=cs.length/\ve=kiE x.t.cs x.t.cs (cs.drop k) (x.t.ks.drop k)) (λk=>cs.length-k) 0 rfl rfl rfl rfl (λ_ _=>⟨rfl,rfl⟩) rfl ⟨by omega,hve⟩ ?_
  repeat' first|refine st ?_|(with_reducible first|apply A5|apply A4)<;>intro _
  intro k ⟨h6,h7⟩
  cases hz:cs[k]? with
  |some ci=>
   have hlt2:=(B2.1 hz).1
   have hg2:=J9 hz
   obtain⟨ki,hki⟩:∃ki,x.t.ks[k]?=some ki:=⟨_,C9 (by omega)⟩
   have hg3:=J9 hki
   obtain⟨i1,i2⟩:=hfi ci (C2 hz)
   obtain⟨i3,i4,_⟩:=yvd.ks ki (C2 hki)
   obtain⟨ca,hca⟩:∃a,x.t.cs[ci.toNat]?=some a:=⟨_,C9 (by omega)⟩
   obtain⟨cb,hcb⟩:∃a,x.t.cs[ki.toNat]?=some a:=⟨_,C9 (by omega)⟩
   rw[A7u hz hki,A2r hca,A2r hcb] at h7
   have hg4:=L5 hca
   have hg5:=L5 hcb
   obtain⟨an,ak,al⟩:=ca
   obtain⟨bn,bk,bl⟩:=cb
   dsimp only at h7 hg4 hg5
   by_cases hkk:ak=bk
   ·rw[if_pos hkk] at h7
    subst hkk
    have r1:ak=ak:=rfl
    repeat' first|refine st ?_|(with_reducible first|apply A5|apply A4)<;>intro _
    all_goals first|exact⟨k+1,rfl,rfl,rfl,by omega,by omega,h7⟩|(exfalso;rename_i hh;exact hh rfl)
   ·rw[if_neg hkk] at h7
    subst h7
    repeat' first|refine st ?_|(with_reducible first|apply A5|apply A4)<;>intro _
    all_goals rfl
  |none=>
   have hge2:=D1.1 hz
   rw[R1 hge2] at h7
   have h7:ve=0:=h7
   subst h7
   repeat' first|refine st ?_|(with_reducible first|apply A5|apply A4)<;>intro _
   all_goals rfl
 ·rw[if_neg hs] at hve
  dsimp only at hve
  by_cases hb:b=0
  rotate_left
  ·rw[decide_eq_false hb,if_pos rfl] at hve
   subst hve
   refine A4B.go A6 rfl ?_
   repeat' first|refine st ?_|((with_reducible first|apply A8|apply A7);(·exact hN2))|(with_reducible first|apply A5|apply A4)<;>intro _
   all_goals rfl
  subst hb
  rw[decide_eq_true rfl,if_neg (by decide)] at hve
  have ydc:=hO2.dc
  have ydk:=hO2.dk
  have y1:=B6 y.t.ks
  have y2:=D2 y.t.ks
  have y3:=G5 y.t.cs
  have y4:=I1 y.t.cs
  have y6:=hO2.hk
  by_cases hlen:cs.length=y.t.ks.length
  rotate_left
  ·rw[if_neg hlen] at hve
   subst hve
   have g5:¬((cs.length:Nat):Int)=(A0 y.t.ks).length:=by omega
   have g6:¬((A0 cs).length:Int)=(A0 y.t.ks).length:=by omega
   refine A4B.go A6 rfl ?_
   repeat' first|refine st ?_|((with_reducible first|apply A8|apply A7);(·exact hN2))|(with_reducible first|apply A5|apply A4)<;>intro _
   all_goals first|rfl|(exfalso;omega)
  have yvd:Vd y.t:=by
   rcases hA with h|h
   ·exact h
   ·exfalso
    rw[h] at hlen
    exact hfn (A28.1 hlen)
  have y5:=yvd.l2
  rw[if_pos hlen] at hve
  have g5:((cs.length:Nat):Int)=(A0 y.t.ks).length:=by omega
  have g6:((A0 cs).length:Int)=(A0 y.t.ks).length:=by omega
  refine A4B.go A6 rfl ?_
  repeat' first|refine st ?_|((with_reducible first|apply A8|apply A7);(·exact hN2))|(with_reducible first|apply A5|apply A4)<;>intro _
  refine F3 A6 B4k B45 (λ(k:Nat)=>[.d (eI k)]) (λk=>[.cells [.d (.str x.t.nm),.d x.dc,.d x.dk,.d x.df,.d x.dx],.cells [.d fd,.d (.str tb)],.cells [.d (.str y.t.nm),.d y.dc,.d y.dk,.d y.df,.d y.dx],.cells [.d (.str y.t.nm),.d y.dc,.d y.dk,.d y.df,.d y.dx]]) (λk=>k<=cs.length/\ve=kiE x.t.cs y.t.cs (cs.drop k) (y.t.ks.drop k)) (λk=>cs.length-k) 0 rfl rfl rfl rfl (λ_ _=>⟨rfl,rfl⟩) rfl ⟨by omega,hve⟩ ?_
  repeat' first|refine st ?_|(with_reducible first|apply A5|apply A4)<;>intro _
  intro k ⟨h6,h7⟩
  cases hz:cs[k]? with
  |some ci=>
   have hlt2:=(B2.1 hz).1
   have hg2:=J9 hz
   obtain⟨ki,hki⟩:∃ki,y.t.ks[k]?=some ki:=⟨_,C9 (by omega)⟩
   have hg3:=J9 hki
   obtain⟨i1,i2⟩:=hfi ci (C2 hz)
   obtain⟨i3,i4,_⟩:=yvd.ks ki (C2 hki)
   obtain⟨ca,hca⟩:∃a,x.t.cs[ci.toNat]?=some a:=⟨_,C9 (by omega)⟩
   obtain⟨cb,hcb⟩:∃a,y.t.cs[ki.toNat]?=some a:=⟨_,C9 (by omega)⟩
   rw[A7u hz hki,A2r hca,A2r hcb] at h7
   have hg4:=L5 hca
   have hg5:=L5 hcb
   obtain⟨an,ak,al⟩:=ca
   obtain⟨bn,bk,bl⟩:=cb
   dsimp only at h7 hg4 hg5
   by_cases hkk:ak=bk
   ·rw[if_pos hkk] at h7
    subst hkk
    have r1:ak=ak:=rfl
    repeat' first|refine st ?_|(with_reducible first|apply A5|apply A4)<;>intro _
    all_goals first|exact⟨k+1,rfl,rfl,rfl,by omega,by omega,h7⟩|(exfalso;rename_i hh;exact hh rfl)
   ·rw[if_neg hkk] at h7
    subst h7
    repeat' first|refine st ?_|(with_reducible first|apply A5|apply A4)<;>intro _
    all_goals rfl
  |none=>
   have hge2:=D1.1 hz
   rw[R1 hge2] at h7
   have h7:ve=0:=h7
   subst h7
   repeat' first|refine st ?_|(with_reducible first|apply A5|apply A4)<;>intro _
   all_goals rfl
end Go.Proofs
end
