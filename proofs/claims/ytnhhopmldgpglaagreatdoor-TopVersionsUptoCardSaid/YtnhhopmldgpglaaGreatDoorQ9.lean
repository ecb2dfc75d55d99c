/- Texts of this claim, joined. No condition. -/
import Derived.Test.YtnhhopmldgpglaaGreatDoorQ8
import Derived.Sort.Walk0
set_option linter.unusedSimpArgs false
set_option linter.unusedVariables false
set_option maxRecDepth 10000
set_option maxHeartbeats 4000000
section
namespace Go.Proofs
open Go.Bi
theorem B74{l:List En}(h:∀e∈l,e.ok):(u7 l).ok:=by
 cases l with
 |nil=>exact A2E
 |cons e r=>
  show(if O8 e.ch=true then e.cr else P1).ok
  split
  ·exact(h e (by simp)).cr
  ·exact A2E
theorem B73{l:List En}(h:∀e∈l,e.ok):∀c∈Q8 l,I1 c:=by
 intro c hc
 unfold Q8 at hc
 split at hc
 ·obtain⟨e,he,rfl⟩:=E6.1 hc
  exact(h e (List.mem_of_mem_tail he)).ch
 ·cases hc
theorem C9y(l:List En):(Q8 l).length<=l.length:=by
 unfold Q8
 split
 ·rw[C7,List.length_tail];omega
 ·simp
def H7(at':Int)(nm:List UInt8)(c:List En):List En:=c.filter (T5 at' nm)
theorem B8C(at':Int)(nm:List UInt8)(c:List En):(H7 at' nm c).length<=c.length:=A26 ..
theorem A6b{at':Int}{nm:List UInt8}{c:List En}(h:∀e∈c,e.ok):∀e∈H7 at' nm c,e.ok:=λe he=>h e (A0q.1 he).1
def J7(s:List En):TD×Nat×Bool:=if x3 s then (((u7 s).runs (Q8 s)).1,((u7 s).runs (Q8 s)).2.1,decide (((u7 s).runs (Q8 s)).2.2=0)) else (P1,0,false)
theorem A8c(c:List En)(hc:c.length<=1048576)(hok:∀e∈c,e.ok)(d:D)(hd:B8 d (E8 c))(at':Int)(nm:List UInt8) :
  Pure Tryz.prog A53 [.d d,.d (eI at'),.d (.str nm)] (.tup [(J7 (H7 at' nm c)).1.av,.d (eI ((J7 (H7 at' nm c)).2.1:Nat)),.d (.bool (J7 (H7 at' nm c)).2.2)]):=by
 have hS:=A8d A54 at' nm (T5 at' nm) (B1m at' nm) c hc d hd
 have hsl:=B8C at' nm c
 have hso:=A6b (at':=at') (nm:=nm) hok
 rw[show c.filter (T5 at' nm)=H7 at' nm c from rfl] at hS
 obtain⟨s,hs⟩:∃s,s=H7 at' nm c:=⟨_,rfl⟩
 rw[<- hs] at hS hsl hso ⊢
 have hH:=B12 s (by omega) (B9 (E8 s).isEmpty (E8 s)) (V8 λe=>s5.1 e)
 have hcl:=C9y s
 have hR:=C0h (u7 s) (B74 hso) (Q8 s) (by omega) (B73 hso) (B9 (I2 (Q8 s)).isEmpty (I2 (Q8 s))) (V8 λe=>s5.1 e)
 obtain⟨q,hq⟩:∃q,q=J7 s:=⟨_,rfl⟩
 rw[<- hq]
 unfold J7 at hq
 obtain⟨T,hT⟩:∃T,T=u7 s:=⟨_,rfl⟩
 rw[<- hT] at hH hR hq
 obtain⟨dl,hdl⟩:∃z,z=B9 (I2 (Q8 s)).isEmpty (I2 (Q8 s)):=⟨_,rfl⟩
 rw[<- hdl] at hH hR
 obtain⟨de,hde⟩:∃z,z=B9 (E8 s).isEmpty (E8 s):=⟨_,rfl⟩
 rw[<- hde] at hS hH
 obtain⟨⟨y,n,e⟩,hy⟩:∃z,z=T.runs (Q8 s):=⟨_,rfl⟩
 rw[<- hy] at hR hq
 dsimp only at hR hq
 clear hs hT hdl hde hy hso
 cases hb:x3 s with
 |false=>
  rw[hb] at hH hq
  rw[if_neg (by decide)] at hq
  subst hq
  obtain⟨⟨tn,cs,ks,fs,xs⟩,dc,dk,df,dx⟩:=T
  refine B1w.go A6 rfl ?_
  repeat' first|refine st ?_|((with_reducible first|apply A9|apply A8);(·first|exact hS|exact hH))|(with_reducible first|apply A5|apply A4)<;>intro _
  all_goals rfl
 |true=>
  rw[hb] at hH hq
  rw[if_pos rfl] at hq
  subst hq
  obtain⟨⟨tn,cs,ks,fs,xs⟩,dc,dk,df,dx⟩:=T
  have hR:Bi.Pure Tryz.prog A8G [eT tn dc dk df dx,.d dl] (.tup [eT y.t.nm y.dc y.dk y.df y.dx,.d (eI n),.d (eI e)]):=hR
  refine B1w.go A6 rfl ?_
  repeat' first|refine st ?_|((with_reducible first|apply A9|apply A8);(·first|exact hS|exact hH|exact hR))|(with_reducible first|apply A5|apply A4)<;>intro _
  all_goals rfl
theorem B0b{s:List En}(h:∀e∈s,e.ok):(J7 s).1.ok:=by
 unfold J7
 split
 ·exact D1O (B74 h) (B73 h)
 ·exact A2E
theorem B9W(c:List En)(hc:c.length<=1048576)(hok:∀e∈c,e.ok)(d:D)(hd:B8 d (E8 c))(at':Int)(nm:List UInt8) :
  Pure Tryz.prog A6M [.d d,.d (eI at'),.d (.str nm)] (if (J7 (H7 at' nm c)).2.2 then .tup [(J7 (H7 at' nm c)).1.av,.d (eI ((J7 (H7 at' nm c)).2.1:Nat)),.d (eI 0)] else .tup [P1.av,.d (eI 0),.d (eI 11)]):=by
 have hN:=A8c c hc hok d hd at' nm
 obtain⟨⟨y,n,b⟩,hq⟩:∃q,q=J7 (H7 at' nm c):=⟨_,rfl⟩
 rw[<- hq] at hN ⊢
 dsimp only at hN ⊢
 have hN:Bi.Pure Tryz.prog A53 [.d d,.d (eI at'),.d (.str nm)] (.tup [eT y.t.nm y.dc y.dk y.df y.dx,.d (eI n),.d (.bool b)]):=hN
 clear hq
 cases b with
 |false=>
  rw[if_neg (by decide)]
  refine B1u.go A6 rfl ?_
  repeat' first|refine st ?_|((with_reducible first|apply A9|apply A8);(·exact hN))|(with_reducible first|apply A5|apply A4)<;>intro _
  all_goals rfl
 |true=>
  rw[if_pos rfl]
  refine B1u.go A6 rfl ?_
  repeat' first|refine st ?_|((with_reducible first|apply A9|apply A8);(·exact hN))|(with_reducible first|apply A5|apply A4)<;>intro _
  all_goals rfl
def X3(c:List En)(at':Int):Int:=
 if at'<0\/1099511627776<=at' then 6 else match c[c.length-1]? with
  |none=>0
  |some e=>if at'<e.tm then 9 else 0
theorem B10(c:List En)(hc:c.length<=1048576)(d:D)(hd:B8 d (E8 c))(at':Int):Pure Tryz.prog B4h [.d d,.d (eI at')] (.d (eI (X3 c at'))):=by
 have h1:=A0b c
 have hm:=A1f c
 have hg0:=λi e=>@A5t c i e
 obtain⟨q,hq⟩:∃q,q=X3 c at':=⟨_,rfl⟩
 rw[<- hq]
 unfold X3 at hq
 obtain⟨es,hes⟩:∃es,es=E8 c:=⟨_,rfl⟩
 rw[<- hes] at h1 hm hg0 hd
 clear hes
 by_cases g1:at'<0
 ·rw[if_pos (.inl g1)] at hq
  subst hq
  refine A4I.go A6 rfl ?_
  repeat' first|refine st ?_|(with_reducible first|apply A5|apply A4)<;>intro _
  all_goals rfl
 by_cases g2:1099511627776<=at'
 ·rw[if_pos (.inr g2)] at hq
  subst hq
  refine A4I.go A6 rfl ?_
  repeat' first|refine st ?_|(with_reducible first|apply A5|apply A4)<;>intro _
  all_goals rfl
 rw[if_neg (by omega)] at hq
 cases hx:c[c.length-1]? with
 |none=>
  rw[hx] at hq
  have hge:=E4.1 hx
  dsimp only at hq
  subst hq
  have h0:es.length=0:=by omega
  refine A4I.go A6 rfl ?_
  repeat' first|refine st ?_|(with_reducible first|apply A5|apply A4)<;>intro _
  all_goals rfl
 |some e=>
  rw[hx] at hq
  dsimp only at hq
  have hlt:=(B2.1 hx).1
  have hg:es[((es.length:Int)-1).toNat]?=some e.ds:=by rw[show((es.length:Int)-1).toNat=c.length-1 by omega];exact hg0 _ e hx
  have hl:0<es.length:=by omega
  obtain⟨tm,tb,⟨⟨nm',cs,ks,fs,xs⟩,dc,dk,df,dx⟩,⟨k,cnm,to,⟨cn,ck,cl⟩,⟨vk,vn,vs⟩⟩⟩:=e
  dsimp only at hq
  by_cases g3:at'<tm
  ·rw[if_pos g3] at hq
   subst hq
   refine A4I.go A6 rfl ?_
   repeat' first|refine st ?_|(with_reducible first|apply A5|apply A4)<;>intro _
   all_goals rfl
  ·rw[if_neg g3] at hq
   subst hq
   refine A4I.go A6 rfl ?_
   repeat' first|refine st ?_|(with_reducible first|apply A5|apply A4)<;>intro _
   all_goals rfl
def rhT(s:List En):TD:=s.foldl (λt e=>if O8 e.ch then e.cr else t) P1
def rhC(s:List En):List Ch:=(s.filter λe=>!O8 e.ch).map En.ch
def rhB(s:List En):Bool:=s.any λe=>O8 e.ch
end Go.Proofs
end
section
namespace Go.Bi
open Go Go.Proofs Go.Sort Go.Shelf
section
variable {P:Program}{M:C4}{G:Gh}{os:List AO}{w w':World}
def J0(zs:List (List UInt8)):List (List D):=zs.map λz=>[.str z]
theorem A1r(zs:List (List UInt8)):(J0 zs).length=zs.length:=by simp[J0]
theorem B0E(zs:List (List UInt8)):∀e∈J0 zs,e.length=1:=by
 intro e he
 obtain⟨z,_,rfl⟩:=E6.1 he
 rfl
theorem D1A(he:C1 M G os w){id:Nat}{zs ys:List (List UInt8)}(ho:os[id]?=some (.arr (J0 zs) 1 0 false))(hlen:ys.length=zs.length)(n:Nat) :
  C1 M G (os.set id (.arr (J0 ys) 1 0 false)) (putRow encStr (Sort.ahead w n) (G.blk id) 0 ys.toArray)/\D9 M G os w M G (os.set id (.arr (J0 ys) 1 0 false)) (putRow encStr (Sort.ahead w n) (G.blk id) 0 ys.toArray):=by
 obtain⟨h1,h2,h3,h4,h5⟩:=he.obj id _ ho
 obtain⟨ca,t,h6,h7,h8,h9,h10,h11⟩:=h5 rfl
 have hlt:=(B2.1 ho).1
 have hno:∀a v,M a=some v->a.block=G.blk id->False:=λa v ha hb=>by
  obtain⟨es',sz',frz',nl',h12,h13⟩:=he.sep id a v (E5.arr ho) ha hb
  rw[ho] at h12
  cases h12
  omega
 have hk:L9 G G id (os.set id (.arr (J0 ys) 1 0 false)) (.arr (J0 zs) 1 0 false):=⟨J0 ys,0,false,by simp[hlt],by rw[A1r,A1r];omega,λ_=>⟨rfl,rfl,rfl⟩⟩
 have hoth:∀b,b≠G.blk id->(putRow encStr (Sort.ahead w n) (G.blk id) 0 ys.toArray).heap[b]?=w.heap[b]?:=λb hb=>B7s _ _ b hb
 have hs:=l9 he (w':=putRow encStr (Sort.ahead w n) (G.blk id) 0 ys.toArray) (M':=M) ho rfl rfl rfl rfl (by simp) hoth (λ_ _ h=>h) (λ_ _ h=>.inl h) hk
 refine⟨u5 he ho rfl rfl rfl rfl (by simp) hoth (λ_ _ h=>h) (λ_ _ h=>.inl h) hk (λ_ _=>rfl) (λa v ha hb=>(hno a v ha hb).elim) (λa v ha hb=>(hno a v ha hb).elim) ?_,hs⟩
 rw[A1r] at h8
 refine⟨h1,B0E ys,S8 _,λh=>(by cases h),λ_=>⟨putCells encStr 0 ys.toArray ca,t,?_,?_,?_,h9,λi j e x hi hj=>?_,λo ho=>(by omega)⟩⟩
 ·show(mapBlock (Sort.ahead w n) (G.blk id) _).heap[G.blk id]?=_
  unfold mapBlock
  simp only[A4v,if_true]
  show Option.map _ w.heap[G.blk id]?=_
  rw[h6];rfl
 ·unfold putCells
  rw[Array.size_mapIdx,h7]
 ·rw[A1r];omega
 ·obtain⟨z,hz,rfl⟩:∃z,ys[i]?=some z/\e=[.str z]:=by
   unfold J0 at hi
   rw[F4] at hi
   cases hy:ys[i]? with
   |none=>rw[hy] at hi;cases hi
   |some z=>rw[hy] at hi;cases hi;exact⟨z,rfl,rfl⟩
  have hil:=(B2.1 hz).1
  cases j with
  |succ j=>cases hj
  |zero=>
   cases hj
   refine⟨encStr z,?_,.str _⟩
   unfold putCells
   have hic:i*1+0<ca.size:=by rw[h7];omega
   rw[Array.getElem?_mapIdx,J1 hic,A02,if_pos (by simp;omega)]
   have:ys.toArray[i*1+0-0]! = z:=by
    have e:i*1+0-0=i:=by omega
    rw[e,getElem!_pos _ i (by simpa using hil)]
    simpa using(B2.1 hz).2
   rw[this]
theorem D1B(he:C1 M G os w){id:Nat}{zs:List (List UInt8)}(ho:os[id]?=some (.arr (J0 zs) 1 0 false)):Holds encStr w (G.blk id) 0 zs.toArray:=by
 obtain⟨h1,h2,h3,h4,h5⟩:=he.obj id _ ho
 obtain⟨ca,t,h6,h7,h8,h9,h10,h11⟩:=h5 rfl
 intro j hj
 have hj':j<zs.length:=by simpa using hj
 have hz:(J0 zs)[j]?=some [.str zs[j]]:=by unfold J0;rw[F4,C5 hj'];rfl
 obtain⟨u,hu,hr⟩:=h10 j 0 _ _ hz rfl
 cases hr
 rw[Nat.mul_one,A1G] at hu
 refine⟨?_,?_⟩
 ·have:zs.toArray[j]! = zs[j]:=by rw[getElem!_pos _ j hj];simp
  rw[this,s7]
  unfold World.cell?
  rw[h6]
  simpa using hu
 ·unfold World.frozen?
  rw[h6]
  simp
theorem D26{ρ:Ren}(L:Lays.n190 P ρ)(he:Enters P (ρ.f 190))(zs:List (List UInt8))(nl:Bool)(hz:zs.length<4611686018427387904) :
  B4 P (ρ.f 190) [.arr 0 (J0 zs).length] [.arr (J0 zs) 1 0 nl] (λr os'=>r=.tup []/\os'=[.arr (J0 (zs.mergeSort λx y=>decide (x<=y))) 1 0 nl]):=by
 refine⟨he,λM G w vs hE hl hv=>?_⟩
 obtain⟨v,rfl⟩:∃v,vs=#[v]:=by
  obtain⟨l⟩:=vs
  match l,hl with
  |[x],_=>exact⟨x,rfl⟩
 have hval:=hv 0 _ v rfl rfl
 obtain⟨h0,es,sz,frz,nl',h1,h2,h3⟩:=hval
 cases h1
 have hv:=h3 rfl
 subst hv
 unfold Gh.slv
 cases nl with
 |true=>
  have hnil:J0 zs=[]:=(hE.obj 0 _ rfl).2.2.2.1 rfl
  have hzs:zs=[]:=by unfold J0 at hnil;simpa using hnil
  subst hzs
  rw[if_pos rfl]
  refine(Any.slices_Sort_string_none L none 0 w).mono ?_
  rintro e w' ⟨rfl,rfl⟩
  exact⟨_,rfl,M,G,.tup [],_,hE,D9.refl ..,⟨#[],rfl,rfl,by simp⟩,rfl,by simp⟩
 |false=>
  rw[if_neg (by decide),A1r]
  have hlt:=OR.live_lt hE (id:=0) rfl rfl
  refine(Any.slices_Sort_string L (G.blk 0) 0 (G.cap 0) zs w (D1B hE (id:=0) rfl) hlt hz).mono ?_
  rintro e w' ⟨rfl,n,xs,rfl⟩
  obtain⟨e1,s1⟩:=D1A hE (id:=0) (ys:=zs.mergeSort λx y=>decide (x<=y)) rfl (by simp) n
  have hh:∀b,b<(putRow encStr (Sort.ahead w n) (G.blk 0) 0 (zs.mergeSort λx y=>decide (x<=y)).toArray).heap.size->(grow (putRow encStr (Sort.ahead w n) (G.blk 0) 0 (zs.mergeSort λx y=>decide (x<=y)).toArray) xs).heap[b]?=(putRow encStr (Sort.ahead w n) (G.blk 0) 0 (zs.mergeSort λx y=>decide (x<=y)).toArray).heap[b]?:=λb hb=>by
   unfold grow
   exact A1B hb
  refine⟨_,rfl,M,G,.tup [],_,A9C e1 rfl rfl rfl (by simp[grow]) hh,s1.trans (A6e rfl rfl rfl (by simp[grow]) hh),⟨#[],rfl,rfl,by simp⟩,rfl,rfl⟩
end
end Go.Bi
namespace Go.Proofs
open Go.Bi
theorem D2c{l:List (List UInt8)}{i:Nat}{r:List UInt8}(h:l[i]?=some r):(J0 l)[i]?=some [.str r]:=by simp[J0,h]
theorem C8U:Bi.Enters Tryz.prog B4N:=⟨_,Tryz.func96,by kernel_rfl,by decide⟩
def r6(zs:List (List UInt8)):List (List UInt8):=zs.mergeSort λx y=>decide (x<=y)
theorem C1e(zs:List (List UInt8))(nl:Bool)(hz:zs.length<4611686018427387904){os:List AO}{id:Nat}(ho:os[id]?=some (.arr (J0 zs) 1 0 nl)) :
  B4 Tryz.prog B4N [.arr id (J0 zs).length] os (λr os'=>r=.tup []/\os'=os.set id (.arr (J0 (r6 zs)) 1 0 nl)):=
 B01 (λid=>[.arr id (J0 zs).length]) (D26 Tryz.lays190 C8U zs nl hz) (λ_=>rfl) (λ_=>rfl) (λ_=>rfl) (λ_ _=>rfl) (by simp[AV.bnd2,AV.bnd1]) (A9d ..) ho
end Go.Proofs
end
section
namespace Go.Proofs
open Go.Bi
def crE(e:En):Bool:=O8 e.ch
def X9(at':Int)(c:List En):List (List UInt8):=((c.filter (erB at')).filter crE).map En.tb
theorem B62(at':Int)(c:List En):(X9 at' c).length<=c.length:=by
 unfold X9
 rw[C7]
 exact P3 (A26 ..) (A26 ..)
def stD(l:List (List UInt8)):D:=B9 (J0 l).isEmpty (J0 l)
theorem B8J(l:List (List UInt8)):(r6 l).length=l.length:=by simp[r6]
theorem B9Y(c:List En)(hc:c.length<=1048576)(d:D)(hd:B8 d (E8 c))(at':Int):Pure Tryz.prog B4e [.d d,.d (eI at')] (.d (stD (r6 (X9 at' c)))):=by
 have hS:=A8d A8E at' [] (erB at') (B1l at' []) c hc d hd
 have hsl:(c.filter (erB at')).length<=c.length:=A26 ..
 obtain⟨S,hSS⟩:∃S,S=c.filter (erB at'):=⟨_,rfl⟩
 rw[<- hSS] at hS hsl
 obtain⟨N',hN⟩:∃N',N'=X9 at' c:=⟨_,rfl⟩
 have hNe:N'=(S.filter crE).map En.tb:=by rw[hN,hSS];rfl
 have hNl:N'.length<=1048576:=by rw[hN];have:=B62 at' c;omega
 rw[<- hN]
 clear hN hSS
 have h1:=A0b S
 have hm:=A1f S
 have hg0:=λi e=>@A5t S i e
 have hsd:B8 (B9 (E8 S).isEmpty (E8 S)) (E8 S):=V8 λe=>s5.1 e
 obtain⟨de,hde⟩:∃z,z=B9 (E8 S).isEmpty (E8 S):=⟨_,rfl⟩
 rw[<- hde] at hS hsd
 obtain⟨es,hes⟩:∃es,es=E8 S:=⟨_,rfl⟩
 rw[<- hes] at h1 hm hg0 hsd
 clear hes hde
 refine C21.go A6 rfl ?_
 repeat' first|refine st ?_|((with_reducible first|apply A9|apply A8);(·exact hS))|(with_reducible first|apply A5|apply A4)<;>intro _
 refine r8 5 1 rfl rfl ?_
 refine P5 A6 C4v C3F (λ(i:Nat) (w:List (List UInt8))=>[.arr 0 (J0 w).length,.d (eI i)]) (λi w=>[.arr (J0 w) 1 0 (J0 w).isEmpty]) (λi w=>i<=S.length/\w=((S.take i).filter crE).map En.tb) (λi w=>S.length-i) 0 [] rfl rfl rfl rfl (λ_ _ _=>⟨rfl,rfl⟩) rfl ⟨by omega,rfl⟩ ?_
 repeat' first|refine st ?_|(with_reducible first|apply A5|apply A4)<;>intro _
 intro i A ⟨g1,g2⟩
 have hAl:(J0 A).length<=i:=by
  rw[A1r,g2,C7]
  exact P3 (A26 ..) (by rw[P8];omega)
 have hAm:=B0E A
 cases hx:S[i]? with
 |some e=>
  have hlt:=(B2.1 hx).1
  have hg:=hg0 i e hx
  have hC:=B11 e
  have hs:((S.take (i+1)).filter crE).map En.tb=A++(if crE e then [e.tb] else []):=by
   rw[B6z hx,g2,A11]
   congr 1
   split<;>rfl
  rw[show crE e=O8 e.ch from rfl] at hs
  cases hp:O8 e.ch with
  |true=>
   rw[hp] at hC hs
   have hap:J0 (A++[e.tb])=J0 A++[[.str e.tb]]:=by simp[J0]
   obtain⟨tm,tb,⟨⟨nm',cs,ks,fs,xs⟩,dc,dk,df,dx⟩,⟨k,cnm,to,⟨cn,ck,cl⟩,⟨vk,vn,vs⟩⟩⟩:=e
   clear g2 hNe hp
   dsimp only at hap hs
   repeat' first|refine st ?_|((with_reducible first|apply A9|apply A8);(·exact hC))|(with_reducible first|apply A5|apply A4)<;>intro _
   exact⟨i+1,A++[tb],by rw[hap];rfl,rfl,by rw[hap];first|rfl|(simp;done),by omega,by omega,hs.symm⟩
  |false=>
   rw[hp] at hC hs
   obtain⟨tm,tb,⟨⟨nm',cs,ks,fs,xs⟩,dc,dk,df,dx⟩,⟨k,cnm,to,⟨cn,ck,cl⟩,⟨vk,vn,vs⟩⟩⟩:=e
   clear g2 hNe hp
   repeat' first|refine st ?_|((with_reducible first|apply A9|apply A8);(·exact hC))|(with_reducible first|apply A5|apply A4)<;>intro _
   exact⟨i+1,A,rfl,rfl,rfl,by omega,by omega,by rw[hs];simp⟩
 |none=>
  have hge:=E4.1 hx
  rw[P2 hge,<- hNe] at g2
  subst g2
  have hSo:=C1e A (J0 A).isEmpty (by omega) (os:=[.arr (J0 A) 1 0 (J0 A).isEmpty]) (id:=0) rfl
  have hll:(J0 (r6 A)).length=(J0 A).length:=by rw[A1r,A1r,B8J]
  have hem:(J0 A).isEmpty=(J0 (r6 A)).isEmpty:=by
   rw[z7,List.isEmpty_iff_length_eq_zero,List.isEmpty_iff_length_eq_zero,hll]
  unfold stD
  obtain⟨B,hB⟩:∃B,B=J0 (r6 A):=⟨_,rfl⟩
  rw[<- hB] at hSo hll hem ⊢
  clear hNe hB
  repeat' first|(with_reducible apply H6)|refine st ?_|((with_reducible first|apply I6|apply D5);(·exact hSo);(try rintro _ _ ⟨rfl,rfl⟩))|((with_reducible apply I7);(·exact hSo))|((with_reducible apply H6);refine st ?_;(with_reducible apply I5);(·exact rfl);refine st ?_;(with_reducible apply D5);(·exact hSo);(try rintro _ _ ⟨rfl,rfl⟩))|(with_reducible first|apply A5|apply A4)<;>intro _
  all_goals first|(rw[hem];cases B<;>rfl)|(rw[hem];rfl)
theorem D27(l:List (List UInt8)):(r6 l).Perm l:=List.mergeSort_perm ..
def zeB(t:Tb):Bool:=decide (t.nm=[])&&(t.cs.isEmpty&&(t.ks.isEmpty&&(t.fs.isEmpty&&t.xs.isEmpty)))
theorem C1c(l:List (List UInt8))(hl:l.length<=1048576)(d:D)(hd:B8 d (J0 l))(s:List UInt8):∃n:Int,Pure Tryz.prog B4M [.d d,.d (.str s)] (.d (eI n))/\decide (0<=n)=l.contains s:=by
 have h1:=A1r l
 have hm:=B0E l
 have hg0:=λi e=>@D2c l i e
 by_cases hin:s∈l
 ·obtain⟨k,hk⟩:=A12.1 hin
  -- the first place
  obtain⟨j,hj,hf⟩:∃j,l[j]?=some s/\∀i,i<j->l[i]?≠some s:=by
   have hex:∃j,l[j]?=some s:=⟨k,hk⟩
   have:=Nat.strongRecOn (motive:=λn=>l[n]?=some s->∃j,l[j]?=some s/\∀i,i<j->l[i]?≠some s) k (λn ih hn=>by
    by_cases h:∃i,i<n/\l[i]?=some s
    ·obtain⟨i,hi,he⟩:=h;exact ih i hi he
    ·exact⟨n,hn,λi hi he=>h ⟨i,hi,he⟩⟩)
   exact this hk
  have hjl:=(B2.1 hj).1
  refine⟨j,?_,by rw[decide_eq_true (by omega)];simp[hin]⟩
  obtain⟨es,hes⟩:∃es,es=J0 l:=⟨_,rfl⟩
  rw[<- hes] at h1 hm hg0 hd
  clear hes
  refine B1L.go A6 rfl ?_
  repeat' first|refine st ?_|(with_reducible first|apply A5|apply A4)<;>intro _
  refine G6 A6 B3T B3N (λ(i:Nat)=>[.d (eI i)]) (λi=>[]) (λi=>i<=j) (λi=>j-i) 0 rfl rfl rfl rfl (λ_ _=>⟨rfl,rfl⟩) rfl (by omega) ?_
  repeat' first|refine st ?_|(with_reducible first|apply A5|apply A4)<;>intro _
  intro i hi
  obtain⟨x,hx⟩:∃x,l[i]?=some x:=⟨_,C5 (by omega)⟩
  have hg:es[((i:Nat):Int).toNat]?=some [.str x]:=hg0 i x hx
  have hil:(i:Int)<es.length:=by omega
  by_cases hij:i=j
  ·subst hij
   rw[hj] at hx
   cases hx
   have r1:s=s:=rfl
   repeat' first|refine st ?_|(with_reducible first|apply A5|apply A4)<;>intro _
   all_goals first|rfl|(exfalso;rename_i hh;exact hh rfl)
  ·have hne:¬s=x:=λe=>hf i (by omega) (by rw[hx,e])
   repeat' first|refine st ?_|(with_reducible first|apply A5|apply A4)<;>intro _
   exact⟨i+1,rfl,rfl,rfl,by omega,by omega⟩
 ·refine⟨-1,?_,by rw[decide_eq_false (by decide)];simp[hin]⟩
  obtain⟨es,hes⟩:∃es,es=J0 l:=⟨_,rfl⟩
  rw[<- hes] at h1 hm hg0 hd
  clear hes
  refine B1L.go A6 rfl ?_
  repeat' first|refine st ?_|(with_reducible first|apply A5|apply A4)<;>intro _
  refine G6 A6 B3T B3N (λ(i:Nat)=>[.d (eI i)]) (λi=>[]) (λi=>i<=l.length) (λi=>l.length-i) 0 rfl rfl rfl rfl (λ_ _=>⟨rfl,rfl⟩) rfl (by omega) ?_
  repeat' first|refine st ?_|(with_reducible first|apply A5|apply A4)<;>intro _
  intro i hi
  cases hx:l[i]? with
  |some x=>
   have hlt:=(B2.1 hx).1
   have hg:es[((i:Nat):Int).toNat]?=some [.str x]:=hg0 i x hx
   have hil:(i:Int)<es.length:=by omega
   have hne:¬s=x:=λe=>hin (by rw[e];exact C3 hx)
   repeat' first|refine st ?_|(with_reducible first|apply A5|apply A4)<;>intro _
   exact⟨i+1,rfl,rfl,rfl,by omega,by omega⟩
  |none=>
   have hge:=E4.1 hx
   have hil:(es.length:Int)<=i:=by omega
   repeat' first|refine st ?_|(with_reducible first|apply A5|apply A4)<;>intro _
   all_goals rfl
theorem C1a(l:List (List UInt8))(hl:l.length<=1048576)(d:D)(hd:B8 d (J0 l))(s:List UInt8):Pure Tryz.prog B4K [.d d,.d (.str s)] (.d (.bool (l.contains s))):=by
 obtain⟨n,h1,h2⟩:=C1c l hl d hd s
 rw[<- h2]
 clear h2
 refine C2L.go A6 rfl ?_
 repeat' first|refine st ?_|((with_reducible first|apply A9|apply A8);(·exact h1))|(with_reducible first|apply A5|apply A4)<;>intro _
 all_goals rfl
abbrev F9:Int:=1099511627776
def W5(c:List En)(at':Int)(nm:List UInt8)(ch:Ch):Int:=
 if X3 c at'≠0 then X3 c at' else if (J7 (H7 F9 nm c)).2.2=false then 11 else if 64<=(J7 (H7 F9 nm c)).2.1 then 5 else D7 (J7 (H7 F9 nm c)).1.t ch
theorem B9Z(c:List En)(hc:c.length<=1048576)(hok:∀e∈c,e.ok)(d:D)(hd:B8 d (E8 c))(at':Int)(nm:List UInt8)(ch:Ch)(hch:I1 ch) :
  Pure Tryz.prog B4f [.d d,.d (eI at'),.d (.str nm),ch.av] (.d (eI (W5 c at' nm ch))):=by
 have hT:=B10 c hc d hd at'
 have hN:=A8c c hc hok d hd F9 nm
 have hso:=B0b (A6b (at':=F9) (nm:=nm) hok)
 have hE:=U3 (J7 (H7 F9 nm c)).1.t (J7 (H7 F9 nm c)).1.dc (J7 (H7 F9 nm c)).1.dk (J7 (H7 F9 nm c)).1.df (J7 (H7 F9 nm c)).1.dx hso.tok ch hch
 obtain⟨q,hq⟩:∃q,q=W5 c at' nm ch:=⟨_,rfl⟩
 rw[<- hq]
 unfold W5 at hq
 obtain⟨e,he⟩:∃e,e=X3 c at':=⟨_,rfl⟩
 rw[<- he] at hT hq
 obtain⟨⟨y,n,b⟩,hy⟩:∃z,z=J7 (H7 F9 nm c):=⟨_,rfl⟩
 rw[<- hy] at hN hq hE
 dsimp only at hN hq hE
 have hN:Bi.Pure Tryz.prog A53 [.d d,.d (eI F9),.d (.str nm)] (.tup [eT y.t.nm y.dc y.dk y.df y.dx,.d (eI n),.d (.bool b)]):=hN
 obtain⟨v,hv⟩:∃v,v=D7 y.t ch:=⟨_,rfl⟩
 rw[<- hv] at hE hq
 clear he hy hso hv
 obtain⟨k,cnm,to,⟨cn,ck,cl⟩,⟨vk,vn,vs⟩⟩:=ch
 by_cases g1:e=0
 rotate_left
 ·rw[if_pos g1] at hq
  subst hq
  refine A6x.go A6 rfl ?_
  repeat' first|refine st ?_|((with_reducible first|apply A9|apply A8);(·exact hT))|(with_reducible first|apply A5|apply A4)<;>intro _
  all_goals rfl
 subst g1
 rw[if_neg (by decide)] at hq
 cases b with
 |false=>
  rw[if_pos rfl] at hq
  subst hq
  refine A6x.go A6 rfl ?_
  repeat' first|refine st ?_|((with_reducible first|apply A9|apply A8);(·first|exact hT|exact hN))|(with_reducible first|apply A5|apply A4)<;>intro _
  all_goals rfl
 |true=>
  rw[if_neg (by decide)] at hq
  by_cases g2:64<=n
  ·rw[if_pos g2] at hq
   subst hq
   have g3:(64:Int)<=n:=by omega
   refine A6x.go A6 rfl ?_
   repeat' first|refine st ?_|((with_reducible first|apply A9|apply A8);(·first|exact hT|exact hN))|(with_reducible first|apply A5|apply A4)<;>intro _
   all_goals rfl
  ·rw[if_neg g2] at hq
   subst hq
   have g3:¬(64:Int)<=n:=by omega
   refine A6x.go A6 rfl ?_
   repeat' first|refine st ?_|((with_reducible first|apply A9|apply A8);(·first|exact hT|exact hN|exact hE))|(with_reducible first|apply A5|apply A4)<;>intro _
   all_goals rfl
theorem C9b{t u:Tb}(h:nf t=nf u)(c:Ch):D7 t c=D7 u c/\nf (F3 t c)=nf (F3 u c):=by
 refine⟨?_,?_⟩
 ·rw[<- A2m,h,A2m]
 ·rw[<- A4b,h,A4b]
theorem A7O:∀(l:List Ch)(x:TD)(i:Nat),H8 x.t=0->(TD.run x i l).2.2=0->H8 (TD.run x i l).1.t=0/\(TD.run x i l).2.1=i+l.length
 |[],x,i,h,_=>⟨h,rfl⟩
 |c::r,x,i,h,hr=>by
  unfold TD.run at hr ⊢
  by_cases hq:D7 x.t c=0
  ·rw[if_pos hq] at hr ⊢
   have:=A7O r _ (i+1) (m5.2 (A7f hq)) hr
   exact⟨this.1,by rw[this.2,L0];omega⟩
  ·rw[if_neg hq] at hr
   exact absurd hr hq
theorem B8y:∀(l:List Ch)(x y:TD)(i j:Nat),nf x.t=nf y.t->(TD.run x i l).2.2=(TD.run y j l).2.2/\(TD.run x i l).2.1+j=(TD.run y j l).2.1+i/\nf (TD.run x i l).1.t=nf (TD.run y j l).1.t
 |[],x,y,i,j,h=>⟨rfl,Nat.add_comm ..,h⟩
 |c::r,x,y,i,j,h=>by
  obtain⟨h1,h2⟩:=C9b h c
  by_cases hq:D7 x.t c=0
  ·have e1:TD.run x i (c::r)=TD.run (x.evo c) (i+1) r:=by rw[TD.run,if_pos hq]
   have e2:TD.run y j (c::r)=TD.run (y.evo c) (j+1) r:=by rw[TD.run,if_pos (by rw[<- h1];exact hq)]
   rw[e1,e2]
   have:=B8y r (x.evo c) (y.evo c) (i+1) (j+1) h2
   exact⟨this.1,by omega,this.2.2⟩
  ·have e1:TD.run x i (c::r)=(P1,i,D7 x.t c):=by rw[TD.run,if_neg hq]
   have e2:TD.run y j (c::r)=(P1,j,D7 y.t c):=by rw[TD.run,if_neg (by rw[<- h1];exact hq)]
   rw[e1,e2]
   exact⟨h1,Nat.add_comm ..,rfl⟩
def kiA(l:List Co)(k:Int):Int:=(l[k.toNat]?.map Co.k).getD 0
def kiE(a p:List Co):List Int->List Int->Int
 |c::cs,k::ks=>if kiA a c=kiA p k then kiE a p cs ks else 7
 |_,_=>0
theorem B7g{a p:List Co}:∀{cs ks:List Int}{i:Nat}{c k:Int},cs[i]?=some c->ks[i]?=some k->kiE a p (cs.drop i) (ks.drop i)=if kiA a c=kiA p k then kiE a p (cs.drop (i+1)) (ks.drop (i+1)) else 7:=by
 intro cs ks i c k h g
 obtain⟨h1,h2⟩:=B2.1 h
 obtain⟨g1,g2⟩:=B2.1 g
 rw[V2 h1,V2 g1,h2,g2]
 rfl
def o9(x:TD)(c:List En)(nm:List UInt8):TD×Bool:=if nm=x.t.nm then (x,true) else ((J7 (H7 F9 nm c)).1,(J7 (H7 F9 nm c)).2.2)
def frE(x:TD)(c:List En)(f:Fo):Int:=
 if (o9 x c f.tb).2=false then 11 else if f.cs.length=(o9 x c f.tb).1.t.ks.length then kiE x.t.cs (o9 x c f.tb).1.t.cs f.cs (o9 x c f.tb).1.t.ks else 13
def A2n(x:TD)(c:List En):List Fo->Int
 |[]=>0
 |f::r=>if frE x c f=0 then A2n x c r else frE x c f
theorem C9p{x:TD}{c:List En}{l:List Fo}{i:Nat}{f:Fo}(h:l[i]?=some f):A2n x c (l.drop i)=if frE x c f=0 then A2n x c (l.drop (i+1)) else frE x c f:=by
 obtain⟨hlt,he⟩:=B2.1 h
 rw[V2 hlt,he];rfl
def W7(c:List En)(at':Int)(x:TD):Int:=
 if X3 c at'=0 then (if H8 x.t=0 then (if 16<=(X9 F9 c).length then 5 else if (r6 (X9 F9 c)).contains x.t.nm then 10 else A2n x c x.t.fs) else H8 x.t) else X3 c at'
theorem D0g{s:List En}(h:(J7 s).2.2=true):Vd (J7 s).1.t:=by
 unfold J7 at h ⊢
 split at h
 ·rename_i hb
  rw[if_pos hb]
  have h:=of_decide_eq_true h
  show Vd ((u7 s).runs (Q8 s)).1.t
  unfold TD.runs at h ⊢
  split at h
  ·rename_i ht
   rw[if_pos ht]
   exact m5.1 (A7O _ _ _ (TD.cp_vd ht) h).1
  ·rename_i ht
   exact absurd h ht
 ·cases h
theorem D1e{x:TD}{c:List En}{nm:List UInt8}(hx:H8 x.t=0)(h:(o9 x c nm).2=true):Vd (o9 x c nm).1.t:=by
 unfold o9 at h ⊢
 split
 ·exact m5.1 hx
 ·rename_i hn
  rw[if_neg hn] at h
  exact D0g h
theorem A7s{l:List Co}{k:Int}{c:Co}(h:l[k.toNat]?=some c):kiA l k=c.k:=by unfold kiA;rw[h];rfl
theorem C00(c:List En)(hc:c.length<=1048576)(hok:∀e∈c,e.ok)(d:D)(hd:B8 d (E8 c))(at':Int)(x:TD)(hx:x.ok) :
  Pure Tryz.prog B4g [.d d,.d (eI at'),x.av] (.d (eI (W7 c at' x))):=by
 have hT:=B10 c hc d hd at'
 have hC:=A6v x.t x.dc x.dk x.df x.dx hx.tok
 have hM:=B9Y c hc d hd F9
 have hml:=B8J (X9 F9 c)
 have hmc:=B62 F9 c
 have hsl:=A1r (r6 (X9 F9 c))
 have hsd:B8 (stD (r6 (X9 F9 c))) (J0 (r6 (X9 F9 c))):=V8 λe=>s5.1 e
 have hH:=C1a (r6 (X9 F9 c)) (by omega) _ hsd x.t.nm
 have hN:=λnm=>A8c c hc hok d hd F9 nm
 have hNo:=λnm=>(B0b (A6b (at':=F9) (nm:=nm) hok)).tok
 have hP:=λnm=>@D1e x c nm
 have hV:=@m5 x.t
 obtain⟨q,hq⟩:∃q,q=W7 c at' x:=⟨_,rfl⟩
 rw[<- hq]
 unfold W7 at hq
 obtain⟨e,he⟩:∃e,e=X3 c at':=⟨_,rfl⟩
 rw[<- he] at hT hq
 clear he
 obtain⟨X1,hnm⟩:∃n,n=r6 (X9 F9 c):=⟨_,rfl⟩
 rw[<- hnm] at hM hH hq hsd hsl hml
 rw[<- hml] at hq
 clear hnm
 obtain⟨nd,hnd⟩:∃n,n=stD X1:=⟨_,rfl⟩
 rw[<- hnd] at hM hH hsd
 clear hnd
 obtain⟨ss,hss⟩:∃n,n=J0 X1:=⟨_,rfl⟩
 rw[<- hss] at hsd hsl
 clear hss
 obtain⟨te,hte⟩:∃n,n=H8 x.t:=⟨_,rfl⟩
 rw[<- hte] at hC hq
 by_cases g1:e=0
 rotate_left
 ·rw[if_neg g1] at hq
  subst hq
  refine A4H.go A6 rfl ?_
  repeat' first|refine st ?_|((with_reducible first|apply A9|apply A8);(·exact hT))|(with_reducible first|apply A5|apply A4)<;>intro _
  all_goals rfl
 subst g1
 rw[if_pos rfl] at hq
 by_cases g2:te=0
 rotate_left
 ·rw[if_neg g2] at hq
  subst hq
  refine A4H.go A6 rfl ?_
  repeat' first|refine st ?_|((with_reducible first|apply A9|apply A8);(·first|exact hT|exact hC))|(with_reducible first|apply A5|apply A4)<;>intro _
  all_goals rfl
 rw[if_pos g2] at hq
 subst g2
 have hv:=hV.1 hte.symm
 by_cases g3:16<=X1.length
 ·rw[if_pos g3] at hq
  subst hq
  have g4:(16:Int)<=ss.length:=by omega
  refine A4H.go A6 rfl ?_
  repeat' first|refine st ?_|((with_reducible first|apply A9|apply A8);(·first|exact hT|exact hC|exact hM))|(with_reducible first|apply A5|apply A4)<;>intro _
  all_goals first|rfl|(exfalso;omega)
 rw[if_neg g3] at hq
 have g4:¬(16:Int)<=ss.length:=by omega
 obtain⟨b,hb⟩:∃b,b=X1.contains x.t.nm:=⟨_,rfl⟩
 rw[<- hb] at hH hq
 cases b with
 |true=>
  rw[if_pos rfl] at hq
  subst hq
  refine A4H.go A6 rfl ?_
  repeat' first|refine st ?_|((with_reducible first|apply A9|apply A8);(·first|exact hT|exact hC|exact hM|exact hH))|(with_reducible first|apply A5|apply A4)<;>intro _
  all_goals first|rfl|(exfalso;omega)
 |false=>
  rw[if_neg (by decide)] at hq
  have hfl:=hv.fl
  have hfs:=hv.fs
  have h1:=A1M x.t.fs
  have hm:=A3U x.t.fs
  have hdf:=hx.tok.df
  have hdc:=hx.tok.dc
  have hcl:=G8 x.t.cs
  have hcm:=I3 x.t.cs
  have hc12:=hv.l2
  refine A4H.go A6 rfl ?_
  --L
  repeat' first|refine st ?_|((with_reducible first|apply A9|apply A8);(·first|exact hT|exact hC|exact hM|exact hH))|(with_reducible first|apply A5|apply A4)<;>intro _
  refine G6 A6 C4w C3G (λ(i:Nat)=>[.d (eI i)]) (λi=>[.cells [.d (.str x.t.nm),.d x.dc,.d x.dk,.d x.df,.d x.dx]]) (λi=>i<=x.t.fs.length/\q=A2n x c (x.t.fs.drop i)) (λi=>x.t.fs.length-i) 0 rfl rfl rfl rfl (λ_ _=>⟨rfl,rfl⟩) rfl ⟨by omega,hq⟩ ?_
  repeat' first|refine st ?_|(with_reducible first|apply A5|apply A4)<;>intro _
  intro i ⟨h4,h5⟩
  cases hy:x.t.fs[i]? with
  |some f=>
   have hlt:=(B2.1 hy).1
   have hg:=A3T hy
   obtain⟨_,_,hfi,_⟩:=hfs f (C3 hy)
   have hN2:=hN f.tb
   have hP2:=hP f.tb hte.symm
   have hO2:=hNo f.tb
   rw[C9p hy] at h5
   have k1:=B6 f.cs
   have k2:=D4 f.cs
   have hfd:=f.sld
   obtain⟨nl,cs,tb⟩:=f
   have hg:(H9 x.t.fs)[i]?=some [Fo.d ⟨nl,cs,tb⟩,.str tb]:=hg
   obtain⟨fd,hfe⟩:∃fd,fd=Fo.d ⟨nl,cs,tb⟩:=⟨_,rfl⟩
   rw[<- hfe] at hfd hg
   clear hfe
   dsimp only at k1 k2 hfd hN2 hP2 hO2 hfi
   obtain⟨ve,hve⟩:∃v,v=frE x c ⟨nl,cs,tb⟩:=⟨_,rfl⟩
   rw[<- hve] at h5
   unfold frE at hve
   dsimp only at hve
   unfold o9 at hve hP2
   obtain⟨⟨y,n,b⟩,hyn⟩:∃z,z=J7 (H7 F9 tb c):=⟨_,rfl⟩
   rw[<- hyn] at hN2 hP2 hve hO2
   clear hyn
   dsimp only at hve hP2 hO2
   have hN2:Bi.Pure Tryz.prog A53 [.d d,.d (eI F9),.d (.str tb)] (.tup [eT y.t.nm y.dc y.dk y.df y.dx,.d (eI n),.d (.bool b)]):=hN2
   by_cases hs:tb=x.t.nm
   ·rw[if_pos hs] at hve
    rw[if_neg (by simp)] at hve
    rw[if_pos hs] at hP2
    have yvd:Vd x.t:=hP2 rfl
    have ydc:=hx.tok.dc
    have ydk:=hx.tok.dk
    have y1:=B6 x.t.ks
    have y2:=D4 x.t.ks
    have y3:=G8 x.t.cs
    have y4:=I3 x.t.cs
    have y5:=yvd.l2
    have y6:=hx.tok.hk
    dsimp only at hve
    by_cases hlen:cs.length=x.t.ks.length
    rotate_left
    ·rw[if_neg hlen] at hve
     rw[hve,if_neg (by decide)] at h5
     subst h5
     have g5:¬((cs.length:Nat):Int)=(A0 x.t.ks).length:=by omega
     repeat' first|refine st ?_|((with_reducible first|apply A9|apply A8);(·exact hN2))|(with_reducible first|apply A5|apply A4)<;>intro _
     all_goals first|rfl|(exfalso;omega)
    rw[if_pos hlen] at hve
    have g5:((cs.length:Nat):Int)=(A0 x.t.ks).length:=by omega
    repeat' first|refine st ?_|((with_reducible first|apply A9|apply A8);(·exact hN2))|(with_reducible first|apply A5|apply A4)<;>intro _
    refine G6 A6 B3R B3L (λ(k:Nat)=>[.d (eI k)]) (λk=>[.cells [.d (.str x.t.nm),.d x.dc,.d x.dk,.d x.df,.d x.dx],.cells [.d fd,.d (.str tb)],.cells [.d (.str x.t.nm),.d x.dc,.d x.dk,.d x.df,.d x.dx]]) (λk=>k<=cs.length/\ve=kiE x.t.cs x.t.cs (cs.drop k) (x.t.ks.drop k)) (λk=>cs.length-k) 0 rfl rfl rfl rfl (λ_ _=>⟨rfl,rfl⟩) rfl ⟨by omega,hve⟩ ?_
    repeat' first|refine st ?_|(with_reducible first|apply A5|apply A4)<;>intro _
    intro k ⟨h6,h7⟩
    cases hz:cs[k]? with
    |some ci=>
     have hlt2:=(B2.1 hz).1
     have hg2:=O2 hz
     obtain⟨ki,hki⟩:∃ki,x.t.ks[k]?=some ki:=⟨_,C5 (by omega)⟩
     have hg3:=O2 hki
     obtain⟨i1,i2⟩:=hfi ci (C3 hz)
     obtain⟨i3,i4,_⟩:=yvd.ks ki (C3 hki)
     obtain⟨ca,hca⟩:∃a,x.t.cs[ci.toNat]?=some a:=⟨_,C5 (by omega)⟩
     obtain⟨cb,hcb⟩:∃a,x.t.cs[ki.toNat]?=some a:=⟨_,C5 (by omega)⟩
     rw[B7g hz hki,A7s hca,A7s hcb] at h7
     have hg4:=M8 hca
     have hg5:=M8 hcb
     obtain⟨an,ak,al⟩:=ca
     obtain⟨bn,bk,bl⟩:=cb
     dsimp only at h7 hg4 hg5
     by_cases hkk:ak=bk
     ·rw[if_pos hkk] at h7
      subst hkk
      have r1:ak=ak:=rfl
      repeat' first|refine st ?_|(with_reducible first|apply A5|apply A4)<;>intro _
      all_goals first|exact⟨k+1,rfl,rfl,rfl,by omega,by omega,h7⟩|(exfalso;rename_i hh;exact hh rfl)
     ·rw[if_neg hkk] at h7
      rw[h7,if_neg (by decide)] at h5
      subst h5
      repeat' first|refine st ?_|(with_reducible first|apply A5|apply A4)<;>intro _
      all_goals rfl
    |none=>
     have hge2:=E4.1 hz
     rw[W2 hge2] at h7
     have h7:ve=0:=h7
     rw[if_pos h7] at h5
     repeat' first|refine st ?_|(with_reducible first|apply A5|apply A4)<;>intro _
     exact⟨i+1,rfl,rfl,rfl,by omega,by omega,h5⟩
   ·rw[if_neg hs] at hve hP2
    cases b with
    |false=>
     rw[if_pos rfl] at hve
     rw[hve,if_neg (by decide)] at h5
     subst h5
     repeat' first|refine st ?_|((with_reducible first|apply A9|apply A8);(·exact hN2))|(with_reducible first|apply A5|apply A4)<;>intro _
     all_goals rfl
    |true=>
    have yvd:Vd y.t:=hP2 rfl
    have ydc:=hO2.dc
    have ydk:=hO2.dk
    have y1:=B6 y.t.ks
    have y2:=D4 y.t.ks
    have y3:=G8 y.t.cs
    have y4:=I3 y.t.cs
    have y5:=yvd.l2
    have y6:=hO2.hk
    rw[if_neg (by simp)] at hve
    dsimp only at hve
    by_cases hlen:cs.length=y.t.ks.length
    rotate_left
    ·rw[if_neg hlen] at hve
     rw[hve,if_neg (by decide)] at h5
     subst h5
     have g5:¬((cs.length:Nat):Int)=(A0 y.t.ks).length:=by omega
     repeat' first|refine st ?_|((with_reducible first|apply A9|apply A8);(·exact hN2))|(with_reducible first|apply A5|apply A4)<;>intro _
     all_goals first|rfl|(exfalso;omega)
    rw[if_pos hlen] at hve
    have g5:((cs.length:Nat):Int)=(A0 y.t.ks).length:=by omega
    repeat' first|refine st ?_|((with_reducible first|apply A9|apply A8);(·exact hN2))|(with_reducible first|apply A5|apply A4)<;>intro _
    refine G6 A6 B3R B3L (λ(k:Nat)=>[.d (eI k)]) (λk=>[.cells [.d (.str x.t.nm),.d x.dc,.d x.dk,.d x.df,.d x.dx],.cells [.d fd,.d (.str tb)],.cells [.d (.str y.t.nm),.d y.dc,.d y.dk,.d y.df,.d y.dx]]) (λk=>k<=cs.length/\ve=kiE x.t.cs y.t.cs (cs.drop k) (y.t.ks.drop k)) (λk=>cs.length-k) 0 rfl rfl rfl rfl (λ_ _=>⟨rfl,rfl⟩) rfl ⟨by omega,hve⟩ ?_
    repeat' first|refine st ?_|(with_reducible first|apply A5|apply A4)<;>intro _
    intro k ⟨h6,h7⟩
    cases hz:cs[k]? with
    |some ci=>
     have hlt2:=(B2.1 hz).1
     have hg2:=O2 hz
     obtain⟨ki,hki⟩:∃ki,y.t.ks[k]?=some ki:=⟨_,C5 (by omega)⟩
     have hg3:=O2 hki
     obtain⟨i1,i2⟩:=hfi ci (C3 hz)
     obtain⟨i3,i4,_⟩:=yvd.ks ki (C3 hki)
     obtain⟨ca,hca⟩:∃a,x.t.cs[ci.toNat]?=some a:=⟨_,C5 (by omega)⟩
     obtain⟨cb,hcb⟩:∃a,y.t.cs[ki.toNat]?=some a:=⟨_,C5 (by omega)⟩
     rw[B7g hz hki,A7s hca,A7s hcb] at h7
     have hg4:=M8 hca
     have hg5:=M8 hcb
     obtain⟨an,ak,al⟩:=ca
     obtain⟨bn,bk,bl⟩:=cb
     dsimp only at h7 hg4 hg5
     by_cases hkk:ak=bk
     ·rw[if_pos hkk] at h7
      subst hkk
      have r1:ak=ak:=rfl
      repeat' first|refine st ?_|(with_reducible first|apply A5|apply A4)<;>intro _
      all_goals first|exact⟨k+1,rfl,rfl,rfl,by omega,by omega,h7⟩|(exfalso;rename_i hh;exact hh rfl)
     ·rw[if_neg hkk] at h7
      rw[h7,if_neg (by decide)] at h5
      subst h5
      repeat' first|refine st ?_|(with_reducible first|apply A5|apply A4)<;>intro _
      all_goals rfl
    |none=>
     have hge2:=E4.1 hz
     rw[W2 hge2] at h7
     have h7:ve=0:=h7
     rw[if_pos h7] at h5
     repeat' first|refine st ?_|(with_reducible first|apply A5|apply A4)<;>intro _
     exact⟨i+1,rfl,rfl,rfl,by omega,by omega,h5⟩
  |none=>
   have hge:=E4.1 hy
   rw[W2 hge] at h5
   rw[h5]
   repeat' first|refine st ?_|(with_reducible first|apply A5|apply A4)<;>intro _
   all_goals rfl
def K5(c:List En)(e:En):Int:=
 if X3 c e.tm=0 then (if O8 e.ch=false then (if zeB e.cr.t=false then 8 else W5 c e.tm e.tb e.ch) else (if e.tb=e.cr.t.nm then W7 c e.tm e.cr else 8)) else X3 c e.tm
def Z6(E:List En->En->Int)(p:List En):List En->Int
 |[]=>0
 |e::r=>if E p e=0 then Z6 E (p++[e]) r else E p e
end Go.Proofs
end
