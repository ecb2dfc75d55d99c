/- Texts of this claim, joined. No condition. -/
import Derived.Test.YtnhhopmldgpglaaGreatDoorQ12
import Derived.Test.YtnhhopmldgpglaaGreatDoorBi
import Derived.Test.YtnhhopmldgpglaaGreatDoorRows
import Derived.Lib.LaidTab
import Derived.Shelf.Vars
import Derived.OpenShut
import Derived.Deep.DeepHandedRow
set_option linter.unusedSimpArgs false
set_option linter.unusedVariables false
set_option maxRecDepth 10000
set_option maxHeartbeats 4000000
section
namespace Go.Proofs
open Go.Bi
theorem C8c{x:TD}{l:List Ch}{a b:Nat}(h:a<=b)(row:List Vl):t8 x l a b row=T9 (((J9 x l).drop a).take (b-a)) row:=by unfold t8;rw[if_pos h]
theorem C8b{x:TD}{l:List Ch}{a b:Nat}(h:b<=a)(row:List Vl):t8 x l a b row=m9 (((J9 x l).drop b).take (a-b)) row:=by
 unfold t8
 by_cases e:a=b
 ·subst e;rw[if_pos (I4 _),C9r,C7J]
 ·rw[if_neg (by omega)]
theorem C95{α:Type}(row:List α)(i j:Nat)(h:i≠j):(row.eraseIdx i)[(B0 (j:Int) i).toNat]?=row[j]?:=by
 unfold B0
 rw[A3z]
 split
 ·rw[if_neg (by omega)]
  congr 1
  omega
 ·rw[if_pos (by omega)];rfl
theorem C9s{t:Tb}{c:Ch}(h:D7 t c=0)(h4:c.k≠4){row:List Vl}(hf:K6 row (kd t.cs)=true){j:Int}{v:Vl}(hj:0<=j)(hv:row[j.toNat]?=some v):A2o t c j=-1\/(0<=A2o t c j/\(k9 t c row)[(A2o t c j).toNat]?=some v):=by
 obtain⟨q1,q2,q3,q4,q5⟩:=A0d h
 have hl:=(A37 hf).1
 rw[S5] at hl
 have hjl:=(B2.1 hv).1
 unfold A2o
 rw[if_neg (by omega)]
 unfold k9
 by_cases k1:c.k=1
 ·rw[if_pos (by omega),if_pos k1]
  right
  refine⟨hj,?_⟩
  rw[J5 hjl];exact hv
 ·rw[if_neg k1]
  by_cases k2:c.k=2
  ·rw[if_neg (by omega),if_pos k2]
   obtain⟨i,co,hi,hco,_⟩:=A1L (q5 k1)
   rw[hi]
   by_cases hij:(i:Int)=j
   ·rw[if_pos hij];exact .inl rfl
   ·rw[if_neg hij]
    right
    obtain⟨n,rfl⟩:∃n:Nat,j=n:=⟨j.toNat,by omega⟩
    have e:=C95 row i n (by omega)
    rw[K8] at hv
    refine⟨?_,?_⟩
    ·unfold B0;split<;>omega
    ·rw[K8,e];exact hv
  ·rw[if_pos k2,if_neg k2,if_neg h4]
   exact .inr ⟨hj,hv⟩
theorem C7K{t:Tb}{c:Ch}(h:D7 t c=0)(h4:c.k≠4){row:List Vl}(hf:K6 row (kd (F3 t c).cs)=true){j:Int}{v:Vl}(hj:0<=j)(hv:row[j.toNat]?=some v):bkT t c j=-1\/(0<=bkT t c j/\(bwV t c row)[(bkT t c j).toNat]?=some v):=by
 obtain⟨q1,q2,q3,q4,q5⟩:=A0d h
 have hl:=(A37 hf).1
 rw[S5] at hl
 have hjl:=(B2.1 hv).1
 unfold bkT bwV
 unfold F3 at hl
 by_cases k1:c.k=1
 ·rw[if_pos k1] at hl ⊢
  dsimp only at hl
  rw[M7,A3A] at hl
  by_cases e:j=(t.cs.length:Int)
  ·rw[if_pos ⟨k1,e⟩];exact .inl rfl
  ·rw[if_neg (λh=>e h.2),if_neg (by omega)]
   right
   refine⟨hj,?_⟩
   rw[A6D (by omega)];exact hv
 ·rw[if_neg (λh=>k1 h.1),if_neg k1]
  by_cases k2:c.k=2
  ·rw[if_pos k2]
   obtain⟨i,co,hi,hco,_⟩:=A1L (q5 k1)
   have hil:=(B2.1 hco).1
   rw[if_neg k1,if_pos k2,hi,K8] at hl
   dsimp only at hl
   rw[A1D,if_pos hil] at hl
   rw[hi]
   right
   by_cases hij:(i:Int)<=j
   ·rw[if_pos ⟨k2,hij⟩]
    refine⟨by omega,?_⟩
    rw[K8,P6 (by rw[P8];omega),P8,A3D (by omega),show(j+1).toNat-i=(j.toNat-i)+1 by omega,Z1,A0Y,show i+(j.toNat-i)=j.toNat by omega]
    exact hv
   ·rw[if_neg (λh=>hij h.2)]
    refine⟨hj,?_⟩
    rw[K8,J5 (by rw[P8];omega),A6D (by omega)]
    exact hv
  ·rw[if_neg (λh=>k2 h.1),if_neg k2,if_neg h4]
   exact .inr ⟨hj,hv⟩
theorem C9A(t:Tb)(c:Ch):A2o t c (-1)=-1:=by unfold A2o;rw[if_pos (.inr (.inl (by decide)))]
theorem B7d{x:TD}{l:List Ch}(hb:N4 x l=true){a:Nat}{row:List Vl}(hf:K6 row (vK x l a)=true){j:Int}{v:Vl}(hj:0<=j)(hv:row[j.toNat]?=some v):∀k,a+k<=l.length->(∀(i:Nat) c,a<=i->i<a+k->l[i]?=some c->c.k≠4)->
  fwI (((J9 x l).drop a).take k) j=-1\/(0<=fwI (((J9 x l).drop a).take k) j/\(T9 (((J9 x l).drop a).take k) row)[(fwI (((J9 x l).drop a).take k) j).toNat]?=some v)
 |0,_,_=>.inr ⟨hj,by simpa[T9,fwI] using hv⟩
 |k+1,hk,hl=>by
  have ih:=B7d hb hf hj hv k (by omega) λi c h1 h2 h3=>hl i c h1 (by omega) h3
  obtain⟨c,hc⟩:∃c,l[a+k]?=some c:=⟨_,C5 (by omega)⟩
  have hff:=A9L hb hf k (by omega)
  have h1:=C9q (J9 x l) a (a+k) _ j (by omega) (A0U (x:=x) hc)
  have h2:=A9U (J9 x l) a (a+k) _ row (by omega) (A0U (x:=x) hc)
  rw[show a+k+1-a=k+1 by omega,show a+k-a=k by omega] at h1 h2
  rw[h1,h2]
  dsimp only
  rcases ih with e|⟨e1,e2⟩
  ·rw[e];exact .inl (C9A _ _)
  ·exact C9s (A2y hb hc) (hl _ c (by omega) (by omega) hc) hff e1 e2
theorem B7c{x:TD}{l:List Ch}(hb:N4 x l=true){a:Nat}(ha:a<=l.length){row:List Vl}(hf:K6 row (vK x l a)=true){j:Int}{v:Vl}(hj:0<=j)(hv:row[j.toNat]?=some v):∀k,k<=a->(∀(i:Nat) c,a-k<=i->i<a->l[i]?=some c->c.k≠4)->
  bwI (((J9 x l).drop (a-k)).take k) j=-1\/(0<=bwI (((J9 x l).drop (a-k)).take k) j/\(m9 (((J9 x l).drop (a-k)).take k) row)[(bwI (((J9 x l).drop (a-k)).take k) j).toNat]?=some v)
 |0,_,_=>.inr ⟨hj,by simpa[m9,bwI] using hv⟩
 |k+1,hk,hl=>by
  have ih:=B7c hb ha hf hj hv k (by omega) λi c h1 h2 h3=>hl i c (by omega) h2 h3
  obtain⟨c,hc⟩:∃c,l[a-(k+1)]?=some c:=⟨_,C5 (by omega)⟩
  have hff:=A9K hb ha hf k (by omega)
  have h1:=C7I (J9 x l) a (a-(k+1)) _ j (by omega) (A0U (x:=x) hc)
  have h2:=A9g (J9 x l) a (a-(k+1)) _ row (by omega) (A0U (x:=x) hc)
  rw[show a-(a-(k+1))=k+1 by omega,show a-(a-(k+1)+1)=k by omega,show a-(k+1)+1=a-k by omega] at h1 h2
  rw[h1,h2]
  unfold bkI
  dsimp only
  have h3:=A7Y hb hc
  rw[show a-(k+1)+1=a-k by omega] at h3
  rw[h3] at hff
  rcases ih with e|⟨e1,e2⟩
  ·rw[e];exact .inl (C7z (A2y hb hc))
  ·exact C7K (A2y hb hc) (hl _ c (by omega) (by omega) hc) hff e1 e2
structure Va(x:TD)(l:List Ch)(a b:Nat)(row:List Vl):Prop where
 t:H8 x.t=0
 s:N4 x l=true
 la:a<=l.length
 lb:b<=l.length
 f:K6 row (vK x l a)=true
theorem Va.e{x:TD}{l:List Ch}{a b:Nat}{row:List Vl}(h:Va x l a b row):R0 x l=true:=by unfold R0;rw[h.t,h.s];rfl
theorem Va.cnv{x:TD}{l:List Ch}{a b:Nat}{row:List Vl}(h:Va x l a b row):A0E x l a b row=.sl (D6 (t8 x l a b row)):=by
 unfold A0E
 have:=h.la
 have:=h.lb
 rw[if_neg,K8,K8]
 rw[h.e,K8,h.f]
 rintro(e|e|e|e|e|e)<;>first|omega|cases e
theorem keeps{x:TD}{l:List Ch}{a b:Nat}{row:List Vl}(h:Va x l a b row){j:Int}{v:Vl}(hj:0<=j)(hv:row[j.toNat]?=some v)(hl:∀(i:Nat) c,min a b<=i->i<max a b->l[i]?=some c->c.k≠4) :
  A5o x l a b j=-1\/(0<=A5o x l a b j/\(t8 x l a b row)[(A5o x l a b j).toNat]?=some v):=by
 have hjl:=(B2.1 hv).1
 have hrl:=(A37 h.f).1
 have ha:=h.la
 have hb:=h.lb
 unfold vK at hrl
 rw[S5] at hrl
 have e:A5o x l a b j=if a<=b then fwI (((J9 x l).drop a).take (b-a)) j else bwI (((J9 x l).drop b).take (a-b)) j:=by
  unfold A5o
  rw[if_neg]
  ·simp only[K8]
   by_cases hab:a<=b
   ·rw[if_pos hab,if_pos (by omega)]
   ·rw[if_neg hab,if_neg (by omega)]
  ·rw[h.e,K8]
   rintro(e|e|e|e|e|e|e)<;>first|omega|cases e
 rw[e]
 by_cases hab:a<=b
 ·rw[if_pos hab,C8c hab]
  exact B7d h.s h.f hj hv (b-a) (by omega) λi c h1 h2 h3=>hl i c (by omega) (by omega) h3
 ·rw[if_neg hab,C8b (by omega)]
  have:=B7c h.s h.la h.f hj hv (a-b) (by omega) λi c h1 h2 h3=>hl i c (by omega) (by omega) h3
  rwa [show a-(a-b)=b by omega] at this
theorem B8M{x:TD}{l:List Ch}(h:R0 x l=true):H8 x.t=0/\N4 x l=true:=by
 unfold R0 at h
 rw[K7] at h
 exact⟨of_decide_eq_true h.1,h.2⟩
theorem D2B{x:TD}{l:List Ch}{a b:Int}{row:List Vl}(h:¬(R0 x l=false\/a<0\/b<0\/(l.length:Int)<a\/(l.length:Int)<b\/K6 row (vK x l a.toNat)=false)):∃m n:Nat,a=m/\b=n/\Va x l m n row:=by
 simp only[not_or,Bool.not_eq_false] at h
 obtain⟨h1,h2,h3,h4,h5,h6⟩:=h
 obtain⟨k1,k2⟩:=B8M h1
 exact⟨a.toNat,b.toNat,by omega,by omega,k1,k2,by omega,by omega,h6⟩
theorem C8a(x:TD)(l:List Ch)(a b:Int)(row:List Vl):∃r,B8 (A0E x l a b row) (D6 r)/\r.length<=1048576:=by
 by_cases h:R0 x l=false\/a<0\/b<0\/(l.length:Int)<a\/(l.length:Int)<b\/K6 row (vK x l a.toNat)=false
 ·unfold A0E
  rw[if_pos h]
  exact⟨[],A1p,by decide⟩
 ·obtain⟨m,n,rfl,rfl,hv⟩:=D2B h
  rw[hv.cnv]
  have h1:=(A37 (C9g hv.s hv.la hv.lb hv.f)).1
  have h2:=(B91 hv.t hv.s hv.lb).2
  exact⟨_,.inr rfl,by omega⟩
theorem C0g{q:D}{r:List Vl}(h:B8 q (D6 r))(hl:r.length<=1048576):Pure Tryz.prog A4Z [.d q,.d q] (.d (.bool true)):=C10 r hl q q h h
def j8(nm:List UInt8)(k:Int):List Ch->List En
 |[]=>[]
 |ch::r=>X7 k nm ch::j8 nm (k+1) r
theorem B5i(nm:List UInt8):∀(l:List Ch)(k:Int)(ch:Ch),j8 nm k (l++[ch])=j8 nm k l++[X7 (k+l.length) nm ch]
 |[],k,ch=>by show[X7 k nm ch]=[X7 (k+0) nm ch];rw[Int.add_zero]
 |a::r,k,ch=>by
  show X7 k nm a::j8 nm (k+1) (r++[ch])=X7 k nm a::(j8 nm (k+1) r++[X7 (k+(r.length+1:Nat)) nm ch])
  rw[B5i nm r,show k+1+(r.length:Int)=k+(r.length+1:Nat) by omega]
theorem A96(nm:List UInt8):∀(l:List Ch)(k:Int),(j8 nm k l).map En.ch=l
 |[],k=>rfl
 |a::r,k=>by show a::(j8 nm (k+1) r).map En.ch=_;rw[A96]
theorem B5j(nm:List UInt8):∀(l:List Ch)(k:Int),(j8 nm k l).length=l.length
 |[],k=>rfl
 |a::r,k=>by show(j8 nm (k+1) r).length+1=_;rw[B5j];rfl
theorem B0y(at':Int)(nm:List UInt8):∀(l:List Ch)(k:Int),H7 at' nm (j8 nm k l)=j8 nm k (l.take (at'+1-k).toNat)
 |[],k=>by rw[List.take_nil];rfl
 |a::r,k=>by
  have ih:=B0y at' nm r (k+1)
  show List.filter (T5 at' nm) (X7 k nm a::j8 nm (k+1) r)=_
  rw[A2I]
  by_cases h:k<=at'
  ·rw[if_pos (show T5 at' nm (X7 k nm a)=true by unfold T5 X7;simp[h]),show(at'+1-k).toNat=(at'+1-(k+1)).toNat+1 by omega,A2N]
   show _::H7 at' nm (j8 nm (k+1) r)=_
   rw[ih];rfl
  ·rw[if_neg (show ¬T5 at' nm (X7 k nm a)=true by unfold T5 X7;simp[h]),show(at'+1-k).toNat=0 by omega,List.take_zero]
   show H7 at' nm (j8 nm (k+1) r)=_
   rw[ih,show(at'+1-(k+1)).toNat=0 by omega,List.take_zero];rfl
def base(x:TD)(l:List Ch):List En:=Z8 10 x::j8 x.t.nm 11 l
theorem D1S(x:TD)(l:List Ch)(k:Nat):H7 (10+k) x.t.nm (base x l)=base x (l.take k):=by
 unfold base
 show List.filter (T5 (10+k) x.t.nm) _=_
 rw[A2I,if_pos (show T5 (10+k) x.t.nm (Z8 10 x)=true by unfold T5 Z8;simp;omega)]
 show _::H7 (10+k) x.t.nm _=_
 rw[B0y,show(10+(k:Int)+1-11).toNat=k by omega]
theorem D1T(x:TD)(l:List Ch)(hl:l.length<=1000):H7 F9 x.t.nm (base x l)=base x l:=by
 unfold base
 show List.filter (T5 F9 x.t.nm) _=_
 rw[A2I,if_pos (show T5 F9 x.t.nm (Z8 10 x)=true by unfold T5 Z8;simp[F9])]
 show _::H7 F9 x.t.nm _=_
 rw[B0y,P2 (by show l.length<=(1099511627776+1-11:Int).toNat;omega)]
structure R9(x:TD)(l:List Ch)(c:List En):Prop where
 al:c.map nE=(base x l).map nE
 ok:∀e∈c,e.ok
 v:Z6 K5 [] c=0
theorem R9.len{x:TD}{l:List Ch}{c:List En}(h:R9 x l c):c.length=l.length+1:=by
 have:=congrArg List.length h.al
 rw[C7,C7] at this
 rw[this]
 show(j8 x.t.nm 11 l).length+1=_
 rw[B5j]
theorem R9.inv{x:TD}{l:List Ch}{c:List En}(h:R9 x l c):Inv c:=B5N c [] C9E h.v
theorem R9.fs{x:TD}{l:List Ch}{c:List En}(h:R9 x l c):∀e∈c,e.cr.t.fs.length<=4:=B5M c [] h.v
theorem C7S{x:TD}(hx:x.ok)(h:W7 [] 10 x=0):R9 x [] (([]++[Z8 10 x]).map En.cpP):=
 ⟨by rw[A7x];rfl,B98 (λe he=>absurd he (by simp)) (B61 hx),by
  rw[B5L (A7x ([]++[Z8 10 x])),A9m]
  show(if (0:Int)=0 then K5 [] (Z8 10 x) else 0)=0
  rw[if_pos rfl,B6e,h]⟩
theorem C7T{x:TD}{l:List Ch}{c:List En}(h:R9 x l c)(hx:x.ok){ch:Ch}(hc:I1 ch)(h0:W5 c (11+l.length) x.t.nm ch=0):R9 x (l++[ch]) ((c++[X7 (11+l.length) x.t.nm ch]).map En.cpP):=by
 have hb:O8 ch=false:=by
  cases hb:O8 ch with
  |false=>rfl
  |true=>rw[C8q hb] at h0;exact absurd h0 (C7c _ _ _).2
 refine⟨?_,B98 h.ok (B5g hc hx.tok.hn),?_⟩
 ·rw[A7x,A11,h.al]
  unfold base
  rw[B5i,<- A11,A3v]
 ·rw[B5L (A7x _),A9m,if_pos h.v,A13,C8R _ _ _ hb,h0]
theorem B7H{x:TD}(l:List Ch):(J7 (base x l)).2=((x.runs l).2.1,decide ((x.runs l).2.2=0))/\(J7 (base x l)).1=(x.runs l).1:=by
 have hb:x3 (base x l)=true:=rfl
 have ht:u7 (base x l)=x:=rfl
 have hc:Q8 (base x l)=l:=by
  unfold Q8
  rw[if_pos hb]
  exact A96 _ _ _
 unfold J7
 rw[if_pos hb,ht,hc]
 exact⟨rfl,rfl⟩
theorem R9.sel{x:TD}{l:List Ch}{c:List En}(h:R9 x l c)(k:Nat):(H7 (10+k) x.t.nm c).map nE=(base x (l.take k)).map nE:=by
 rw[<- A4g,h.al,A4g,D1S]
theorem R9.sel_end{x:TD}{l:List Ch}{c:List En}(h:R9 x l c)(hl:l.length<=1000):(H7 F9 x.t.nm c).map nE=(base x l).map nE:=by
 rw[<- A4g,h.al,A4g,D1T x l hl]
theorem B7v{s t:List En}(h:s.map nE=t.map nE):(J7 s).2=(J7 t).2/\nf (J7 s).1.t=nf (J7 t).1.t:=by
 obtain⟨a1,a2⟩:=A7A s
 obtain⟨b1,b2⟩:=A7A t
 rw[h] at a1 a2
 exact⟨a1.symm.trans b1,a2.symm.trans b2⟩
theorem R9.st{x:TD}{l:List Ch}{c:List En}(h:R9 x l c)(hl:l.length<=1000):R0 x l=true:=by
 have hg:=h.inv.sel x.t.nm
 have hs:=h.sel_end hl
 cases hq:H7 F9 x.t.nm c with
 |nil=>rw[hq] at hs;cases hs
 |cons e r=>
  rw[hq] at hg hs
  have h1:=(B7v hs).1
  rw[B72 hg,(B7H l).1] at h1
  have h2:true=decide ((x.runs l).2.2=0):=congrArg Prod.snd h1
  rw[<- B0x,<- (A4f x l).1]
  exact of_decide_eq_true h2.symm
theorem D1P{x:TD}{l:List Ch}(h:R0 x l=true):(x.runs l).2=(l.length,0)/\nf (x.runs l).1.t=nf (O1 x l).t:=by
 have h0:(x.runs l).2.2=0:=by rw[(A4f x l).1];exact(B0x x l).2 h
 have ht:H8 x.t=0:=(B8M h).1
 refine⟨?_,by rw[(A4f x l).2,D1M x l h]⟩
 refine Prod.ext ?_ h0
 unfold TD.runs at h0 ⊢
 rw[if_pos ht] at h0 ⊢
 rw[(A7O _ _ _ (TD.cp_vd ht) h0).2]
 simp
theorem R9.at{x:TD}{l:List Ch}{c:List En}(h:R9 x l c)(hl:l.length<=1000)(k:Nat)(hk:k<=l.length):∃y:TD,J7 (H7 (10+k) x.t.nm c)=(y,k,true)/\nf y.t=nf (O1 x (l.take k)).t/\y.ok:=by
 obtain⟨a1,a2⟩:=B7v (h.sel k)
 obtain⟨b1,b2⟩:=B7H (x:=x) (l.take k)
 obtain⟨c1,c2⟩:=D1P (D2a k (h.st hl))
 have o:=B0b (A6b (at':=10+k) (nm:=x.t.nm) h.ok)
 rw[b1,c1,P8,A3D hk] at a1
 rw[b2,c2] at a2
 exact⟨(J7 (H7 (10+k) x.t.nm c)).1,Prod.ext rfl a1,a2,o⟩
theorem C9t{t u:Tb}(h:nf t=nf u)(c:Ch)(row:List Vl):k9 t c row=k9 u c row:=by
 have e:t.cs=u.cs:=(B0c h).2.1
 unfold k9
 rw[e]
theorem B8N:∀(l:List Ch){x y:TD}(row:List Vl)(n:Nat),nf x.t=nf y.t->T9 ((J9 x l).take n) row=T9 ((J9 y l).take n) row
 |[],x,y,row,n,_=>by rfl
 |c::r,x,y,row,0,_=>by rfl
 |c::r,x,y,row,n+1,h=>by
  show T9 ((J9 (x.to c) r).take n) (k9 x.t c row)=T9 ((J9 (y.to c) r).take n) (k9 y.t c row)
  rw[C9t h,B8N r _ n (B8U h c)]
theorem R9.cv{x:TD}{l:List Ch}{c:List En}(h:R9 x l c)(hl:l.length<=1000)(k:Nat)(hk:k<=l.length){row:List Vl}(hf:K6 row (kd x.t.cs)=true) :
  cvR (H7 F9 x.t.nm c) 0 k row=(.sl (D6 (t8 x l 0 k row)),0)/\A0E x l 0 k row=.sl (D6 (t8 x l 0 k row)):=by
 have hst:=h.st hl
 refine⟨?_,?_⟩
 ·have hs:=h.sel_end hl
  cases hq:H7 F9 x.t.nm c with
  |nil=>rw[hq] at hs;cases hs
  |cons e r=>
   rw[hq] at hs
   injection hs with h1 h2
   have e1:nf e.cr.t=nf x.t:=congrArg (λz:En=>z.cr.t) h1
   have e2:r.map En.ch=l:=by
    have:=congrArg (List.map En.ch) h2
    rw[V4,V4] at this
    rw[<- A96 x.t.nm l 11]
    exact this
   have e3:r.length=l.length:=by rw[<- e2,C7]
   unfold cvR
   dsimp only
   rw[if_neg (by omega),e2,show vK e.cr l (0:Int).toNat=kd x.t.cs by show kd e.cr.t.cs=_;rw[(B0c e1).2.1],hf,if_neg (by decide)]
   unfold t8
   rw[if_pos (by simp),if_pos (S8 _)]
   show(D.sl (D6 (T9 ((J9 e.cr l).take (k-0)) row)),(0:Int))=(D.sl (D6 (T9 ((J9 x l).take (k-0)) row)),0)
   rw[B8N l row _ e1]
 ·unfold A0E
  rw[if_neg]
  ·rfl
  ·rw[hst,show vK x l (0:Int).toNat=kd x.t.cs from rfl,hf]
   simp
   omega
def siT:Tb:=⟨[116],[⟨[97],1,false⟩],[0],[],[]⟩
def siD:TD:=⟨siT,.sl (B3 siT.cs),.sl (A0 siT.ks),.nil,.nil⟩
theorem D1Z:siD.ok:=
 ⟨⟨by decide,by decide,by decide,by decide,by decide,λf hf=>by simp[siD,siT] at hf,by decide,λe he=>by simp[siD,siT] at he,O7,O7,A1p,A1p⟩,λe he=>by simp[siD,siT] at he⟩
theorem si1:W7 [] 3 siD=0:=by kernel_rfl
theorem C1k{x:TD}(hx:x.ok){l:List Ch}{c:List En}(h:R9 x l c)(hl:l.length<=1000)(ch:Ch)(hc:I1 ch) :
  (∃q:Int,q≠0/\Pure Tryz.prog A51 [.d (.sl (E8 c)),.d (eI (11+l.length)),.d (.str x.t.nm),ch.av] (.tup [.d .nil,.d (eI q)]))\/
  (∃c',R9 x (l++[ch]) c'/\Pure Tryz.prog A51 [.d (.sl (E8 c)),.d (eI (11+l.length)),.d (.str x.t.nm),ch.av] (.tup [.d (.sl (E8 c')),.d (eI 0)])):=by
 have hA:=B9V c (by rw[h.len];omega) h.ok h.fs (.sl (E8 c)) O7 (11+l.length) x.t.nm hx.tok.hn ch hc
 unfold wtP at hA
 by_cases h0:W5 c (11+l.length) x.t.nm ch=0
 ·rw[h0,if_pos rfl] at hA
  exact .inr ⟨_,C7T h hx hc h0,hA⟩
 ·rw[if_neg h0] at hA
  exact .inl ⟨_,h0,hA⟩
theorem C1l{x:TD}(hx:x.ok){l:List Ch}{c:List En}(h:R9 x l c)(hl:l.length<=1000)(hls:∀c∈l,I1 c){row:List Vl}(hf:K6 row (kd x.t.cs)=true)(hr:row.length<=1048576)(hrs:∀v∈row,v.s.length<=1048576)(dr:D)(hdr:B8 dr (D6 row))(d:D)(hd:B8 d (I2 l))(k:Nat)(hk:k<=l.length) :
  ∃(y z:TD) (q:D),Pure Tryz.prog A6M [.d (.sl (E8 c)),.d (eI (10+k)),.d (.str x.t.nm)] (.tup [y.av,.d (eI k),.d (eI 0)])/\(eTs (r7 x l))[k]?=some [.str z.t.nm,z.dc,z.dk,z.df,z.dx]/\Pure Tryz.prog A6L [y.av,z.av] (.d (.bool true))/\
   Pure Tryz.prog A6N [.d (.sl (E8 c)),.d (.str x.t.nm),.d (eI 0),.d (eI k),.d dr] (.tup [.d q,.d (eI 0)])/\Pure Tryz.prog A6S [x.av,.d d,.d (eI 0),.d (eI k),.d dr] (.d q)/\Pure Tryz.prog A4Z [.d q,.d q] (.d (.bool true)):=by
 have hcl:c.length<=1048576:=by rw[h.len];omega
 obtain⟨y,y1,y2,y3⟩:=h.at hl k hk
 have hA:=B9W c hcl h.ok (.sl (E8 c)) O7 (10+k) x.t.nm
 rw[y1] at hA
 have hzo:=TD.cp_ok (A3P (l.take k) hx λc hc=>hls c (A27 hc))
 have hS:=C0P _ _ _ _ _ _ _ _ _ _ y3.tok hzo.tok (y2.trans (A2s _).symm)
 obtain⟨v1,v2⟩:=h.cv hl k hk hf
 have hC:=B9X c h.inv hcl h.ok (.sl (E8 c)) O7 x.t.nm 0 k row hr hrs dr hdr
 rw[v1] at hC
 have hM:=B1a x hx l (by omega) hls d hd 0 k row hr hrs dr hdr
 obtain⟨r,k1,k2⟩:=C8a x l 0 k row
 rw[v2] at hM k1
 exact⟨y,_,_,hA,B6b (B8R x l k hk),hS,hC,hM,C0g k1 k2⟩
theorem C3i(x:TD)(hx:x.ok)(l:List Ch)(hl:l.length<=1048576)(hls:∀c∈l,I1 c)(d:D)(hd:B8 d (I2 l))(row:List Vl)(hr:row.length<=1048576)(hrs:∀v∈row,v.s.length<=1048576)(dr:D)(hdr:B8 dr (D6 row)) :
  Pure Tryz.prog B4d [x.av,.d d,.d dr] (.d (.bool true)):=by
 have o0:∀e∈([]:List En),e.ok:=λe he=>absurd he (by simp)
 have f0:∀e∈([]:List En),e.cr.t.fs.length<=4:=λe he=>absurd he (by simp)
 have h1:=B0Z [] (by decide) o0 f0 .nil A1p 3 siD D1Z
 rw[si1] at h1
 have h1:Bi.Pure Tryz.prog A52 [.d .nil,.d (eI 3),siD.av] (.tup [.d (.sl (E8 (([]++[Z8 3 siD]).map En.cpP))),.d (eI 0)]):=h1
 obtain⟨E1,q1⟩:∃E,E=E8 (([]++[Z8 3 siD]).map En.cpP):=⟨_,rfl⟩
 have hE1:E1.length=1:=by rw[q1];rfl
 rw[<- q1] at h1
 clear q1
 have hT:=C0M x.t x.dc x.dk x.df x.dx hx.tok
 have hAc:=C0L x.t.nm x.t.cs hx.tok.hl x.dc x.dk x.df x.dx hx.tok.dc row hr hrs dr hdr
 have h2:=B0Z [] (by decide) o0 f0 .nil A1p 10 x hx
 have g1:=A2i l
 have gm:=A5r l
 have gg:=λi c=>@A9w l i c
 have c1:=G8 x.t.cs
 have c2:=A1M x.t.fs
 have c3:(xL x.t.xs).length=x.t.xs.length:=I8 _
 have hdc:=hx.tok.dc
 have hdf:=hx.tok.df
 have hdx:=hx.tok.dx
 obtain⟨es,hes⟩:∃z,z=I2 l:=⟨_,rfl⟩
 rw[<- hes] at g1 gm gg hd
 clear hes
 obtain⟨te,hte⟩:∃z,z=H8 x.t:=⟨_,rfl⟩
 obtain⟨ac,hac⟩:∃z,z=F5 row x.t.cs:=⟨_,rfl⟩
 rw[<- hte] at hT
 rw[<- hac] at hAc
 obtain⟨Cs,hCs⟩:∃z,z=B3 x.t.cs:=⟨_,rfl⟩
 obtain⟨Fs,hFs⟩:∃z,z=H9 x.t.fs:=⟨_,rfl⟩
 obtain⟨Xs,hXs⟩:∃z,z=xL x.t.xs:=⟨_,rfl⟩
 rw[<- hCs] at hdc c1
 rw[<- hFs] at hdf c2
 rw[<- hXs] at hdx c3
 have early:(12<(es.length:Int))\/((es.length:Int)<=12/\20<(Cs.length:Int))\/((es.length:Int)<=12/\(Cs.length:Int)<=20/\4<(Xs.length:Int))\/((es.length:Int)<=12/\(Cs.length:Int)<=20/\(Xs.length:Int)<=4/\4<(Fs.length:Int))\/
   ((es.length:Int)<=12/\(Cs.length:Int)<=20/\(Xs.length:Int)<=4/\(Fs.length:Int)<=4/\te≠0)\/((es.length:Int)<=12/\(Cs.length:Int)<=20/\(Xs.length:Int)<=4/\(Fs.length:Int)<=4/\te=0/\ac≠0)\/((es.length:Int)<=12/\(Cs.length:Int)<=20/\(Xs.length:Int)<=4/\(Fs.length:Int)<=4/\te=0/\ac=0):=by omega
 rcases early with j1|⟨j1,j2⟩|⟨j1,j2,j3⟩|⟨j1,j2,j3,j4⟩|⟨j1,j2,j3,j4,j5⟩|⟨j1,j2,j3,j4,rfl,j6⟩|⟨j1,j2,j3,j4,rfl,rfl⟩
 rotate_left 6
 ·have e5:=hac.symm
  have hf:=C79 e5
  unfold wtP at h2
  by_cases h0:W7 [] 10 x=0
  rotate_left
  ·rw[if_neg h0] at h2
   obtain⟨q,hq⟩:∃q,q=W7 [] 10 x:=⟨_,rfl⟩
   rw[<- hq] at h2 h0
   clear hq hte hac hCs hFs hXs gg hf
   obtain⟨⟨xnm,cs,ks,fs,xs⟩,dc,dk,df,dx⟩:=x
   refine A8l.go A6 rfl ?_
   repeat' first|refine st ?_|((with_reducible first|apply A9|apply A8);(·first|exact h1|exact hT|exact hAc|exact h2))|(with_reducible first|apply A5|apply A4)<;>intro _
   all_goals rfl
  rw[h0,if_pos rfl] at h2
  have hcat:=C7S hx h0
  obtain⟨c0,hc0⟩:∃z,z=([]++[Z8 10 x]).map En.cpP:=⟨_,rfl⟩
  rw[<- hc0] at h2 hcat
  clear hc0 h0 hte hac hCs hFs hXs e5
  have ALT:=λ(L:List Ch) (D0:List En) (h:R9 x L D0) hl ch hc=>C1k hx h hl ch hc
  have ATS:=λ(L:List Ch) (D0:List En) (h:R9 x L D0) hl hls d hd k hk=>C1l hx h hl hls hf hr hrs dr hdr d hd k hk
  have TAB:=λ(L:List Ch) hl hls d hd=>B1b x hx L hl hls d hd
  have hxx:=hx
  obtain⟨⟨xnm,cs,ks,fs,xs⟩,dc,dk,df,dx⟩:=x
  refine A8l.go A6 rfl ?_
  repeat' first|refine st ?_|((with_reducible first|apply A9|apply A8);(·first|exact h1|exact hT|exact hAc|exact h2))|(with_reducible first|apply A5|apply A4)<;>intro _
  refine r8 12 9 rfl rfl ?_
  refine P5 A6 C4t C3D (λ(i:Nat) (w:List En×List Ch)=>[.d (.sl (E8 w.1)),.arr 4 (I2 w.2).length,.d (eI i)]) (λi w=>[.cells [.d (.str xnm),.d dc,.d dk,.d df,.d dx],.arr [[.str [97],eI 1,.bool false]] 3 1 false,.arr [[eI 0]] 1 1 false,.cells [.d (.str [116]),.arr 1 1,.arr 2 1,.d .nil,.d .nil],.arr (I2 w.2) 9 0 (I2 w.2).isEmpty]) (λi w=>i<=l.length/\w.2.length<=i/\R9 ⟨⟨xnm,cs,ks,fs,xs⟩,dc,dk,df,dx⟩ w.2 w.1/\∀c∈w.2,I1 c) (λi w=>l.length-i) 0 (c0,[]) rfl rfl rfl rfl (λ_ _ _=>⟨rfl,rfl⟩) rfl ⟨by omega,I4 _,hcat,λc hc=>absurd hc (by simp)⟩ ?_
  repeat' first|refine st ?_|(with_reducible first|apply A5|apply A4)<;>intro _
  rintro i ⟨c,dn⟩ ⟨i1,i2,i3,i4⟩
  dsimp only at i1 i2 i3 i4 ⊢
  have hAl:=A2i dn
  have hAm:=A5r dn
  have happ:=λch=>show I2 (dn++[ch])=I2 dn++[A1K ch] by simp[I2]
  cases hi:l[i]? with
  |some ch=>
   have hlt:=(B2.1 hi).1
   have hg:es[((i:Nat):Int).toNat]?=some (A1K ch):=gg i ch hi
   have hil:(i:Int)<es.length:=by omega
   have hcm:=hls ch (C3 hi)
   have happ:=happ ch
   have hA:=ALT dn c i3 (by omega) ch hcm
   have hbd:((I2 dn).length+1)*104<=140737488355328:=by omega
   rw[<- hAl] at hA
   obtain⟨E,hE⟩:∃z,z=E8 c:=⟨_,rfl⟩
   rw[<- hE] at hA ⊢
   obtain⟨A,hAA⟩:∃z,z=I2 dn:=⟨_,rfl⟩
   rw[<- hAA] at hA hAl hAm happ hbd ⊢
   clear ALT ATS TAB hi gg
   rcases hA with ⟨q,q0,hA⟩|⟨c',hc',hA⟩
   ·clear happ
    obtain⟨k,cnm,to,⟨cn,ck,cl⟩,⟨vk,vn,vs⟩⟩:=ch
    repeat' first|refine st ?_|((with_reducible first|apply A9|apply A8);(·exact hA))|(with_reducible first|apply A5|apply A4)<;>intro _
    exact⟨i+1,(c,dn),by rw[hE,hAA];first|done|rfl,rfl,by rw[hAA];first|done|rfl,by omega,by omega,by show dn.length<=i+1;omega,i3,i4⟩
   ·have i5:∀z∈dn++[ch],I1 z:=λz hz=>by
     rcases R3.1 hz with hz|hz
     ·exact i4 z hz
     ·rw[Z3.1 hz];exact hcm
    have hne:(A++[A1K ch]).isEmpty=false:=by simp
    obtain⟨k,cnm,to,⟨cn,ck,cl⟩,⟨vk,vn,vs⟩⟩:=ch
    repeat' first|refine st ?_|((with_reducible first|apply A9|apply A8);(·exact hA))|(with_reducible first|apply A5|apply A4)<;>intro _
    refine⟨i+1,(c',dn++[⟨k,cnm,to,⟨cn,ck,cl⟩,⟨vk,vn,vs⟩⟩]),?_,rfl,?_,by omega,by omega,by simp;omega,hc',i5⟩
    ·show[AV.d (.sl (E8 c')),AV.arr 4 (I2 (dn++[_])).length,_]=_
     rw[happ];first|done|rfl
    ·show[_,_,_,_,AO.arr (I2 (dn++[_])) 9 0 (I2 (dn++[_])).isEmpty]=_
     rw[happ,hne];first|done|rfl
  |none=>
   have hge:=E4.1 hi
   have hil:(es.length:Int)<=i:=by omega
   have hst:=i3.st (by omega)
   have hTb:=λd hd=>TAB dn (by omega) i4 d hd
   unfold A6h at hTb
   rw[hst] at hTb
   have hTl:=A9z (r7 (⟨⟨xnm,cs,ks,fs,xs⟩,dc,dk,df,dx⟩:TD) dn)
   rw[show(r7 (⟨⟨xnm,cs,ks,fs,xs⟩,dc,dk,df,dx⟩:TD) dn).length=dn.length+1 by unfold r7;rw[L0,C7,A4k]] at hTl
   have hTm:=A9A (r7 (⟨⟨xnm,cs,ks,fs,xs⟩,dc,dk,df,dx⟩:TD) dn)
   have hAT:=λd hd k hk=>ATS dn c i3 (by omega) i4 d hd k hk
   obtain⟨E,hE⟩:∃z,z=E8 c:=⟨_,rfl⟩
   simp only[<- hE] at hAT ⊢
   obtain⟨Ts,hTs⟩:∃z,z=eTs (r7 (⟨⟨xnm,cs,ks,fs,xs⟩,dc,dk,df,dx⟩:TD) dn):=⟨_,rfl⟩
   simp only[<- hTs] at hTb hAT
   rw[<- hTs] at hTl hTm
   obtain⟨A,hAA⟩:∃z,z=I2 dn:=⟨_,rfl⟩
   simp only[<- hAA] at hTb hAT ⊢
   rw[<- hAA] at hAl hAm
   have hnd:∀b,b=A.isEmpty->B8 (if b then .nil else .sl A) A:=λb hb=>by
    subst hb
    cases A with
    |nil=>exact .inl ⟨rfl,rfl⟩
    |cons a r=>exact .inr rfl
   obtain⟨b,hb⟩:∃b,b=A.isEmpty:=⟨_,rfl⟩
   rw[<- hb]
   have hTb:=hTb _ (hnd b hb)
   have hAT:=hAT _ (hnd b hb)
   clear ALT ATS TAB hi gg hTs hAA hE hnd hst happ
   rw[if_pos trivial] at hTb
   have r1:((Ts.length:Nat):Int)=(A.length:Int)+1:=by omega
   cases b
   all_goals skip
   all_goals repeat' first|refine st ?_|((with_reducible first|apply A9|apply A8);(·exact hTb))|(with_reducible first|apply A5|apply A4)<;>intro _
   all_goals first|(exfalso;omega;done)|refine G6 A6 C4u C3E (λ(k:Nat)=>[.d (eI k)]) (λ_=>_) (λk=>k<=dn.length+1) (λk=>dn.length+1-k) 0 rfl rfl rfl rfl (λ_ _=>⟨rfl,rfl⟩) rfl (by omega) ?_
   all_goals repeat' first|refine st ?_|(with_reducible first|apply A5|apply A4)<;>intro _
   all_goals
    intro k k1
    by_cases k2:k<=dn.length
    ·obtain⟨y,z,q,a1,a2,a3,a4,a5,a6⟩:=hAT k k2
     have a2:Ts[((k:Nat):Int).toNat]?=some [.str z.t.nm,z.dc,z.dk,z.df,z.dx]:=a2
     have k3:(k:Int)<Ts.length:=by omega
     have r2:(k:Int)=k:=rfl
     obtain⟨⟨ynm,ycs,yks,yfs,yxs⟩,ydc,ydk,ydf,ydx⟩:=y
     obtain⟨⟨znm,zcs,zks,zfs,zxs⟩,zdc,zdk,zdf,zdx⟩:=z
     clear hAT hTb
     repeat' first|refine st ?_|((with_reducible first|apply A9|apply A8);(·first|exact a1|exact a3|exact a4|exact a5|exact a6))|(with_reducible first|apply A5|apply A4)<;>intro _
     exact⟨k+1,rfl,rfl,rfl,by omega,by omega⟩
    ·have k3:(Ts.length:Int)<=k:=by omega
     clear hAT hTb
     repeat' first|refine st ?_|(with_reducible first|apply A5|apply A4)<;>intro _
     all_goals rfl
 all_goals
  clear hte hac hCs hFs hXs gg h2
  obtain⟨⟨xnm,cs,ks,fs,xs⟩,dc,dk,df,dx⟩:=x
  refine A8l.go A6 rfl ?_
 all_goals repeat' first|refine st ?_|((with_reducible first|apply A9|apply A8);(·first|exact h1|exact hT|exact hAc))|(with_reducible first|apply A5|apply A4)<;>intro _
 all_goals first|rfl|(exfalso;omega)
abbrev B51:TypeId:=31
abbrev B52:TypeId:=22
abbrev B54:TypeId:=74
abbrev B55:TypeId:=24
abbrev A94:TypeId:=27
theorem B5F:Tryz.prog.cellsOf B51=3:=by kernel_rfl
theorem C7W:Tryz.prog.cellsOf B52=1:=by kernel_rfl
theorem B5H:Tryz.prog.cellsOf B57=1:=by kernel_rfl
theorem C7Y:Tryz.prog.cellsOf B54=2:=by kernel_rfl
theorem C7Z:Tryz.prog.cellsOf B55=1:=by kernel_rfl
theorem C80:Tryz.prog.cellsOf A94=5:=by kernel_rfl
theorem B9b{ds:List D}(h:WT Tryz.prog B51 ds):∃c:Co,ds=c.ds:=by
 obtain⟨hl,hf⟩:=h.st' Tryz.underlying31
 rw[B5F] at hl
 match ds,hl with
 |[x,y,z],_=>
  have h0:=hf _ (U4 ..)
  have h1:=hf _ (M6 _ (U4 ..))
  have h2:=hf _ (M6 _ (M6 _ (U4 ..)))
  dsimp only at h0 h1 h2
  rw[A3N] at h0
  rw[A79] at h1
  rw[C7U] at h2
  obtain⟨a,ha⟩:=A3n h0
  obtain⟨b,hb⟩:=A4s h1
  obtain⟨s,hs⟩:=D2P h2
  simp at ha hb hs
  exact⟨⟨a,b,s⟩,by rw[ha,hb,hs]⟩
theorem D2S{ds:List D}(h:WT Tryz.prog B52 ds):∃d l,ds=[d]/\B8 d (B3 l):=by
 obtain⟨d,es,h1,h2,h4,h3⟩:=h.sl' Tryz.underlying22
 have:∃l,es=B3 l:=by
  clear h1 h2 h4
  induction es with
  |nil=>exact⟨[],rfl⟩
  |cons x es ih=>
   obtain⟨n,hn⟩:=B9b (h3 x (by simp))
   obtain⟨ks,hk⟩:=ih λy hy=>h3 y (by simp[hy])
   exact⟨n::ks,by rw[hn,hk];rfl⟩
 obtain⟨ks,rfl⟩:=this
 exact⟨d,ks,h1,h2⟩
theorem D2V{ds:List D}(h:WT Tryz.prog B54 ds):∃f:Fo,ds=f.ds:=by
 obtain⟨hl,hf⟩:=h.st' Tryz.underlying74
 rw[C7Y] at hl
 match ds,hl with
 |[x,y],_=>
  have h0:=hf _ (U4 ..)
  have h1:=hf _ (M6 _ (U4 ..))
  dsimp only at h0 h1
  rw[B5H] at h0
  rw[A3N] at h1
  obtain⟨d,ks,ha,hd⟩:=B9c h0
  obtain⟨s,hs⟩:=A3n h1
  simp at ha hs
  rcases hd with ⟨rfl,he⟩|rfl
  ·have:ks=[]:=by cases ks with
    |nil=>rfl
    |cons k ks=>cases he
   subst this
   exact⟨⟨true,[],s⟩,by rw[ha,hs];rfl⟩
  ·exact⟨⟨false,ks,s⟩,by rw[ha,hs];rfl⟩
theorem D2W{ds:List D}(h:WT Tryz.prog B55 ds):∃d l,ds=[d]/\B8 d (H9 l):=by
 obtain⟨d,es,h1,h2,h4,h3⟩:=h.sl' Tryz.underlying24
 have:∃l,es=H9 l:=by
  clear h1 h2 h4
  induction es with
  |nil=>exact⟨[],rfl⟩
  |cons x es ih=>
   obtain⟨n,hn⟩:=D2V (h3 x (by simp))
   obtain⟨ks,hk⟩:=ih λy hy=>h3 y (by simp[hy])
   exact⟨n::ks,by rw[hn,hk];rfl⟩
 obtain⟨ks,rfl⟩:=this
 exact⟨d,ks,h1,h2⟩
theorem C7o(n dc dk df dx:D):w6 Tryz.prog A94 [n,dc,dk,df,dx]=.agg [.d n,.d dc,.d dk,.d df,.d dx]:=by unfold w6;rw[Tryz.underlying27];rfl
theorem C8l{d:D}{l:List Co}(h:B8 d (B3 l)):l.length<=F2 [d]/\∀v∈l,v.nm.length<=F2 [d]:=by
 have h1:=A4i h
 have h2:(B3 l).length<=J6 (B3 l):=A3K λx hx=>by
  obtain⟨k,_,rfl⟩:=E6.1 hx
  simp only[Co.ds,F2,U7];omega
 rw[G8] at h2
 refine⟨by omega,λv hv=>?_⟩
 have h3:F2 v.ds<=J6 (B3 l):=A2Z (E6.2 ⟨v,hv,rfl⟩)
 have h4:v.nm.length<=F2 v.ds:=by simp only[Co.ds,F2,U7];omega
 omega
theorem C9n{d:D}{l:List Fo}(h:B8 d (H9 l)):l.length<=F2 [d]/\∀f∈l,f.cs.length<=F2 [d]/\f.tb.length<=F2 [d]:=by
 have h1:=A4i h
 have h2:(H9 l).length<=J6 (H9 l):=A3K λx hx=>by
  obtain⟨k,_,rfl⟩:=E6.1 hx
  simp only[Fo.ds,F2,U7];omega
 rw[A1M] at h2
 refine⟨by omega,λv hv=>?_⟩
 have h3:F2 v.ds<=J6 (H9 l):=A2Z (E6.2 ⟨v,hv,rfl⟩)
 have h4:v.tb.length<=F2 v.ds:=by simp only[Fo.ds,F2,U7];omega
 have h5:v.cs.length<=F2 [v.d]:=B76 v.sld
 have h6:F2 [v.d]<=F2 v.ds:=by simp only[Fo.ds,F2];omega
 omega
theorem C9c{d:D}{l:List Ex}(h:B8 d (xL l)):l.length<=F2 [d]/\∀e∈l,e.bk<=F2 [d]:=by
 have h1:=A4i h
 have h2:=B9h l
 refine⟨by omega,λv hv=>?_⟩
 have h3:F2 v.ds<=J6 (xL l):=A2Z (E6.2 ⟨v,hv,rfl⟩)
 unfold Ex.bk
 omega
theorem D2g{t:Tb}{dc dk df dx:D}(hb:F2 [.str t.nm,dc,dk,df,dx]<=1048576)(hc:B8 dc (B3 t.cs))(hk:B8 dk (A0 t.ks))(hf:B8 df (H9 t.fs))(hx:B8 dx (xL t.xs)):O0 t dc dk df dx:=by
 have h1:=C8l hc
 have h2:=B76 hk
 have h3:=C9n hf
 have h4:=C9c hx
 have e:F2 [.str t.nm,dc,dk,df,dx]=t.nm.length+1+(F2 [dc]+(F2 [dk]+(F2 [df]+F2 [dx]))):=by simp only[F2,U7];omega
 rw[e] at hb
 exact {hn:=by omega,hl:=by omega,hls:=λc hc=>P3 (h1.2 c hc) (by omega),hk:=by omega,hfl:=by omega,hfc:=λf hf=>⟨P3 (h3.2 f hf).1 (by omega),P3 (h3.2 f hf).2 (by omega)⟩,hxs:=by omega,hxb:=λe he=>P3 (h4.2 e he) (by omega),dc:=hc,dk:=hk,df:=hf,dx:=hx}
abbrev B4Z:TypeId:=42
theorem C7V:Tryz.prog.cellsOf B4Z=9:=by kernel_rfl
abbrev Ch.ds(c:Ch):List D:=[eI c.k,.str c.nm,.str c.to,.str c.co.nm,eI c.co.k,.bool c.co.nl,eI c.df.k,eI c.df.n,.str c.df.s]
theorem D2Q{ds:List D}(h:WT Tryz.prog B4Z ds):∃c:Ch,ds=c.ds:=by
 obtain⟨hl,hf⟩:=h.st' Tryz.underlying42
 rw[C7V] at hl
 match ds,hl with
 |[d0,d1,d2,d3,d4,d5,d6,d7,d8],_=>
  have h0:=hf _ (U4 ..)
  have h1:=hf _ (M6 _ (U4 ..))
  have h2:=hf _ (M6 _ (M6 _ (U4 ..)))
  have h3:=hf _ (M6 _ (M6 _ (M6 _ (U4 ..))))
  have h4:=hf _ (M6 _ (M6 _ (M6 _ (M6 _ (U4 ..)))))
  dsimp only at h0 h1 h2 h3 h4
  rw[A79] at h0
  rw[A3N] at h1 h2
  rw[B5F] at h3
  rw[A9i] at h4
  obtain⟨k,h0⟩:=A4s h0
  obtain⟨nm,h1⟩:=A3n h1
  obtain⟨to,h2⟩:=A3n h2
  obtain⟨co,h3⟩:=B9b h3
  obtain⟨df,h4⟩:=B0Q h4
  simp at h0 h1 h2 h3 h4
  obtain⟨e3,e4,e5⟩:=h3
  obtain⟨e6,e7,e8⟩:=h4
  exact⟨⟨k,nm,to,co,df⟩,by rw[h0,h1,h2,e3,e4,e5,e6,e7,e8]⟩
theorem C81{c:Ch}(hb:F2 c.ds<=1048576):I1 c:=by
 simp only[Ch.ds,F2,U7] at hb
 exact⟨by omega,by omega,by omega,by omega⟩
abbrev TD.ds(x:TD):List D:=[.str x.t.nm,x.dc,x.dk,x.df,x.dx]
theorem D2X{ds:List D}(h:WT Tryz.prog A94 ds):∃x:TD,ds=x.ds/\B8 x.dc (B3 x.t.cs)/\B8 x.dk (A0 x.t.ks)/\B8 x.df (H9 x.t.fs)/\B8 x.dx (xL x.t.xs)/\x.t.Rg:=by
 obtain⟨hl,hf⟩:=h.st' Tryz.underlying27
 rw[C80] at hl
 match ds,hl with
 |[d0,d1,d2,d3,d4],_=>
  have h0:=hf _ (U4 ..)
  have h1:=hf _ (M6 _ (U4 ..))
  have h2:=hf _ (M6 _ (M6 _ (U4 ..)))
  have h3:=hf _ (M6 _ (M6 _ (M6 _ (U4 ..))))
  have h4:=hf _ (M6 _ (M6 _ (M6 _ (M6 _ (U4 ..)))))
  dsimp only at h0 h1 h2 h3 h4
  rw[A3N] at h0
  rw[C7W] at h1
  rw[B5H] at h2
  rw[C7Z] at h3
  rw[B5G] at h4
  obtain⟨s,hs⟩:=A3n h0
  obtain⟨dc,l,h1,hc⟩:=D2S h1
  obtain⟨dk,ks,h2,hk⟩:=B9c h2
  obtain⟨df,fs,h3,hf⟩:=D2W h3
  obtain⟨nl,xs,h4,hx⟩:=D2U h4
  simp at hs h1 h2 h3 h4
  exact⟨⟨⟨s,l,ks,fs,xs⟩,dc,dk,df,ng nl (xL xs)⟩,by rw[hs,h1,h2,h3,h4],hc,hk,hf,v7,hx⟩
theorem D2h{x:TD}(hb:F2 x.ds<=1048576)(h:B8 x.dc (B3 x.t.cs)/\B8 x.dk (A0 x.t.ks)/\B8 x.df (H9 x.t.fs)/\B8 x.dx (xL x.t.xs)/\x.t.Rg):x.ok:=
 ⟨D2g hb h.1 h.2.1 h.2.2.1 h.2.2.2.1,h.2.2.2.2⟩
abbrev B50:TypeId:=28
theorem D2R{ds:List D}(h:WT Tryz.prog B50 ds):∃d l,ds=[d]/\B8 d (I2 l):=by
 obtain⟨d,es,h1,h2,h4,h3⟩:=h.sl' Tryz.underlying28
 have:∃l,es=I2 l:=by
  clear h1 h2 h4
  induction es with
  |nil=>exact⟨[],rfl⟩
  |cons x es ih=>
   obtain⟨n,hn⟩:=D2Q (h3 x (by simp))
   obtain⟨ks,hk⟩:=ih λy hy=>h3 y (by simp[hy])
   exact⟨n::ks,by rw[hn,hk];rfl⟩
 obtain⟨ks,rfl⟩:=this
 exact⟨d,ks,h1,h2⟩
theorem C7n(d:D):w6 Tryz.prog B50 [d]=.d d:=by unfold w6;rw[Tryz.underlying28]
theorem B5O{d:D}{l:List Ch}(h:B8 d (I2 l))(hb:F2 [d]<=1048576):l.length<=1048576/\∀c∈l,I1 c:=by
 have h1:=A4i h
 have h2:(I2 l).length<=J6 (I2 l):=A3K λx hx=>by
  obtain⟨k,_,rfl⟩:=E6.1 hx
  simp only[A1K,F2,U7];omega
 rw[A2i] at h2
 refine⟨by omega,λv hv=>?_⟩
 have h3:F2 (A1K v)<=J6 (I2 l):=A2Z (E6.2 ⟨v,hv,rfl⟩)
 exact C81 (c:=v) (by show F2 (A1K v)<=_;omega)
end Go.Proofs
end
section
set_option maxRecDepth 100000
namespace Go.Proofs.YtnhhopmldgpglaaGreatDoor
open Go Go.Bi Go.Proofs Go.Lib
abbrev A8o:List (String×DataW Unit):=[("math/bits.deBruijn32tab",Rows.laid_math_bits_deBruijn32tab),("math/bits.deBruijn64tab",Rows.laid_math_bits_deBruijn64tab),("internal/strconv.uint64pow10",Rows.laid_internal_strconv_uint64pow10),("unicode/utf8.acceptRanges",Rows.laid_unicode_utf8_acceptRanges),("unicode/utf8.first",Rows.laid_unicode_utf8_first)]
abbrev B8b:List Int:=(List.range 20).map λi=>((10 ^ i:Nat):Int)
theorem B70:Tryz.prog.globalNamed "internal/strconv.uint64pow10" = some 0:=by kernel_rfl
theorem D2m:(Tryz.prog.globals[0]?).map (·.type)=some 230:=by kernel_rfl
theorem D1k:(Rows.laid_internal_strconv_uint64pow10:DataW Unit)=tabData .u64 B8b:=by rfl
theorem D1j{W:World}(hL:laidMet Tryz.prog A8o W):TabIs Tryz.prog W "internal/strconv.uint64pow10" .u64 B8b:=by
 obtain⟨ps,⟨_,_,_,_,_,_,_,_,_,_,⟨_,_,_,_,_,_,_,_,_,_,⟨g,t,cs,fuel,p,q,hg,hty,hv,hd,_,_⟩,_⟩,_⟩,_,_⟩:=hL
 obtain rfl:=A03 (hg.symm.trans B70)
 obtain rfl:=A03 (hty.symm.trans D2m)
 rw[D1k] at hd
 unfold TabIs
 rw[hv,<- cells_of_tab Tryz.underlying230 Tryz.underlying179 (by kernel_rfl) (by kernel_rfl) hd]
theorem D1z:(((begin Tryz.prog (λ_ _=>0) default).world.heap[0]?).bind Obj.row?).isSome=true:=by kernel_rfl
theorem B8r:((begin Tryz.prog (λ_ _=>0) default).world.heap[1]?).bind Obj.row?=some (#[.int .i64 0],3):=by kernel_rfl
theorem C9w{W:World}(hL:laidMet Tryz.prog A8o W)(hs:W.ShapedOpen Tryz.prog):∀b,J4.has b->∃o,W.heap[b]?=some o/\J4.ok b o:=by
 intro b hb
 rcases hb with rfl|rfl
 ·obtain⟨⟨zero,t⟩,hz⟩:=Option.isSome_iff_exists.1 D1z
  obtain⟨cs,hh,_,_⟩:=hs.1 0 zero t (of_decide_eq_true (by kernel_rfl)) hz
  have h:=D1j hL
  unfold TabIs World.var? at h
  rw[B70,Option.bind_some,hh] at h
  have h:=A03 h
  refine⟨_,hh,λ_=>⟨_,_,by rw[h];rfl⟩,λe=>absurd e (by decide)⟩
 ·obtain⟨cs,hh,hsz,hr⟩:=hs.1 1 _ _ (of_decide_eq_true (by kernel_rfl)) B8r
  obtain⟨m,hm⟩:=cell_of_shapedOpen_int hs (of_decide_eq_true (by kernel_rfl)) B8r rfl (by kernel_rfl) (by kernel_rfl) Tryz.underlying3
  refine⟨_,hh,λe=>absurd e (by decide),λ_=>⟨m,3,(0,0),?_⟩⟩
  have h1:cs.size=1:=hsz
  have h2:cs[0]?=some (.int .i64 m):=by simpa[World.cell?,hh] using hm
  congr 1
  refine Array.ext (by simpa using h1) λi hi1 hi2=>?_
  have:i=0:=by simp at hi2;omega
  subst this
  rw[J1 hi1] at h2
  simpa using A03 h2
def B7k:DataW Unit->List Value
 |.lit (.int k z)=>[.int k z]
 |_=>[]
def A69:DataW Unit->Array Value
 |.agg l=>(l.flatMap λd=>match d with
  |.agg m=>m.flatMap B7k
  |d=>B7k d).toArray
 |_=>#[]
noncomputable def A5G (os:Os):World:=
 {World.holding Tryz.prog os ⟨#[],#[],[]⟩ with heap:=⟨.cells (A69 Rows.laid_internal_strconv_uint64pow10) 230 (0,0)::.cells #[.int .i64 0] 3 (0,0)::.cells (A69 Rows.laid_unicode_utf8_first) 235 (0,0)::.cells (A69 Rows.laid_unicode_utf8_acceptRanges) 238 (0,0)::.cells (A69 Rows.laid_math_bits_deBruijn32tab) 244 (0,0)::.cells (A69 Rows.laid_math_bits_deBruijn64tab) 245 (0,0)::(World.holding Tryz.prog os ⟨#[],#[],[]⟩).heap.toList.drop 6⟩}
theorem D03(os:Os)(args:Array Value):laidMet Tryz.prog A8o ((A5G os).forCall (λ_ _=>0) ⟨#[],args,[]⟩).memory:=
 laidMet_of_run' 8 (by kernel_rfl) (by kernel_rfl)
theorem D2F(os:Os)(args:Array Value):((A5G os).forCall (λ_ _=>0) ⟨#[],args,[]⟩).variablesB Tryz.prog=true:=by kernel_rfl
theorem D1w(os:Os)(args:Array Value):((((A5G os).forCall (λ_ _=>0) ⟨#[],args,[]⟩).heap.toList.drop Tryz.prog.globals.size).take ((begin Tryz.prog (λ_ _=>0) default).world.heap.size-Tryz.prog.globals.size))=(begin Tryz.prog (λ_ _=>0) default).world.heap.toList.drop Tryz.prog.globals.size:=by kernel_rfl
end Go.Proofs.YtnhhopmldgpglaaGreatDoor
end
