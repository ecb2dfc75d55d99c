/- Texts of this claim, joined. No condition. -/
import Derived.Test.YtnhhopmldgpglaaGreatDoorQ9
import Derived.Lib.Replace
import Derived.Lib.IndexMore
import Derived.Lib.ItoaLen
import Derived.Lib.ItoaMem
set_option linter.unusedSimpArgs false
set_option linter.unusedVariables false
set_option maxRecDepth 10000
set_option maxHeartbeats 4000000
section
namespace Go.Proofs
open Go.Lib
def Q3(old new:List UInt8):Nat->List UInt8->List UInt8
 |0,s=>s
 |n+1,[]=>[]
 |n+1,c::s=>if old.isPrefixOf (c::s) then new++Q3 old new n ((c::s).drop old.length) else c::Q3 old new n s
theorem A8D(c:UInt8)(l sub:List UInt8):index (c::l) sub=if sub.isPrefixOf (c::l) then 0 else if index l sub==-1 then -1 else index l sub+1:=by
 rw[index]
theorem D3s(sub:List UInt8)(h:1<=sub.length):∀(m m':Nat)(s:List UInt8),s.length<m->s.length<m'->countFrom sub m s=countFrom sub m' s
 |0,_,s,h1,_=>by omega
 |_,0,s,_,h2=>by omega
 |m+1,m'+1,s,h1,h2=>by
  unfold countFrom
  split
  ·rfl
  ·rename_i hi
   have h3:=index_ge s sub
   have h4:0<=index s sub:=by
    have:¬index s sub=-1:=λe=>hi (by rw[e];rfl)
    omega
   have h5:=index_room s sub h4
   rw[D3s sub h m m' _ (by rw[U5];omega) (by rw[U5];omega)]
theorem B1Z(old new:List UInt8)(h:1<=old.length):∀(n m:Nat)(s:List UInt8),s.length<=n->s.length<m->replaceK old new (countFrom old m s) s=Q3 old new n s
 |n,0,s,_,h2=>by omega
 |n,m+1,[],_,_=>by
  have e:index [] old=-1:=by
   rcases index_spec [] old with ⟨h1,_⟩|⟨i,h1,h2,h3,_⟩
   ·exact h1
   ·have hr:=index_room [] old (by omega)
    simp at hr
    omega
  unfold countFrom
  rw[e]
  cases n<;>rfl
 |0,m+1,c::l,h1,_=>by simp at h1
 |n+1,m+1,c::l,h1,h2=>by
  simp only[H7] at h1 h2
  by_cases hp:old.isPrefixOf (c::l)=true
  ·have e:index (c::l) old=0:=by rw[A8D,if_pos hp]
   rw[Q3,if_pos hp,countFrom,e,if_neg (by decide),Nat.add_comm 1,replaceK,e,if_neg (by decide)]
   simp only[Int.toNat_zero,List.take_zero,A1v,v7]
   rw[B1Z old new h n m _ (by rw[U5,H7];omega) (by rw[U5,H7];omega)]
  ·rw[Q3,if_neg hp]
   have ih:=B1Z old new h n (m+1) l (by omega) (by omega)
   by_cases hi:(index l old==-1)=true
   ·have e:index (c::l) old=-1:=by rw[A8D,if_neg hp,if_pos hi]
    rw[countFrom,if_pos hi] at ih
    rw[countFrom,e,if_pos (show((-1:Int)==-1)=true by decide)]
    rw[<- ih];rfl
   ·have h3:=index_ge l old
    have h4:0<=index l old:=by
     have:¬index l old=-1:=λe=>hi (by rw[e];rfl)
     omega
    obtain⟨i,hi2⟩:∃i:Nat,index l old=i:=⟨(index l old).toNat,by omega⟩
    have e:index (c::l) old=((i+1:Nat):Int):=by rw[A8D,if_neg hp,if_neg hi,hi2];rfl
    have h5:=index_room l old h4
    rw[countFrom,if_neg hi,hi2,G7,Nat.add_comm 1,replaceK_hit _ _ _ _ i hi2] at ih
    have hne:¬(((i+1:Nat):Int)==-1)=true:=by
     intro hh;have:=eq_of_beq hh;omega
    rw[countFrom,e,if_neg hne,G7,Nat.add_comm 1,replaceK_hit _ _ _ _ (i+1) e,show(i+1)+old.length=(i+old.length)+1 by omega,List.drop_succ_cons,A3t,<- ih]
    simp
theorem C1u(s old new:List UInt8)(h:1<=old.length)(hne:(old==new)=false):replaceAll s old new=Q3 old new s.length s:=by
 unfold replaceAll replace replaceNum count
 rw[hne,if_neg (by decide),if_pos (.inl (by decide))]
 exact B1Z old new h _ _ _ (G8 _) (by omega)
def V2:List UInt8->List UInt8
 |[]=>[]
 |c::s=>if c=39 then 39::39::V2 s else c::V2 s
theorem C1t:∀(n:Nat)(s:List UInt8),s.length<=n->Q3 [39] [39,39] n s=V2 s
 |0,[],_=>rfl
 |0,c::s,h=>by simp at h
 |n+1,[],_=>rfl
 |n+1,c::s,h=>by
  have ih:=C1t n s (by simpa using h)
  rw[Q3,V2]
  by_cases hc:c=39
  ·subst hc
   rw[if_pos rfl,if_pos (by rfl)]
   show[39,39]++Q3 [39] [39,39] n s=_
   rw[ih];rfl
  ·rw[if_neg hc,if_neg (by simp[List.isPrefixOf];exact λe=>hc e.symm),ih]
def O0:List UInt8->Option (List UInt8)
 |[]=>some []
 |[c]=>if c=39 then none else some [c]
 |c::d::s=>if c=39 then (if d=39 then (O0 s).map (39::·) else none) else (O0 (d::s)).map (c::·)
theorem B1Y:∀(n:Nat)(s:List UInt8),s.length<=n->(O0 s=none->(39:UInt8)∈Q3 [39,39] [] n s)/\(∀t,O0 s=some t->(39:UInt8)∉ Q3 [39,39] [] n s/\Q3 [39,39] [39] n s=t)
 |0,[],_=>⟨λh=>by simp[O0] at h,λt h=>by simp[O0] at h;subst h;simp[Q3]⟩
 |0,c::s,h=>by simp at h
 |n+1,[],_=>⟨λh=>by simp[O0] at h,λt h=>by simp[O0] at h;subst h;simp[Q3]⟩
 |n+1,[c],h=>by
  have hp:List.isPrefixOf [39,39] [c]=false:=by simp[List.isPrefixOf]
  have h0:∀new,Q3 [39,39] new n []=[]:=λnew=>by cases n<;>rfl
  refine⟨λh=>?_,λt h=>?_⟩
  ·rw[Q3,hp,if_neg (by decide),h0]
   unfold O0 at h
   split at h
   ·rename_i hc;subst hc;simp
   ·cases h
  ·unfold O0 at h
   split at h
   ·cases h
   ·rename_i hc
    cases h
    rw[Q3,hp,if_neg (by decide),Q3,hp,if_neg (by decide),h0,h0]
    exact⟨by simp;exact λe=>hc e.symm,rfl⟩
 |n+1,c::d::s,h=>by
  simp only[H7] at h
  by_cases hc:c=39
  ·subst hc
   by_cases hd:d=39
   ·subst hd
    have ih:=B1Y n s (by omega)
    have hp:List.isPrefixOf [39,39] (39::39::s)=true:=by simp[List.isPrefixOf]
    have e1:∀new,Q3 [39,39] new (n+1) (39::39::s)=new++Q3 [39,39] new n s:=λnew=>by rw[Q3,if_pos hp];rfl
    rw[e1,e1,O0,if_pos rfl,if_pos rfl]
    refine⟨λh=>?_,λt h=>?_⟩
    ·simp only[Option.map_eq_none_iff] at h
     simpa using ih.1 h
    ·obtain⟨u,hu,rfl⟩:=F7.1 h
     obtain⟨i1,i2⟩:=ih.2 u hu
     exact⟨by simpa using i1,by rw[i2];rfl⟩
   ·have hp:List.isPrefixOf [39,39] (39::d::s)=false:=by simp[List.isPrefixOf];exact λe=>hd e.symm
    rw[Q3,hp,if_neg (by decide),O0,if_pos rfl,if_neg hd]
    exact⟨λ_=>by simp,λt h=>by cases h⟩
  ·have hp:List.isPrefixOf [39,39] (c::d::s)=false:=by simp[List.isPrefixOf];intro e;exact absurd e.symm hc
   have ih:=B1Y n (d::s) (by simp;omega)
   have e1:∀new,Q3 [39,39] new (n+1) (c::d::s)=c::Q3 [39,39] new n (d::s):=λnew=>by rw[Q3,hp,if_neg (by decide)]
   rw[e1,e1,O0,if_neg hc]
   refine⟨λh=>?_,λt h=>?_⟩
   ·simp only[Option.map_eq_none_iff] at h
    simp[ih.1 h]
   ·obtain⟨u,hu,rfl⟩:=F7.1 h
    obtain⟨i1,i2⟩:=ih.2 u hu
    exact⟨by simp;exact⟨λe=>hc e.symm,i1⟩,by rw[i2]⟩
theorem D3q(s:List UInt8):contains s [39]=decide ((39:UInt8)∈s):=by
 have key:∀s:List UInt8,(0<=index s [39])↔(39:UInt8)∈s:=by
  intro s
  induction s with
  |nil=>decide
  |cons c l ih=>
   rw[A8D]
   have h3:=index_ge l [39]
   by_cases hc:c=39
   ·subst hc;simp[List.isPrefixOf]
   ·rw[if_neg (by simp[List.isPrefixOf];exact λe=>hc e.symm)]
    split
    ·rename_i h
     have h:=eq_of_beq h
     rw[h] at ih
     simp only[I6]
     constructor
     ·intro h;omega
     ·rintro(e|e)
      ·exact absurd e.symm hc
      ·have:=ih.2 e;omega
    ·rename_i h
     have h:¬index l [39]=-1:=λe=>h (by rw[e];rfl)
     simp only[I6]
     constructor
     ·intro _;exact .inr (ih.1 (by omega))
     ·intro _;omega
 unfold contains
 exact decide_eq_decide.2 (key s)
end Go.Proofs
end
section
namespace Go.Proofs
open Go.Bi
def A0k(v:Vl):List UInt8:=
 if K7 v=false then [] else if v.k=1 then Lib.itoa v.n else if v.k=2 then [39]++V2 v.s++[39] else if v.k=3 then (if v.n=1 then [84,82,85,69] else [70,65,76,83,69]) else [78,85,76,76]
theorem A8U:∀s:List UInt8,(V2 s).length<=2*s.length
 |[]=>G8 _
 |c::s=>by
  have:=A8U s
  rw[V2]
  split<;>simp only[H7]<;>omega
theorem C4x(s:List UInt8)(hs:s.length<=1048576):Pure Tryz.prog A5M [.d (.str s),.d (.str [39]),.d (.str [39,39])] (.d (.str (V2 s))):=by
 have h:=A9F s [39] [39,39] (by omega) (by decide) (by decide)
 rw[C1u _ _ _ (by decide) (by decide),C1t _ _ (G8 _)] at h
 exact h
theorem B2r{v:Vl}(h:K7 v=true)(hk:v.k=1):-1125899906842624<=v.n/\v.n<=1125899906842624:=by
 unfold K7 at h
 rw[if_neg (by omega),if_pos hk] at h
 exact(of_decide_eq_true h).2
theorem C2c{v:Vl}(h:K7 v=true):v.k=0\/v.k=1\/v.k=2\/v.k=3:=by
 unfold K7 at h
 split at h
 ·omega
 split at h
 ·omega
 split at h
 ·omega
 split at h
 ·omega
 ·cases h
theorem C4U(v:Vl)(hs:v.s.length<=1048576):Pure Tryz.prog B7U [eV v] (.d (.str (A0k v))):=by
 have hV:=A5m v (by omega)
 obtain⟨q,hq⟩:∃q,q=A0k v:=⟨_,rfl⟩
 rw[<- hq]
 unfold A0k at hq
 cases hv:K7 v with
 |false=>
  rw[hv] at hV hq
  rw[if_pos rfl] at hq
  subst hq
  refine B3A.go A4 rfl ?_
  repeat' first|refine st ?_|refine⟨λ_=>?_,λ_=>?_⟩|fail
  all_goals rfl
 |true=>
  have hk:=C2c hv
  have hn:=λh=>B2r hv h
  rw[hv] at hV hq
  rw[if_neg (by decide)] at hq
  have hR:=C4x v.s hs
  have hs0:=hs
  clear hv
  obtain⟨k,n,s⟩:=v
  dsimp only at hq hk hn hR hs0
  refine B3A.go A4 rfl ?_
  rcases hk with rfl|rfl|rfl|rfl
  ·rw[if_neg (by decide),if_neg (by decide),if_neg (by decide)] at hq
   subst hq
   repeat' first|refine st ?_|refine⟨λ_=>?_,λ_=>?_⟩|fail
   all_goals rfl
  ·rw[if_pos rfl] at hq
   subst hq
   have hI:=C4L n (by have:=(hn rfl).1;omega) (by have:=(hn rfl).2;omega)
   repeat' first|refine st ?_|refine⟨λ_=>?_,λ_=>?_⟩|fail
   all_goals rfl
  ·rw[if_neg (by decide),if_pos rfl] at hq
   subst hq
   have hl:=A8U s
   have hb1:([39]:List UInt8).length+(V2 s).length<=9223372036854775807:=by simp only[H7,P9];omega
   have hb2:(([39]:List UInt8)++V2 s).length+([39]:List UInt8).length<=9223372036854775807:=by simp only[J0,H7,P9];omega
   obtain⟨z,hz⟩:∃z,z=V2 s:=⟨_,rfl⟩
   rw[<- hz] at hR hb1 hb2 ⊢
   clear hz hl
   repeat' first|refine st ?_|refine⟨λ_=>?_,λ_=>?_⟩|fail
   all_goals rfl
  ·rw[if_neg (by decide),if_neg (by decide),if_pos rfl] at hq
   by_cases h1:n=1
   ·rw[if_pos h1] at hq
    subst hq
    repeat' first|refine st ?_|refine⟨λ_=>?_,λ_=>?_⟩|fail
    all_goals rfl
   ·rw[if_neg h1] at hq
    subst hq
    repeat' first|refine st ?_|refine⟨λ_=>?_,λ_=>?_⟩|fail
    all_goals rfl
theorem B99(d:Nat)(h:d<10):(([48,49,50,51,52,53,54,55,56,57]:List UInt8).drop d).take (d+1-d)=[UInt8.ofNat (48+d)]:=by
 have key:∀d:Fin 10,(([48,49,50,51,52,53,54,55,56,57]:List UInt8).drop d.1).take (d.1+1-d.1)=[UInt8.ofNat (48+d.1)]:=by decide
 exact key ⟨d,h⟩
theorem A8h(n:Nat)(hn:n<=4611686018427387904):(Lib.decDigits n).length<=21:=by
 have h:=Lib.itoa_length_le n (by omega) (by omega)
 rwa [Lib.itoa_nonneg] at h
theorem B98{m:Nat}(h:9<m):Lib.decDigits m=Lib.decDigits (m / 10)++[UInt8.ofNat (48+m % 10)]:=by
 rw[Lib.decDigits,dif_neg (by omega)]
theorem A7q(n:Nat)(hn:n<=4611686018427387904):Pure Tryz.prog A4i [.d (eI n)] (.d (.str (Lib.decDigits n))):=by
 have hql:=A8h n hn
 obtain⟨q,hq⟩:∃q,q=Lib.decDigits n:=⟨_,rfl⟩
 rw[<- hq] at hql ⊢
 refine C52.go A4 rfl ?_
 repeat' first|refine st ?_|refine⟨λ_=>?_,λ_=>?_⟩|fail
 refine I2 A4 C8n C7f (λ(m:Nat) (s:List UInt8)=>[.d (eI m),.d (.str s)]) (λm s=>[]) (λm s=>m<=4611686018427387904/\Lib.decDigits m++s=q) (λm s=>m) n [] rfl rfl rfl rfl (λ_ _ _=>⟨rfl,rfl⟩) rfl ⟨hn,by rw[u7,hq]⟩ ?_
 repeat' first|refine st ?_|refine⟨λ_=>?_,λ_=>?_⟩|fail
 intro m s ⟨h1,h2⟩
 have hsl:s.length<=21:=by rw[<- h2,J0] at hql;omega
 have hL:([48,49,50,51,52,53,54,55,56,57]:List UInt8).length=10:=rfl
 by_cases h3:9<m
 ·have hd:(m:Int).tmod 10=((m % 10:Nat):Int):=by rw[Int.tmod_eq_emod_of_nonneg (by omega)];rfl
  have hv:(m:Int).tdiv 10=((m / 10:Nat):Int):=by rw[Int.tdiv_eq_ediv_of_nonneg (by omega)];rfl
  have h4:=B98 h3
  have h5:=B99 (m % 10) (by omega)
  have h6:m / 10<m:=by omega
  have h7:m % 10<10:=by omega
  obtain⟨e,he⟩:∃e,e=m % 10:=⟨_,rfl⟩
  obtain⟨g,hg⟩:∃g,g=m / 10:=⟨_,rfl⟩
  rw[<- he] at hd h5 h7 h4
  rw[<- hg] at hv h6 h4
  have h5':List.take ((((e:Int)+1)).toNat-((e:Int)).toNat) (List.drop ((e:Int)).toNat [48,49,50,51,52,53,54,55,56,57])=[UInt8.ofNat (48+e)]:=h5
  have hl1:([UInt8.ofNat (48+e)]:List UInt8).length=1:=rfl
  clear he hg h5
  repeat' first|(rw[hd])|(rw[hv])|(rw[h5'])|refine st ?_|refine⟨λ_=>?_,λ_=>?_⟩|fail
  all_goals exact⟨g,[UInt8.ofNat (48+e)]++s,rfl,rfl,rfl,h6,by omega,by rw[<- h2,h4,List.append_assoc]⟩
 ·have h5:=B99 m (by omega)
  have h5':List.take ((((m:Int)+1)).toNat-((m:Int)).toNat) (List.drop ((m:Int)).toNat [48,49,50,51,52,53,54,55,56,57])=[UInt8.ofNat (48+m)]:=h5
  have hl1:([UInt8.ofNat (48+m)]:List UInt8).length=1:=rfl
  rw[Lib.decDigits,dif_pos (by omega)] at h2
  clear h5
  repeat' first|(rw[h5'])|refine st ?_|refine⟨λ_=>?_,λ_=>?_⟩|fail
  all_goals (rw[<- h2])
theorem C4r(n:Int)(h0:-1125899906842624<=n)(h1:n<=1125899906842624):Pure Tryz.prog A9W [.d (eI n)] (.d (.str (Lib.itoa n))):=by
 obtain⟨q,hq⟩:∃q,q=Lib.itoa n:=⟨_,rfl⟩
 rw[<- hq]
 by_cases hn:n<0
 ·obtain⟨m,rfl⟩:∃m:Nat,n=-(m:Int):=⟨n.natAbs,by omega⟩
  have hm:1<=m:=by omega
  rw[Lib.itoa_neg m hm] at hq
  by_cases hs:-10 < -(m:Int)
  ·have hN:=A7q m (by omega)
   have hl:=A8h m (by omega)
   obtain⟨z,hz⟩:∃z,z=Lib.decDigits m:=⟨_,rfl⟩
   rw[<- hz] at hN hl hq
   have hl1:([45]:List UInt8).length=1:=rfl
   have e1:(0:Int) - -(m:Int)=m:=by omega
   clear hz
   refine A9J.go A4 rfl ?_
   repeat' first|(rw[e1])|refine st ?_|refine⟨λ_=>?_,λ_=>?_⟩|fail
   all_goals (rw[hq];rfl)
  ·have hN:=A7q (m / 10) (by omega)
   have hN2:=A7q (m % 10) (by omega)
   have hl:=A8h (m / 10) (by omega)
   have hl2:=A8h (m % 10) (by omega)
   rw[B98 (by omega),<- Lib.decDigits_one (by omega)] at hq
   have hd:(-(m:Int)).tmod 10=-((m % 10:Nat):Int):=by rw[Int.neg_tmod,Int.tmod_eq_emod_of_nonneg (by omega)];rfl
   have hv:(-(m:Int)).tdiv 10=-((m / 10:Nat):Int):=by rw[Int.neg_tdiv,Int.tdiv_eq_ediv_of_nonneg (by omega)];rfl
   obtain⟨e,he⟩:∃e,e=m % 10:=⟨_,rfl⟩
   obtain⟨g,hg⟩:∃g,g=m / 10:=⟨_,rfl⟩
   have hge:g<=m/\e<10:=by omega
   rw[<- he] at hN2 hl2 hq hd
   rw[<- hg] at hN hl hq hv
   obtain⟨z,hz⟩:∃z,z=Lib.decDigits g:=⟨_,rfl⟩
   obtain⟨y,hy⟩:∃z,z=Lib.decDigits e:=⟨_,rfl⟩
   rw[<- hz] at hN hl hq
   rw[<- hy] at hN2 hl2 hq
   have hl1:([45]:List UInt8).length=1:=rfl
   have hl3:(([45]:List UInt8)++z).length=1+z.length:=by simp only[J0,H7,P9]
   have e1:(0:Int) - -(g:Int)=g:=by omega
   have e2:(0:Int) - -(e:Int)=e:=by omega
   clear hz hy he hg
   refine A9J.go A4 rfl ?_
   repeat' first|(rw[hd])|(rw[hv])|(rw[e1])|(rw[e2])|refine st ?_|refine⟨λ_=>?_,λ_=>?_⟩|fail
   all_goals (rw[hq];rfl)
 ·obtain⟨m,rfl⟩:∃m:Nat,n=(m:Int):=⟨n.toNat,by omega⟩
  rw[Lib.itoa_nonneg] at hq
  have hN:=A7q m (by omega)
  rw[<- hq] at hN
  refine A9J.go A4 rfl ?_
  repeat' first|refine st ?_|refine⟨λ_=>?_,λ_=>?_⟩|fail
  all_goals rfl
theorem C1k:∀(a b:List UInt8),V2 (a++b)=V2 a++V2 b
 |[],b=>rfl
 |c::a,b=>by
  have ih:=C1k a b
  simp only[A3n,V2,ih]
  split<;>rfl
theorem C4t(s:List UInt8)(hs:s.length<=1048576):Pure Tryz.prog A9X [.d (.str s)] (.d (.str ([39]++V2 s++[39]))):=by
 have hql:=λi=>A8U (s.take i)
 refine C58.go A4 rfl ?_
 repeat' first|refine st ?_|refine⟨λ_=>?_,λ_=>?_⟩|fail
 refine I2 A4 C8p C7h (λ(i:Nat) (o:List UInt8)=>[.d (.str o),.d (eI i)]) (λi o=>[]) (λi o=>i<=s.length/\o=[39]++V2 (s.take i)) (λi o=>s.length-i) 0 [39] rfl rfl rfl rfl (λ_ _ _=>⟨rfl,rfl⟩) rfl ⟨R1 _,rfl⟩ ?_
 repeat' first|refine st ?_|refine⟨λ_=>?_,λ_=>?_⟩|fail
 intro i o ⟨h1,h2⟩
 have hl:=hql i
 rw[J1] at hl
 have hol:o.length<=2097153:=by rw[h2,J0,H7,P9];omega
 have hl1:([39]:List UInt8).length=1:=rfl
 have hl2:(o++[39]).length=o.length+1:=by simp
 cases hx:s[i]? with
 |some c=>
  have hlt:=(A7.1 hx).1
  have hg:s.getD ((i:Int)).toNat 0=c:=by simp[E8,hx]
  have hp:List.take (((i:Int)+1).toNat-((i:Int)).toNat) (List.drop ((i:Int)).toNat s)=[c]:=by
   rw[show((i:Int)+1).toNat-((i:Int)).toNat=1 by omega,G7,P7 hlt]
   have:=(A7.1 hx).2
   simp[this]
  have hcl:([c]:List UInt8).length=1:=rfl
  have T5:V2 (s.take (i+1))=V2 (s.take i)++V2 [c]:=by rw[<- C1k,P1,hx];rfl
  by_cases hc:c=39
  ·subst hc
   repeat' first|(rw[hg])|(rw[hp])|refine st ?_|refine⟨λ_=>?_,λ_=>?_⟩|fail
   all_goals exact⟨i+1,(o++[39])++[39],rfl,rfl,rfl,by omega,by omega,by rw[T5,h2];simp[V2]⟩
  ·have hc2:¬((c.toNat:Int)=39):=λe=>hc (A2O.1 (by simpa using(by omega:c.toNat=39)))
   repeat' first|(rw[hg])|(rw[hp])|refine st ?_|refine⟨λ_=>?_,λ_=>?_⟩|fail
   all_goals exact⟨i+1,o++[c],rfl,rfl,rfl,by omega,by omega,by rw[T5,h2];simp[V2,hc]⟩
 |none=>
  have hge:=C8.1 hx
  rw[J5 hge] at h2
  repeat' first|refine st ?_|refine⟨λ_=>?_,λ_=>?_⟩|fail
  all_goals (rw[h2])
theorem D7T{v:Vl}(h:K7 v=true)(hk:v.k=0):v=F4:=by
 unfold K7 at h
 rw[if_pos hk] at h
 obtain⟨h1,h2⟩:=of_decide_eq_true h
 obtain⟨k,n,s⟩:=v
 dsimp only at hk h1 h2
 subst hk;subst h1;subst h2;rfl
theorem D7U{v:Vl}(h:K7 v=true)(hk:v.k=3):v=z7 true\/v=z7 false:=by
 unfold K7 at h
 rw[if_neg (by omega),if_neg (by omega),if_neg (by omega),if_pos hk] at h
 obtain⟨h1,h2⟩:=of_decide_eq_true h
 obtain⟨k,n,s⟩:=v
 dsimp only at hk h1 h2
 subst hk;subst h1
 rcases h2 with rfl|rfl
 ·exact .inr rfl
 ·exact .inl rfl
theorem C4q(v:Vl)(hs:v.s.length<=1048576):Pure Tryz.prog B6B [eV v] (.d (.str (A0k v))):=by
 have hV:=A5j v (by omega)
 have hN:=A0n
 have hT:=A7r true
 have hF:=A7r false
 obtain⟨q,hq⟩:∃q,q=A0k v:=⟨_,rfl⟩
 rw[<- hq]
 unfold A0k at hq
 cases hv:K7 v with
 |false=>
  rw[hv] at hV hq
  rw[if_pos rfl] at hq
  subst hq
  refine A4b.go A4 rfl ?_
  repeat' first|refine st ?_|refine⟨λ_=>?_,λ_=>?_⟩|fail
  all_goals rfl
 |true=>
  rcases C2c hv with hk|hk|hk|hk
  ·have h0:=D7T hv hk
   subst h0
   rw[hv] at hV hq
   rw[if_neg (by decide),if_neg (by decide),if_neg (by decide),if_neg (by decide)] at hq
   subst hq
   refine A4b.go A4 rfl ?_
   repeat' first|refine st ?_|refine⟨λ_=>?_,λ_=>?_⟩|fail
   all_goals first|rfl|(exfalso;simp_all[F4])
  ·have hn:=B2r hv hk
   have hI:=C4r v.n (by omega) (by omega)
   rw[hv] at hV hq
   rw[if_neg (by decide),if_pos hk] at hq
   rw[<- hq] at hI
   clear hq hv
   obtain⟨k,n,s⟩:=v
   dsimp only at hk hI
   subst hk
   refine A4b.go A4 rfl ?_
   repeat' first|refine st ?_|refine⟨λ_=>?_,λ_=>?_⟩|fail
   all_goals first|rfl|(exfalso;simp_all[F4,z7])
  ·have hQ:=C4t v.s hs
   rw[hv] at hV hq
   rw[if_neg (by decide),if_neg (by omega),if_pos hk] at hq
   rw[<- hq] at hQ
   clear hq hv
   obtain⟨k,n,s⟩:=v
   dsimp only at hk hQ
   subst hk
   refine A4b.go A4 rfl ?_
   repeat' first|refine st ?_|refine⟨λ_=>?_,λ_=>?_⟩|fail
   all_goals first|rfl|(exfalso;simp_all[F4,z7])
  ·rcases D7U hv hk with rfl|rfl
   ·rw[hv] at hV hq
    rw[if_neg (by decide),if_neg (by decide),if_neg (by decide),if_pos (by decide),if_pos (by decide)] at hq
    subst hq
    refine A4b.go A4 rfl ?_
    repeat' first|refine st ?_|refine⟨λ_=>?_,λ_=>?_⟩|fail
    all_goals first|rfl|(exfalso;simp_all[F4,z7])
   ·rw[hv] at hV hq
    rw[if_neg (by decide),if_neg (by decide),if_neg (by decide),if_pos (by decide),if_neg (by decide)] at hq
    subst hq
    refine A4b.go A4 rfl ?_
    repeat' first|refine st ?_|refine⟨λ_=>?_,λ_=>?_⟩|fail
    all_goals first|rfl|(exfalso;simp_all[F4,z7])
def M9(c:UInt8):List UInt8->Bool
 |[]=>false
 |d::_=>decide (d=c)
theorem B2N(s:List UInt8)(hs:s.length<=4194304)(c:UInt8):Pure Tryz.prog B7y [.d (.str s),.d (.str [c])] (.d (.bool (M9 c s))):=by
 have hl1:([c]:List UInt8).length=1:=rfl
 refine C6h.go A4 rfl ?_
 cases s with
 |nil=>
  have hl:([]:List UInt8).length=0:=rfl
  repeat' first|refine st ?_|refine⟨λ_=>?_,λ_=>?_⟩|fail
  all_goals first|rfl|(exfalso;simp at *;done)
 |cons d r=>
  have hl:(d::r).length=r.length+1:=rfl
  simp only[H7] at hs
  repeat' first|refine st ?_|refine⟨λ_=>?_,λ_=>?_⟩|fail
  all_goals (simp[M9];done)
theorem C4P(s:List UInt8)(hs:s.length<=4194304)(c:UInt8):Pure Tryz.prog B0y [.d (.str s),.d (.str [c])] (.d (.bool (M9 c s))):=by
 have h:=B2N s hs c
 refine C6E.go A4 rfl ?_
 repeat' first|refine st ?_|refine⟨λ_=>?_,λ_=>?_⟩|fail
 all_goals rfl
theorem C3F(s:List UInt8)(hs:s.length<=4194304)(c:UInt8):Pure Tryz.prog B7w [.d (.str s),.d (.str [c])] (.tup [.d (.str (if M9 c s then s.tail else s)),.d (.bool (M9 c s))]):=by
 have h:=B2N s hs c
 have hl1:([c]:List UInt8).length=1:=rfl
 refine C6f.go A4 rfl ?_
 cases hb:M9 c s with
 |false=>
  rw[hb] at h
  repeat' first|refine st ?_|refine⟨λ_=>?_,λ_=>?_⟩|fail
  all_goals rfl
 |true=>
  rw[hb] at h
  cases s with
  |nil=>cases hb
  |cons d r=>
   have hl:(d::r).length=r.length+1:=rfl
   simp only[H7] at hs
   repeat' first|refine st ?_|refine⟨λ_=>?_,λ_=>?_⟩|fail
   all_goals (simp;done)
theorem C4N(s:List UInt8)(hs:s.length<=4194304)(c:UInt8):Pure Tryz.prog B0w [.d (.str s),.d (.str [c])] (.tup [.d (.str (if M9 c s then s.tail else s)),.d (.bool (M9 c s))]):=by
 have h:=C3F s hs c
 obtain⟨q,hq⟩:∃q,q=(if M9 c s then s.tail else s):=⟨_,rfl⟩
 rw[<- hq] at h ⊢
 refine C6C.go A4 rfl ?_
 repeat' first|refine st ?_|refine⟨λ_=>?_,λ_=>?_⟩|fail
 all_goals rfl
theorem B2e(s:List UInt8):s=[]\/∃r d,s=r++[d]:=by
 rcases List.eq_nil_or_concat s with h|⟨r,d,h⟩
 ·exact .inl h
 ·exact .inr ⟨r,d,by rw[h,List.concat_eq_append]⟩
def T5(c:UInt8)(s:List UInt8):Bool:=decide (s.getLast?=some c)
theorem C02(c d:UInt8)(r:List UInt8):T5 c (r++[d])=decide (d=c):=by
 unfold T5;simp
theorem C3H(s:List UInt8)(hs:s.length<=4194304)(c:UInt8):Pure Tryz.prog B7z [.d (.str s),.d (.str [c])] (.d (.bool (T5 c s))):=by
 have hl1:([c]:List UInt8).length=1:=rfl
 refine C6i.go A4 rfl ?_
 rcases B2e s with rfl|⟨r,d,rfl⟩
 ·have hl:([]:List UInt8).length=0:=rfl
  repeat' first|refine st ?_|refine⟨λ_=>?_,λ_=>?_⟩|fail
  all_goals first|rfl|(exfalso;simp at *;done)
 ·rw[C02]
  have hl:(r++[d]).length=r.length+1:=by simp
  have hp:List.take ((r++[d]).length-((r++[d]).length-1)) (List.drop ((r++[d]).length-1) (r++[d]))=[d]:=by
   rw[hl,show r.length+1-1=r.length by omega,show r.length+1-r.length=1 by omega]
   simp
  obtain⟨z,hz⟩:∃z,z=r++[d]:=⟨_,rfl⟩
  rw[<- hz] at hl hp hs ⊢
  clear hz
  repeat' first|refine st ?_|refine⟨λ_=>?_,λ_=>?_⟩|fail
  all_goals (simp[hp];done)
theorem C3G(s:List UInt8)(hs:s.length<=4194304)(c:UInt8):Pure Tryz.prog B7x [.d (.str s),.d (.str [c])] (.tup [.d (.str (if T5 c s then s.dropLast else s)),.d (.bool (T5 c s))]):=by
 have h:=C3H s hs c
 have hl1:([c]:List UInt8).length=1:=rfl
 refine C6g.go A4 rfl ?_
 cases hb:T5 c s with
 |false=>
  rw[hb] at h
  repeat' first|refine st ?_|refine⟨λ_=>?_,λ_=>?_⟩|fail
  all_goals rfl
 |true=>
  rw[hb] at h
  rcases B2e s with rfl|⟨r,d,rfl⟩
  ·cases hb
  ·have hl:(r++[d]).length=r.length+1:=by simp
   have hdl:(r++[d]).dropLast=r:=by simp
   have hp:List.take ((r++[d]).length-1) (r++[d])=r:=by
    rw[hl,show r.length+1-1=r.length by omega]
    simp
   rw[if_pos rfl,hdl]
   obtain⟨z,hz⟩:∃z,z=r++[d]:=⟨_,rfl⟩
   rw[<- hz] at hl hp hs h ⊢
   clear hz hb hdl
   repeat' first|refine st ?_|refine⟨λ_=>?_,λ_=>?_⟩|fail
   all_goals first|rfl|(simp[hp];done)|(simp;exact hp)
theorem C4O(s:List UInt8)(hs:s.length<=4194304)(c:UInt8):Pure Tryz.prog B0x [.d (.str s),.d (.str [c])] (.tup [.d (.str (if T5 c s then s.dropLast else s)),.d (.bool (T5 c s))]):=by
 have h:=C3G s hs c
 obtain⟨q,hq⟩:∃q,q=(if T5 c s then s.dropLast else s):=⟨_,rfl⟩
 rw[<- hq] at h ⊢
 refine C6D.go A4 rfl ?_
 repeat' first|refine st ?_|refine⟨λ_=>?_,λ_=>?_⟩|fail
 all_goals rfl
theorem A8Y(old new:List UInt8)(h:new.length<=old.length):∀(n:Nat)(s:List UInt8),(Q3 old new n s).length<=s.length
 |0,s=>G8 _
 |n+1,[]=>G8 _
 |n+1,c::s=>by
  rw[Q3]
  split
  ·rename_i hp
   have h1:=A8Y old new h n ((c::s).drop old.length)
   have h2:old.length<=(c::s).length:=by
    have:=List.isPrefixOf_iff_prefix.1 hp
    exact this.length_le
   rw[J0]
   rw[U5] at h1
   omega
  ·have h1:=A8Y old new h n s
   simp only[H7];omega
def A0e(r:List UInt8):Vl×Int:=
 if T5 39 r=false\/W2 r.dropLast=false then (F4,1)
 else match O0 r.dropLast with
  |none=>(F4,1)
  |some t=>if 200<t.length then (F4,5) else (⟨2,0,t⟩,0)
theorem C4Z(r:List UInt8)(hr:r.length<=1048576):Pure Tryz.prog B0A [.d (.str r)] (.tup [eV (A0e r).1,.d (eI (A0e r).2)]):=by
 have hC:=C4O r (by omega) 39
 have hN:=A4a
 obtain⟨q,hq⟩:∃q,q=A0e r:=⟨_,rfl⟩
 rw[<- hq]
 unfold A0e at hq
 cases hb:T5 39 r with
 |false=>
  rw[hb] at hC hq
  rw[if_pos (.inl rfl)] at hq
  subst hq
  refine A5w.go A4 rfl ?_
  repeat' first|refine st ?_|refine⟨λ_=>?_,λ_=>?_⟩|fail
  all_goals rfl
 |true=>
  rw[hb] at hC hq
  rw[if_pos rfl] at hC
  have hl:r.dropLast.length<=1048576:=by rw[List.length_dropLast];omega
  obtain⟨s,hs⟩:∃s,s=r.dropLast:=⟨_,rfl⟩
  rw[<- hs] at hC hq hl
  clear hb hs
  have hP:=B39 s (by omega)
  simp only[Bool.true_eq_false,false_or] at hq
  cases hp:W2 s with
  |false=>
   rw[hp] at hP hq
   rw[if_pos rfl] at hq
   subst hq
   refine A5w.go A4 rfl ?_
   repeat' first|refine st ?_|refine⟨λ_=>?_,λ_=>?_⟩|fail
   all_goals rfl
  |true=>
   rw[hp] at hP hq
   rw[if_neg (by decide)] at hq
   have hA:=A9F s [39,39] [] (by omega) (by decide) (by decide)
   have hB:=A9F s [39,39] [39] (by omega) (by decide) (by decide)
   rw[C1u _ _ _ (by decide) (by decide)] at hA hB
   have hl2:=A8Y [39,39] [] (by decide) s.length s
   have hD:=C4M (Q3 [39,39] [] s.length s) [39] (by omega)
   rw[D3q] at hD
   obtain⟨u1,u2⟩:=B1Y s.length s (G8 _)
   have hl3:=A8Y [39,39] [39] (by decide) s.length s
   obtain⟨A,hAA⟩:∃A,A=Q3 [39,39] [] s.length s:=⟨_,rfl⟩
   obtain⟨B,hBB⟩:∃A,A=Q3 [39,39] [39] s.length s:=⟨_,rfl⟩
   rw[<- hAA] at hA hD u1 u2 hl2
   rw[<- hBB] at hB u2 hl3
   clear hAA hBB hp
   cases hu:O0 s with
   |none=>
    rw[hu] at hq
    dsimp only at hq
    subst hq
    rw[decide_eq_true (u1 hu)] at hD
    clear hu u1 u2
    refine A5w.go A4 rfl ?_
    repeat' first|refine st ?_|refine⟨λ_=>?_,λ_=>?_⟩|fail
    all_goals rfl
   |some t=>
    obtain⟨v1,rfl⟩:=u2 t hu
    rw[hu] at hq
    dsimp only at hq
    rw[decide_eq_false v1] at hD
    clear hu u1 u2
    by_cases ht:200<B.length
    ·rw[if_pos ht] at hq
     subst hq
     refine A5w.go A4 rfl ?_
     repeat' first|refine st ?_|refine⟨λ_=>?_,λ_=>?_⟩|fail
     all_goals rfl
    ·rw[if_neg ht] at hq
     subst hq
     refine A5w.go A4 rfl ?_
     repeat' first|refine st ?_|refine⟨λ_=>?_,λ_=>?_⟩|fail
     all_goals rfl
theorem u8w{x:Int}(h0:0<=x)(h1:x<256):IntKind.u8.wrap x=x:=by
 simp[IntKind.wrap,IntKind.bits,IntKind.signed]
 omega
theorem A6o{x:Int}(h0:0<=x)(h1:x<4611686018427387904):IntKind.i64.wrap x=x:=C2l (by omega) (by omega)
def W0(n:Int):List UInt8->Option Int
 |[]=>some n
 |c::r=>if c.toNat<48\/57<c.toNat then none else W0 (min (10*n+((c.toNat:Int)-48)) 1125899906842625) r
def A0M(s:List UInt8):Vl×Int:=
 if (if M9 45 s then s.tail else s)=[]\/((if M9 45 s then s.tail else s).getD 0 0=48/\(M9 45 s=true\/1<(if M9 45 s then s.tail else s).length)) then (F4,1)
 else match W0 0 (if M9 45 s then s.tail else s) with
  |none=>(F4,1)
  |some n=>if 1125899906842624<n then (F4,6) else (⟨1,if M9 45 s then 0-n else n,[]⟩,0)
theorem C4Y (s : List UInt8) (hs : s.length ≤ 1048576) : Pure Tryz.prog B0z [.d (.str s)] (.tup [eV (A0M s).1, .d (eI (A0M s).2)]) := by
  have hC := C4N s (by omega) 45
  have hN := A4a
  obtain ⟨q, hq⟩ : ∃ q, q = A0M s := ⟨_, rfl⟩
  rw [← hq]
  unfold A0M at hq
  obtain ⟨d, hd⟩ : ∃ d, d = (if M9 45 s then s.tail else s) := ⟨_, rfl⟩
  obtain ⟨g, hg⟩ : ∃ g, g = M9 45 s := ⟨_, rfl⟩
  have hdl : d.length ≤ 1048576 := by
    rw [hd]
    split
    · rw [List.length_tail]; omega
    · exact hs
  rw [← hd, ← hg] at hq hC
  clear hd hg
  cases d with
  | nil =>
    rw [if_pos (.inl rfl)] at hq
    subst hq
    refine A9N.go A4 rfl ?_
    repeat' first|refine st ?_|refine⟨λ_=>?_,λ_=>?_⟩|fail
    all_goals first | rfl | (exfalso; simp_all; done)
  | cons c0 r =>
    have hl0 : (c0 :: r).length = r.length + 1 := rfl
    have hg0 : (c0 :: r).getD ((0 : Int)).toNat 0 = c0 := rfl
    have hg1 : (c0 :: r).getD 0 0 = c0 := rfl
    by_cases h0 : c0 = 48 ∧ (g = true ∨ 1 < (c0 :: r).length)
    · rw [if_pos (.inr h0)] at hq
      subst hq
      obtain ⟨rfl, h0⟩ := h0
      refine A9N.go A4 rfl ?_
      cases g with
      | true =>
        repeat' first|(rw [hg0])|refine st ?_|refine⟨λ_=>?_,λ_=>?_⟩|fail
        all_goals first | rfl | (exfalso; simp_all; done)
      | false =>
        have h0 : 1 < r.length + 1 := by rcases h0 with h | h; · cases h
                                         exact h
        repeat' first|(rw [hg0])|refine st ?_|refine⟨λ_=>?_,λ_=>?_⟩|fail
        all_goals first | rfl | (exfalso; simp_all; done)
    · rw [if_neg (by rintro (h | h); · cases h
                     exact h0 h)] at hq
      have hcase : (c0.toNat : Int) = 48 → g = false ∧ r = [] := by
        intro hc
        have hc2 : c0 = 48 := A2O.1 (by simpa using (by omega : c0.toNat = 48))
        refine ⟨?_, ?_⟩
        · cases g with
          | false => rfl
          | true => exact absurd ⟨hc2, .inl rfl⟩ h0
        · cases r with
          | nil => rfl
          | cons x y => exact absurd ⟨hc2, .inr (by simp)⟩ h0
      clear h0 hg1
      have fin : ∀ (K : Prop), (((c0.toNat : Int) = 48 ∧ g = false ∧ (c0 :: r).length = 1) → K) → (¬ (c0.toNat : Int) = 48 → K) → K := fun K k1 k2 => by
        by_cases hc : (c0.toNat : Int) = 48
        · obtain ⟨e1, e2⟩ := hcase hc
          exact k1 ⟨hc, e1, by rw [e2]; rfl⟩
        · exact k2 hc
      clear hcase
      refine A9N.go A4 rfl ?_
      obtain ⟨ds, hD⟩ : ∃ ds, ds = c0 :: r := ⟨_, rfl⟩
      have hDn : ¬ ds = [] := by rw [hD]; simp
      have hDl : 0 < ds.length := by rw [hD]; simp
      rw [← hD] at hC hq hdl hg0 fin
      clear hD hl0
      obtain ⟨F0, hF0⟩ : ∃ z, z = W0 0 ds := ⟨_, rfl⟩
      rw [← hF0] at hq
      refine fin _ ?_ ?_
      all_goals intro hc
      all_goals clear fin
      · obtain ⟨hc, rfl, hc2⟩ := hc
        repeat' first|(rw [hg0])|refine st ?_|refine⟨λ_=>?_,λ_=>?_⟩|fail
        refine I2 A4 B6x B6k (fun (i : Nat) (n : Int) => [.d (eI n), .d (eI i)]) (fun i n => [.cells [.d (eI 0), .d (eI 0), .d (.str [])]]) (fun i n => i ≤ ds.length ∧ 0 ≤ n ∧ n ≤ 1125899906842625 ∧ W0 n (ds.drop i) = F0) (fun i n => ds.length - i) 0 0 rfl rfl rfl rfl (fun _ _ _ => ⟨rfl, rfl⟩) rfl ⟨by omega, by omega, by omega, hF0.symm⟩ ?_
        clear hg0 hc hF0
        repeat' first|refine st ?_|refine⟨λ_=>?_,λ_=>?_⟩|fail
        intro i n ⟨g1, g2, g3, g4⟩
        cases hx : ds[i]? with
        | some c =>
          obtain ⟨hlt, he⟩ := A7.1 hx
          have hg : ds.getD ((i : Int)).toNat 0 = c := by simp [E8, hx]
          have h256 : c.toNat < 256 := UInt8.toNat_lt c
          rw [P7 hlt, he, W0] at g4
          clear he
          by_cases hbad : c.toNat < 48 ∨ 57 < c.toNat
          · rw [if_pos hbad] at g4
            subst g4
            dsimp only at hq
            subst hq
            repeat' first|(rw [hg])|refine st ?_|refine⟨λ_=>?_,λ_=>?_⟩|fail
            all_goals first | rfl | (exfalso; omega)
          · rw [if_neg hbad] at g4
            repeat' first|(rw [hg])|refine st ?_|refine⟨λ_=>?_,λ_=>?_⟩|fail
            all_goals exact ⟨i + 1, min (10 * n + ((c.toNat : Int) - 48)) 1125899906842625, by rw [u8w (by omega) (by omega), A6o (x := (c.toNat : Int) - 48) (by omega) (by omega), A6o (by omega) (by omega)]; rfl, rfl, rfl, by omega, by omega, by omega, by omega, g4⟩
        | none =>
          have hge := C8.1 hx
          rw [A0V hge, W0] at g4
          subst g4
          dsimp only at hq
          by_cases hbig : 1125899906842624 < n
          · rw [if_pos hbig] at hq
            subst hq
            repeat' first|refine st ?_|refine⟨λ_=>?_,λ_=>?_⟩|fail
            all_goals rfl
          · rw [if_neg hbig] at hq
            subst hq
            repeat' first|refine st ?_|refine⟨λ_=>?_,λ_=>?_⟩|fail
            all_goals rfl
      · repeat' first|(rw [hg0])|refine st ?_|refine⟨λ_=>?_,λ_=>?_⟩|fail
        refine I2 A4 B6x B6k (fun (i : Nat) (n : Int) => [.d (eI n), .d (eI i)]) (fun i n => [.cells [.d (eI 0), .d (eI 0), .d (.str [])]]) (fun i n => i ≤ ds.length ∧ 0 ≤ n ∧ n ≤ 1125899906842625 ∧ W0 n (ds.drop i) = F0) (fun i n => ds.length - i) 0 0 rfl rfl rfl rfl (fun _ _ _ => ⟨rfl, rfl⟩) rfl ⟨by omega, by omega, by omega, hF0.symm⟩ ?_
        clear hg0 hc hF0
        repeat' first|refine st ?_|refine⟨λ_=>?_,λ_=>?_⟩|fail
        intro i n ⟨g1, g2, g3, g4⟩
        cases hx : ds[i]? with
        | some c =>
          obtain ⟨hlt, he⟩ := A7.1 hx
          have hg : ds.getD ((i : Int)).toNat 0 = c := by simp [E8, hx]
          have h256 : c.toNat < 256 := UInt8.toNat_lt c
          rw [P7 hlt, he, W0] at g4
          clear he
          by_cases hbad : c.toNat < 48 ∨ 57 < c.toNat
          · rw [if_pos hbad] at g4
            subst g4
            dsimp only at hq
            subst hq
            repeat' first|(rw [hg])|refine st ?_|refine⟨λ_=>?_,λ_=>?_⟩|fail
            all_goals first | rfl | (exfalso; omega)
          · rw [if_neg hbad] at g4
            repeat' first|(rw [hg])|refine st ?_|refine⟨λ_=>?_,λ_=>?_⟩|fail
            all_goals exact ⟨i + 1, min (10 * n + ((c.toNat : Int) - 48)) 1125899906842625, by rw [u8w (by omega) (by omega), A6o (x := (c.toNat : Int) - 48) (by omega) (by omega), A6o (by omega) (by omega)]; rfl, rfl, rfl, by omega, by omega, by omega, by omega, g4⟩
        | none =>
          have hge := C8.1 hx
          rw [A0V hge, W0] at g4
          subst g4
          dsimp only at hq
          by_cases hbig : 1125899906842624 < n
          · rw [if_pos hbig] at hq
            subst hq
            repeat' first|refine st ?_|refine⟨λ_=>?_,λ_=>?_⟩|fail
            all_goals rfl
          · rw [if_neg hbig] at hq
            subst hq
            cases g with
            | true =>
              repeat' first|refine st ?_|refine⟨λ_=>?_,λ_=>?_⟩|fail
              all_goals rfl
            | false =>
              repeat' first|refine st ?_|refine⟨λ_=>?_,λ_=>?_⟩|fail
              all_goals rfl
def e9(s:List UInt8):Vl×Int:=
 if s=[78,85,76,76] then (F4,0) else if s=[84,82,85,69] then (z7 true,0) else if s=[70,65,76,83,69] then (z7 false,0)
 else if M9 39 s=true then A0e s.tail else A0M s
theorem C4V(s:List UInt8)(hs:s.length<=1048576):Pure Tryz.prog B7V [.d (.str s)] (.tup [eV (e9 s).1,.d (eI (e9 s).2)]):=by
 have hN:=A4a
 have hT:=C4T (decide (s=[84,82,85,69]))
 have hP:=C4P s (by omega) 39
 have hI:=C4Y s hs
 obtain⟨q,hq⟩:∃q,q=e9 s:=⟨_,rfl⟩
 rw[<- hq]
 unfold e9 at hq
 by_cases h1:s=[78,85,76,76]
 ·rw[if_pos h1] at hq
  subst hq
  refine A5v.go A4 rfl ?_
  repeat' first|refine st ?_|refine⟨λ_=>?_,λ_=>?_⟩|fail
  all_goals rfl
 rw[if_neg h1] at hq
 by_cases h2:s=[84,82,85,69]
 ·rw[if_pos h2] at hq
  subst hq
  rw[decide_eq_true h2] at hT
  have hT:Bi.Pure Tryz.prog A5N [.d (.bool (decide (s=[84,82,85,69])))] (eV (z7 true)):=by rw[decide_eq_true h2];exact hT
  refine A5v.go A4 rfl ?_
  repeat' first|refine st ?_|refine⟨λ_=>?_,λ_=>?_⟩|fail
  all_goals rfl
 rw[if_neg h2] at hq
 by_cases h3:s=[70,65,76,83,69]
 ·rw[if_pos h3] at hq
  subst hq
  rw[decide_eq_false h2] at hT
  have hT:Bi.Pure Tryz.prog A5N [.d (.bool (decide (s=[84,82,85,69])))] (eV (z7 false)):=by rw[decide_eq_false h2];exact hT
  refine A5v.go A4 rfl ?_
  repeat' first|refine st ?_|refine⟨λ_=>?_,λ_=>?_⟩|fail
  all_goals rfl
 rw[if_neg h3] at hq
 cases hb:M9 39 s with
 |true=>
  rw[hb] at hP hq
  rw[if_pos rfl] at hq
  cases s with
  |nil=>cases hb
  |cons c r=>
   have hl:(c::r).length=r.length+1:=rfl
   simp only[H7] at hs
   have hX:=C4Z r (by omega)
   have hp:List.take (((c::r).length:Int).toNat-(1:Int).toNat) (List.drop (1:Int).toNat (c::r))=r:=by
    rw[hl]
    show List.take (r.length+1-1) r=r
    simp
   have hq:q=A0e r:=hq
   rw[<- hq] at hX
   clear hq hb hI
   refine A5v.go A4 rfl ?_
   repeat' first|(rw[hp])|refine st ?_|refine⟨λ_=>?_,λ_=>?_⟩|fail
   all_goals rfl
 |false=>
  rw[hb] at hP hq
  rw[if_neg (by decide)] at hq
  rw[<- hq] at hI
  clear hq
  refine A5v.go A4 rfl ?_
  repeat' first|refine st ?_|refine⟨λ_=>?_,λ_=>?_⟩|fail
  all_goals rfl
def N8(s:List UInt8):Int×Bool:=
 if s=[]\/(s.getD 0 0=48/\1<s.length) then (0,false) else match W0 0 s with
  |none=>(0,false)
  |some n=>(n,true)
theorem A7s(ds:List UInt8)(hdl:ds.length<=1048576):Pure Tryz.prog A9Z [.d (.str ds)] (.tup [.d (eI (N8 ds).1),.d (.bool (N8 ds).2)]):=by
 obtain⟨q,hq⟩:∃q,q=N8 ds:=⟨_,rfl⟩
 rw[<- hq]
 unfold N8 at hq
 by_cases hn:ds=[]
 ·rw[if_pos (.inl hn)] at hq
  subst hq
  refine A9K.go A4 rfl ?_
  repeat' first|refine st ?_|refine⟨λ_=>?_,λ_=>?_⟩|fail
  all_goals rfl
 have hDl:0<ds.length:=List.length_pos_iff.2 hn
 obtain⟨c0,hc0⟩:∃c,c=ds.getD 0 0:=⟨_,rfl⟩
 have hg0:ds.getD ((0:Int)).toNat 0=c0:=hc0.symm
 rw[<- hc0] at hq
 by_cases h0:c0=48/\1<ds.length
 ·rw[if_pos (.inr h0)] at hq
  subst hq
  obtain⟨rfl,h0⟩:=h0
  refine A9K.go A4 rfl ?_
  repeat' first|(rw[hg0])|refine st ?_|refine⟨λ_=>?_,λ_=>?_⟩|fail
  all_goals first|rfl|(exfalso;simp_all;done)
 rw[if_neg (λh=>h.elim hn h0)] at hq
 have hc:¬((c0.toNat:Int)=48)\/((c0.toNat:Int)=48/\ds.length=1):=by
  by_cases e:c0.toNat=48
  ·right
   have:c0=48:=A2O.1 (by simpa using e)
   have:¬1<ds.length:=λh=>h0 ⟨this,h⟩
   exact⟨by omega,by omega⟩
  ·left;omega
 obtain⟨F0,hF0⟩:∃z,z=W0 0 ds:=⟨_,rfl⟩
 rw[<- hF0] at hq
 clear h0 hc0
 refine A9K.go A4 rfl ?_
 rcases hc with hc|⟨hc,hc2⟩
 all_goals (
  repeat' first|(rw[hg0])|refine st ?_|refine⟨λ_=>?_,λ_=>?_⟩|fail
  refine I2 A4 C8q C7i (λ(i:Nat) (n:Int)=>[.d (eI n),.d (eI i)]) (λi n=>[]) (λi n=>i<=ds.length/\0<=n/\n<=1125899906842625/\W0 n (ds.drop i)=F0) (λi n=>ds.length-i) 0 0 rfl rfl rfl rfl (λ_ _ _=>⟨rfl,rfl⟩) rfl ⟨by omega,by omega,by omega,hF0.symm⟩ ?_
  clear hg0 hF0
  repeat' first|refine st ?_|refine⟨λ_=>?_,λ_=>?_⟩|fail
  intro i n ⟨g1,g2,g3,g4⟩
  cases hx:ds[i]? with
  |some c=>
   obtain⟨hlt,he⟩:=A7.1 hx
   have hg:ds.getD ((i:Int)).toNat 0=c:=by simp[E8,hx]
   have h256:c.toNat<256:=UInt8.toNat_lt c
   rw[P7 hlt,he,W0] at g4
   clear he
   by_cases hbad:c.toNat<48\/57<c.toNat
   ·rw[if_pos hbad] at g4
    subst g4
    dsimp only at hq
    subst hq
    repeat' first|(rw[hg])|refine st ?_|refine⟨λ_=>?_,λ_=>?_⟩|fail
    all_goals first|rfl|(exfalso;omega)
   ·rw[if_neg hbad] at g4
    have e1:IntKind.u8.wrap ((c.toNat:Int)-48)=(c.toNat:Int)-48:=u8w (by omega) (by omega)
    have e2:IntKind.i64.wrap ((c.toNat:Int)-48)=(c.toNat:Int)-48:=A6o (by omega) (by omega)
    by_cases hm:1125899906842624<n*10+((c.toNat:Int)-48)
    ·rw[show min (10*n+((c.toNat:Int)-48)) 1125899906842625=1125899906842625 by omega] at g4
     repeat' first|(rw[hg])|(rw[e1])|(rw[e2])|refine st ?_|refine⟨λ_=>?_,λ_=>?_⟩|fail
     all_goals exact⟨i+1,1125899906842625,rfl,rfl,rfl,by omega,by omega,by omega,by omega,g4⟩
    ·rw[show min (10*n+((c.toNat:Int)-48)) 1125899906842625=n*10+((c.toNat:Int)-48) by omega] at g4
     repeat' first|(rw[hg])|(rw[e1])|(rw[e2])|refine st ?_|refine⟨λ_=>?_,λ_=>?_⟩|fail
     all_goals exact⟨i+1,n*10+((c.toNat:Int)-48),rfl,rfl,rfl,by omega,by omega,by omega,by omega,g4⟩
  |none=>
   have hge:=C8.1 hx
   rw[A0V hge,W0] at g4
   subst g4
   dsimp only at hq
   subst hq
   repeat' first|refine st ?_|refine⟨λ_=>?_,λ_=>?_⟩|fail
   all_goals rfl)
theorem A9g:∀(s t:List UInt8),O0 s=some t->W2 t=W2 s
 |[],t,h=>by simp[O0] at h;subst h;rfl
 |[c],t,h=>by
  unfold O0 at h
  split at h
  ·cases h
  ·cases h;rfl
 |c::d::s,t,h=>by
  rw[O0] at h
  split at h
  ·rename_i hc
   split at h
   ·rename_i hd
    obtain⟨u,hu,rfl⟩:=F7.1 h
    have ih:=A9g s u hu
    subst hc;subst hd
    unfold W2 at ih ⊢
    simp[i6,ih,prC]
   ·cases h
  ·obtain⟨u,hu,rfl⟩:=F7.1 h
   have ih:=A9g (d::s) u hu
   unfold W2 at ih ⊢
   rw[i6,i6,ih]
def Y8(s:List UInt8):List UInt8×Bool:=
 match s with
 |c::r=>if c=39/\T5 39 r=true then (match O0 r.dropLast with
  |none=>([],false)
  |some t=>(t,W2 t)) else ([],false)
 |[]=>([],false)
theorem D7L{c:UInt8}(hc:¬c=39):∀r,O0 (c::r)=(O0 r).map (c::·)
 |[]=>by unfold O0;rw[if_neg hc];rfl
 |d::r=>by rw[O0,if_neg hc]
theorem C0Z{x:List UInt8}{j:Nat}{c:UInt8}(h:x[j]?=some c):List.take (j+1-j) (List.drop j x)=[c]:=by
 obtain⟨hlt,he⟩:=A7.1 h
 rw[show j+1-j=1 by omega,P7 hlt,he];rfl
theorem C4v(s:List UInt8)(hs:s.length<=1048576):Pure Tryz.prog B00 [.d (.str s)] (.tup [.d (.str (Y8 s).1),.d (.bool (Y8 s).2)]):=by
 obtain⟨q,hq⟩:∃q,q=Y8 s:=⟨_,rfl⟩
 rw[<- hq]
 cases s with
 |nil=>
  have hl:([]:List UInt8).length=0:=rfl
  have hq:q=([],false):=hq
  subst hq
  refine A7w.go A4 rfl ?_
  repeat' first|refine st ?_|refine⟨λ_=>?_,λ_=>?_⟩|fail
  all_goals first|rfl|(exfalso;simp_all;done)
 |cons c r=>
  rcases B2e r with rfl|⟨x,l,rfl⟩
  ·have hl:([c]:List UInt8).length=1:=rfl
   have hq:q=([],false):=by rw[hq,Y8];simp[T5]
   subst hq
   refine A7w.go A4 rfl ?_
   repeat' first|refine st ?_|refine⟨λ_=>?_,λ_=>?_⟩|fail
   all_goals first|rfl|(exfalso;simp_all;done)
  ·have hl:(c::(x++[l])).length=x.length+2:=by simp
   have hg0:(c::(x++[l])).getD ((0:Int)).toNat 0=c:=rfl
   have hg1:(c::(x++[l])).getD (((c::(x++[l])).length:Int)-1).toNat 0=l:=by
    rw[hl,show(((x.length+2:Nat):Int)-1).toNat=x.length+1 by omega]
    simp[E8]
   have hp:List.take ((((c::(x++[l])).length:Int)-1).toNat-((1:Int)).toNat) (List.drop ((1:Int)).toNat (c::(x++[l])))=x:=by
    rw[hl,show(((x.length+2:Nat):Int)-1).toNat-((1:Int)).toNat=x.length by omega]
    show List.take x.length (x++[l])=x
    simp
   unfold Y8 at hq
   dsimp only at hq
   rw[C02,List.dropLast_concat] at hq
   rw[hl] at hs
   obtain⟨z,hz⟩:∃z,z=c::(x++[l]):=⟨_,rfl⟩
   rw[<- hz] at hl hg0 hg1 hp ⊢
   clear hz
   by_cases h0:c=39/\l=39
   rotate_left
   ·have hq:q=([],false):=by rw[hq,if_neg (λh=>h0 ⟨h.1,of_decide_eq_true h.2⟩)]
    subst hq
    have h0':¬(c.toNat:Int)=39\/¬(l.toNat:Int)=39:=by
     by_cases e:(c.toNat:Int)=39
     ·right
      intro e2
      exact h0 ⟨A2O.1 (by simpa using(by omega:c.toNat=39)),A2O.1 (by simpa using(by omega:l.toNat=39))⟩
     ·exact .inl e
    clear h0
    refine A7w.go A4 rfl ?_
    repeat' first|(rw[hg0])|(rw[hg1])|refine st ?_|refine⟨λ_=>?_,λ_=>?_⟩|fail
    all_goals first|rfl|(exfalso;omega)
   ·rw[if_pos ⟨h0.1,decide_eq_true h0.2⟩] at hq
    obtain⟨rfl,rfl⟩:=h0
    have h39:((39:UInt8).toNat:Int)=39:=rfl
    obtain⟨F0,hF0⟩:∃f,f=O0 x:=⟨_,rfl⟩
    rw[<- hF0] at hq
    refine A7w.go A4 rfl ?_
    repeat' first|(rw[hg0])|(rw[hg1])|(rw[hp])|refine st ?_|refine⟨λ_=>?_,λ_=>?_⟩|fail
    refine I2 A4 C8r C7j (λ(i:Nat) (o:List UInt8)=>[.d (.str o),.d (eI i)]) (λi o=>[]) (λi o=>i<=x.length/\o.length<=i/\(O0 (x.drop i)).map (o++·)=F0) (λi o=>x.length-i) 0 [] rfl rfl rfl rfl (λ_ _ _=>⟨rfl,rfl⟩) rfl ⟨R1 _,G8 _,by rw[hF0,List.drop_zero];cases O0 x<;>rfl⟩ ?_
    clear hg0 hg1 hp hF0
    repeat' first|refine st ?_|refine⟨λ_=>?_,λ_=>?_⟩|fail
    intro i o ⟨g1,g2,g4⟩
    cases hx:x[i]? with
    |some c=>
     obtain⟨hlt,he⟩:=A7.1 hx
     have hg:x.getD ((i:Int)).toNat 0=c:=by simp[E8,hx]
     rw[P7 hlt,he] at g4
     clear he
     by_cases hc:c=39
     ·subst hc
      cases hy:x[i+1]? with
      |none=>
       have hge:=C8.1 hy
       rw[A0V hge] at g4
       have g4:none=F0:=g4
       subst g4
       dsimp only at hq
       subst hq
       repeat' first|(rw[hg])|refine st ?_|refine⟨λ_=>?_,λ_=>?_⟩|fail
       all_goals first|rfl|(exfalso;omega)
      |some d=>
       obtain⟨hlt2,he2⟩:=A7.1 hy
       have hg2:x.getD ((i:Int)+1).toNat 0=d:=by rw[show((i:Int)+1).toNat=i+1 by omega];simp[E8,hy]
       have hp2:List.take ((((i:Int)+1)+1).toNat-((i:Int)+1).toNat) (List.drop ((i:Int)+1).toNat x)=[d]:=C0Z hy
       have hdl:([d]:List UInt8).length=1:=rfl
       rw[P7 hlt2,he2] at g4
       clear he2
       by_cases hd:d=39
       ·subst hd
        rw[O0,if_pos rfl,if_pos rfl] at g4
        repeat' first|(rw[hg])|(rw[hg2])|(rw[hp2])|refine st ?_|refine⟨λ_=>?_,λ_=>?_⟩|fail
        all_goals exact⟨i+2,o++[39],by first|rfl|(congr 3;omega),rfl,rfl,by omega,by omega,by simp only[J0,H7,P9];omega,by rw[<- g4,Option.map_map];congr 1;funext t;simp⟩
       ·rw[O0,if_pos rfl,if_neg hd] at g4
        have g4:none=F0:=g4
        subst g4
        dsimp only at hq
        subst hq
        have hd2:¬(d.toNat:Int)=39:=λe=>hd (A2O.1 (by simpa using(by omega:d.toNat=39)))
        repeat' first|(rw[hg])|(rw[hg2])|refine st ?_|refine⟨λ_=>?_,λ_=>?_⟩|fail
        all_goals first|rfl|(exfalso;omega)
     ·rw[D7L hc] at g4
      have hc2:¬(c.toNat:Int)=39:=λe=>hc (A2O.1 (by simpa using(by omega:c.toNat=39)))
      have hp2:List.take (((i:Int)+1).toNat-((i:Int)).toNat) (List.drop ((i:Int)).toNat x)=[c]:=C0Z hx
      have hdl:([c]:List UInt8).length=1:=rfl
      repeat' first|(rw[hg])|(rw[hp2])|refine st ?_|refine⟨λ_=>?_,λ_=>?_⟩|fail
      all_goals exact⟨i+1,o++[c],rfl,rfl,rfl,by omega,by omega,by simp only[J0,H7,P9];omega,by rw[<- g4,Option.map_map];congr 1;funext t;simp⟩
    |none=>
     have hge:=C8.1 hx
     rw[A0V hge] at g4
     have g4:some (o++[])=F0:=g4
     rw[u7] at g4
     subst g4
     dsimp only at hq
     subst hq
     have hP:=B30 o (by omega)
     repeat' first|refine st ?_|refine⟨λ_=>?_,λ_=>?_⟩|fail
     all_goals rfl
theorem A6H:∀(s:List UInt8)(n m:Int),0<=n->W0 n s=some m->0<=m/\(m=0->n=0/\∀c∈s,c=48)
 |[],n,m,h,e=>by
  simp only[W0,A11] at e
  subst e
  exact⟨h,λe=>⟨e,by simp⟩⟩
 |c::s,n,m,h,e=>by
  rw[W0] at e
  split at e
  ·cases e
  ·rename_i hc
   obtain⟨h1,h2⟩:=A6H s _ m (by omega) e
   refine⟨h1,λhm=>?_⟩
   obtain⟨h3,h4⟩:=h2 hm
   have h5:c.toNat=48:=by omega
   refine⟨by omega,λd hd=>?_⟩
   rcases I6.1 hd with rfl|hd
   ·exact A2O.1 (by simpa using h5)
   ·exact h4 d hd
theorem D5G (r : List UInt8) : N8 (39 :: r) = (0, false) := by
  unfold N8
  rw [if_neg (by rintro (h | h); · cases h
                 exact absurd h.1 (by show ¬ (39 : UInt8) = 48; decide))]
  rw [W0, if_pos (by decide)]
theorem C29(r:List UInt8):Y8 (39::r)=if T5 39 r=true then (match O0 r.dropLast with
  |none=>([],false)
  |some t=>(t,W2 t)) else ([],false):=by
 rw[Y8]
 by_cases hb:T5 39 r=true
 ·rw[if_pos ⟨rfl,hb⟩,if_pos hb]<;>rfl
 ·rw[if_neg (λh=>hb h.2),if_neg hb]
theorem D6B(r:List UInt8):((Y8 (39::r)).2=false->A0e r=(F4,1))/\((Y8 (39::r)).2=true->A0e r=if 200<(Y8 (39::r)).1.length then (F4,5) else (⟨2,0,(Y8 (39::r)).1⟩,0))/\((Y8 (39::r)).2=true->W2 (Y8 (39::r)).1=true):=by
 rw[C29]
 unfold A0e
 by_cases hb:T5 39 r=true
 ·rw[if_pos hb]
  cases hu:O0 r.dropLast with
  |none=>simp
  |some t=>
   have hp:=A9g _ _ hu
   cases hq:W2 t with
   |false=>rw[hq] at hp;simp[<- hp,hb,hq]
   |true=>rw[hq] at hp;simp[<- hp,hb,hq]
 ·rw[if_neg hb]
  simp[hb]
theorem B2p:∀(s t:List UInt8),O0 s=some t->t.length<=s.length
 |[],t,h=>by simp[O0] at h;subst h;exact G8 _
 |[c],t,h=>by
  unfold O0 at h
  split at h
  ·cases h
  ·cases h;exact G8 _
 |c::d::s,t,h=>by
  rw[O0] at h
  split at h
  ·split at h
   ·obtain⟨u,hu,rfl⟩:=F7.1 h
    have ih:=B2p s u hu
    simp only[H7];omega
   ·cases h
  ·obtain⟨u,hu,rfl⟩:=F7.1 h
   have ih:=B2p (d::s) u hu
   simp only[H7] at ih ⊢;omega
theorem D7K(r:List UInt8):(Y8 (39::r)).1.length<=r.length:=by
 rw[C29]
 split
 ·cases hu:O0 r.dropLast with
  |none=>simp
  |some t=>
   have:=B2p _ _ hu
   rw[List.length_dropLast] at this
   show t.length<=_
   omega
 ·simp
theorem C1c(s d:List UInt8)(g:Bool)(hg:g=M9 45 s)(hd:d=if M9 45 s then s.tail else s) :
  A0M s=if (N8 d).2=false\/(g=true/\(N8 d).1=0) then (F4,1) else if 1125899906842624<(N8 d).1 then (F4,6) else (⟨1,if g then 0-(N8 d).1 else (N8 d).1,[]⟩,0):=by
 unfold A0M
 rw[<- hd,<- hg]
 clear hd hg
 by_cases h0:d=[]
 ·subst h0;simp[N8]
 by_cases h1:d.getD 0 0=48/\1<d.length
 ·have e:N8 d=(0,false):=by unfold N8;rw[if_pos (.inr h1)]
  rw[e,if_pos (.inr ⟨h1.1,.inr h1.2⟩)];simp
 have e:N8 d=match W0 0 d with
  |none=>(0,false)
  |some n=>(n,true):=by unfold N8;rw[if_neg (λh=>h.elim h0 h1)]<;>rfl
 rw[e]
 clear e
 cases hF:W0 0 d with
 |none=>simp
 |some n=>
  obtain⟨k1,k2⟩:=A6H d 0 n (Int.le_refl _) hF
  by_cases h2:g=true/\n=0
  ·have h48:d.getD 0 0=48:=by
    cases d with
    |nil=>exact absurd rfl h0
    |cons c r=>exact(k2 h2.2).2 c (by simp)
   rw[if_pos (.inr ⟨h48,.inl h2.1⟩)]
   simp[h2.1,h2.2]
  ·rw[if_neg,if_neg (λh=>h.elim (by simp) h2)]
   rintro(h|⟨h3,h4|h4⟩)
   ·exact h0 h
   ·apply h2
    refine⟨h4,?_⟩
    cases d with
    |nil=>exact absurd rfl h0
    |cons c r=>
     have hr:r=[]:=by
      cases r with
      |nil=>rfl
      |cons x y=>exact absurd ⟨h3,by simp⟩ h1
     subst hr
     have hc:c=48:=h3
     subst hc
     have:W0 0 [48]=some 0:=by decide
     rw[this] at hF
     exact(A1z hF).symm
   ·exact h1 ⟨h3,h4⟩
theorem C4s(s:List UInt8)(hs:s.length<=1048576):Pure Tryz.prog B6C [.d (.str s)] (.tup [eV (e9 s).1,.d (eI (e9 s).2)]):=by
 have hN:=A0n
 have hT:=A7r true
 have hF:=A7r false
 have hU:=C4v s hs
 obtain⟨q,hq⟩:∃q,q=e9 s:=⟨_,rfl⟩
 rw[<- hq]
 unfold e9 at hq
 by_cases h1:s=[78,85,76,76]
 ·rw[if_pos h1] at hq
  subst hq
  refine u6.go A4 rfl ?_
  repeat' first|refine st ?_|refine⟨λ_=>?_,λ_=>?_⟩|fail
  all_goals rfl
 rw[if_neg h1] at hq
 by_cases h2:s=[84,82,85,69]
 ·rw[if_pos h2] at hq
  subst hq
  refine u6.go A4 rfl ?_
  repeat' first|refine st ?_|refine⟨λ_=>?_,λ_=>?_⟩|fail
  all_goals rfl
 rw[if_neg h2] at hq
 by_cases h3:s=[70,65,76,83,69]
 ·rw[if_pos h3] at hq
  subst hq
  refine u6.go A4 rfl ?_
  repeat' first|refine st ?_|refine⟨λ_=>?_,λ_=>?_⟩|fail
  all_goals rfl
 rw[if_neg h3] at hq
 cases hb:M9 39 s with
 |true=>
  rw[hb,if_pos rfl] at hq
  cases s with
  |nil=>cases hb
  |cons c r=>
   have hc:c=39:=by simpa[M9] using hb
   subst hc
   obtain⟨p1,p2,p3⟩:=D6B r
   have hR:=A7s (39::r) hs
   rw[D5G] at hR
   have hq:q=A0e r:=hq
   have hg0:(39::r).getD ((0:Int)).toNat 0=(39:UInt8):=rfl
   have h39:((39:UInt8).toNat:Int)=39:=rfl
   have hul:(Y8 (39::r)).1.length<=4611686018427387904:=by
    have:=D7K r
    simp only[H7] at hs
    omega
   have hX:=B31 (Y8 (39::r)).1 hul
   obtain⟨⟨t,b⟩,hu⟩:∃u,u=Y8 (39::r):=⟨_,rfl⟩
   rw[<- hu] at hU p1 p2 p3 hX hul
   dsimp only at hU p1 p2 p3 hX hul
   clear hu
   cases b with
   |false=>
    rw[p1 rfl] at hq
    subst hq
    refine u6.go A4 rfl ?_
    repeat' first|(rw[hg0])|refine st ?_|refine⟨λ_=>?_,λ_=>?_⟩|fail
    all_goals first|rfl|(exfalso;simp_all;done)
   |true=>
    have hv:A55 t=if 200<t.length then F4 else ⟨2,0,t⟩:=by
     unfold A55 z8
     have:K7 ⟨2,0,t⟩=decide (t.length<=200):=by unfold K7;simp[p3 rfl]
     rw[this]
     by_cases h:200<t.length
     ·rw[if_pos h];simp[show ¬t.length<=200 by omega]
     ·rw[if_neg h];simp[show t.length<=200 by omega]
    rw[p2 rfl] at hq
    rw[hv] at hX
    by_cases h:200<t.length
    ·rw[if_pos h] at hq
     subst hq
     refine u6.go A4 rfl ?_
     repeat' first|refine st ?_|refine⟨λ_=>?_,λ_=>?_⟩|fail
     all_goals first|rfl|(exfalso;simp_all;done)
    ·rw[if_neg h] at hq hX
     subst hq
     refine u6.go A4 rfl ?_
     repeat' first|refine st ?_|refine⟨λ_=>?_,λ_=>?_⟩|fail
     all_goals first|rfl|(exfalso;simp_all;done)
 |false=>
  rw[hb,if_neg (by decide)] at hq
  have hu:Y8 s=([],false):=by
   cases s with
   |nil=>rfl
   |cons c r=>
    have hc:¬c=39:=by simpa[M9] using hb
    rw[Y8,if_neg (λh=>hc h.1)]
  rw[hu] at hU
  dsimp only at hU
  cases s with
  |nil=>
   have hR:=A7s [] (by simp)
   have hq:q=(F4,1):=hq
   subst hq
   refine u6.go A4 rfl ?_
   repeat' first|refine st ?_|refine⟨λ_=>?_,λ_=>?_⟩|fail
   all_goals first|rfl|(exfalso;simp_all;done)
  |cons c r=>
   clear hb
   by_cases hc:c=45
   ·subst hc
    have hlr:r.length<=1048576:=by simp only[H7] at hs;omega
    have hR:=A7s r hlr
    have hq:q=A0M (45::r):=hq
    rw[C1c (45::r) r true rfl rfl] at hq
    have hnn:(N8 r).2=true->0<=(N8 r).1:=by
     unfold N8
     split
     ·intro h;cases h
     ·split
      ·intro h;cases h
      ·rename_i n hF;intro _;exact(A6H r 0 n (by omega) hF).1
    have hl:(45::r).length=r.length+1:=rfl
    have hg0:(45::r).getD ((0:Int)).toNat 0=(45:UInt8):=rfl
    have h45:((45:UInt8).toNat:Int)=45:=rfl
    have hp:List.take (((45::r).length:Int).toNat-(1:Int).toNat) (List.drop (1:Int).toNat (45::r))=r:=by
     rw[hl]
     show List.take (r.length+1-1) r=r
     simp
    have hI:=B2Z (0-(N8 r).1)
    have hv:0<=(N8 r).1->(N8 r).1<=1125899906842624->A7c (0-(N8 r).1)=⟨1,0-(N8 r).1,[]⟩:=λh1 h2=>by
     unfold A7c z8
     have:K7 ⟨1,0-(N8 r).1,[]⟩=true:=by unfold K7;simp;omega
     rw[this,if_pos rfl]
    obtain⟨⟨n,b⟩,hn⟩:∃z,z=N8 r:=⟨_,rfl⟩
    rw[<- hn] at hR hq hnn hI hv
    dsimp only at hR hq hnn hI hv
    clear hn
    cases b with
    |false=>
     rw[if_pos (.inl rfl)] at hq
     subst hq
     refine u6.go A4 rfl ?_
     repeat' first|(rw[hg0])|(rw[hp])|refine st ?_|refine⟨λ_=>?_,λ_=>?_⟩|fail
     all_goals first|rfl|(exfalso;simp_all;done)
    |true=>
     have h0:=hnn rfl
     by_cases h00:n=0
     ·subst h00
      rw[if_pos (.inr ⟨rfl,rfl⟩)] at hq
      subst hq
      refine u6.go A4 rfl ?_
      repeat' first|(rw[hg0])|(rw[hp])|refine st ?_|refine⟨λ_=>?_,λ_=>?_⟩|fail
      all_goals first|rfl|(exfalso;simp_all;done)
     ·rw[if_neg (λh=>h.elim (by simp) (λh=>h00 h.2))] at hq
      by_cases hbig:1125899906842624<n
      ·rw[if_pos hbig] at hq
       subst hq
       refine u6.go A4 rfl ?_
       repeat' first|(rw[hg0])|(rw[hp])|refine st ?_|refine⟨λ_=>?_,λ_=>?_⟩|fail
       all_goals first|rfl|(exfalso;simp_all;done)
      ·rw[if_neg hbig,if_pos rfl] at hq
       rw[hv h0 (by omega)] at hI
       subst hq
       refine u6.go A4 rfl ?_
       repeat' first|(rw[hg0])|(rw[hp])|refine st ?_|refine⟨λ_=>?_,λ_=>?_⟩|fail
       all_goals first|rfl|(exfalso;simp_all;done)
   ·have hR:=A7s (c::r) hs
    have h45:M9 45 (c::r)=false:=by simpa[M9] using hc
    have hq:q=A0M (c::r):=hq
    rw[C1c (c::r) (c::r) false h45.symm (by rw[h45,if_neg (by decide)])] at hq
    have hnn:(N8 (c::r)).2=true->0<=(N8 (c::r)).1:=by
     unfold N8
     split
     ·intro h;cases h
     ·split
      ·intro h;cases h
      ·rename_i n hF;intro _;exact(A6H _ 0 n (by omega) hF).1
    have hg0:(c::r).getD ((0:Int)).toNat 0=c:=rfl
    have hc2:¬(c.toNat:Int)=45:=λe=>hc (A2O.1 (by simpa using(by omega:c.toNat=45)))
    have hI:=B2Z (N8 (c::r)).1
    have hv:0<=(N8 (c::r)).1->(N8 (c::r)).1<=1125899906842624->A7c (N8 (c::r)).1=⟨1,(N8 (c::r)).1,[]⟩:=λh1 h2=>by
     unfold A7c z8
     have:K7 ⟨1,(N8 (c::r)).1,[]⟩=true:=by unfold K7;simp;omega
     rw[this,if_pos rfl]
    obtain⟨⟨n,b⟩,hn⟩:∃z,z=N8 (c::r):=⟨_,rfl⟩
    rw[<- hn] at hR hq hnn hI hv
    dsimp only at hR hq hnn hI hv
    clear hn
    have hl:(c::r).length=r.length+1:=rfl
    obtain⟨s,hss⟩:∃s,s=c::r:=⟨_,rfl⟩
    have hsn:s≠[]:=by rw[hss];simp
    rw[<- hss] at hR h1 h2 h3 hg0 hU hl hs ⊢
    clear hss h45 hc
    cases b with
    |false=>
     rw[if_pos (.inl rfl)] at hq
     subst hq
     refine u6.go A4 rfl ?_
     repeat' first|(rw[hg0])|refine st ?_|refine⟨λ_=>?_,λ_=>?_⟩|fail
     all_goals first|rfl|(exfalso;simp_all;done)
    |true=>
     have h0:=hnn rfl
     rw[if_neg (by simp)] at hq
     by_cases hbig:1125899906842624<n
     ·rw[if_pos hbig] at hq
      subst hq
      refine u6.go A4 rfl ?_
      repeat' first|(rw[hg0])|refine st ?_|refine⟨λ_=>?_,λ_=>?_⟩|fail
      all_goals first|rfl|(exfalso;simp_all;done)
     ·rw[if_neg hbig,if_neg (by decide)] at hq
      rw[hv h0 (by omega)] at hI
      subst hq
      refine u6.go A4 rfl ?_
      repeat' first|(rw[hg0])|refine st ?_|refine⟨λ_=>?_,λ_=>?_⟩|fail
      all_goals first|rfl|(exfalso;simp_all;done)
structure St where
 x:TD
 y:TD
 c:Ch
abbrev St.ds(s:St):List D:=[.str s.x.t.nm,s.x.dc,s.x.dk,s.x.df,s.x.dx,.str s.y.t.nm,s.y.dc,s.y.dk,s.y.df,s.y.dx,eI s.c.k,.str s.c.nm,.str s.c.to,.str s.c.co.nm,eI s.c.co.k,.bool s.c.co.nl,eI s.c.df.k,eI s.c.df.n,.str s.c.df.s]
abbrev St.av(s:St):AV:=.agg [.d (.str s.x.t.nm),.d s.x.dc,.d s.x.dk,.d s.x.df,.d s.x.dx,.d (.str s.y.t.nm),.d s.y.dc,.d s.y.dk,.d s.y.df,.d s.y.dx,.d (eI s.c.k),.d (.str s.c.nm),.d (.str s.c.to),.d (.str s.c.co.nm),.d (eI s.c.co.k),.d (.bool s.c.co.nl),.d (eI s.c.df.k),.d (eI s.c.df.n),.d (.str s.c.df.s)]
def TD.to(x:TD)(c:Ch):TD:=if C7 x.t c=0 then x.evo c else O1
theorem TD.to_ok{x:TD}(h:x.ok){c:Ch}(hc:H6 c):(x.to c).ok:=by
 unfold TD.to
 split
 ·exact TD.evo_ok h hc (by assumption)
 ·exact A1r
theorem C3M(x:TD)(h:x.ok)(c:Ch)(hc:H6 c):Pure Tryz.prog A7X [x.av,c.av] (.tup [(St.mk x (x.to c) c).av,.d (.bool (decide (C7 x.t c=0)))]):=by
 have hA:Bi.Pure Tryz.prog Q9 [x.av,c.av] (.tup [(x.to c).av,.d (eI (C7 x.t c))]):=by
  unfold TD.to
  by_cases hq:C7 x.t c=0
  ·rw[if_pos hq,hq];exact B2I x h c hc hq
  ·rw[if_neg hq];exact B2J x h c hc hq
 obtain⟨y,hy⟩:∃y,y=x.to c:=⟨_,rfl⟩
 rw[<- hy] at hA ⊢
 obtain⟨e,he⟩:∃e,e=C7 x.t c:=⟨_,rfl⟩
 rw[<- he] at hA ⊢
 have hA:Bi.Pure Tryz.prog Q9 [x.av,c.av] (.tup [eT y.t.nm y.dc y.dk y.df y.dx,.d (eI e)]):=hA
 obtain⟨⟨nm,cs,ks,fs,xs⟩,dc,dk,df,dx⟩:=x
 obtain⟨k,cnm,to,⟨cn,ck,cl⟩,⟨vk,vn,vs⟩⟩:=c
 clear he hy
 refine C6l.go A4 rfl ?_
 repeat' first|refine st ?_|refine⟨λ_=>?_,λ_=>?_⟩|fail
 all_goals rfl
def plI(t:Tb)(c:Ch):Int:=if c.k=1 then t.cs.length else D4 c.nm t.cs
theorem B2O(s:St)(h:s.x.ok):Pure Tryz.prog B7E [s.av] (.d (eI (plI s.x.t s.c))):=by
 have hF:=S7 s.x.t.nm s.x.t.cs h.tok.hl s.x.dc s.x.dk s.x.df s.x.dx h.tok.dc s.c.nm
 have hdc:=h.tok.dc
 have hcl:=F3 s.x.t.cs
 have hl:=h.tok.hl
 obtain⟨q,hq⟩:∃q,q=plI s.x.t s.c:=⟨_,rfl⟩
 rw[<- hq]
 unfold plI at hq
 obtain⟨f,hf⟩:∃f,f=D4 s.c.nm s.x.t.cs:=⟨_,rfl⟩
 rw[<- hf] at hF hq
 obtain⟨Cs,hCs⟩:∃z,z=A9 s.x.t.cs:=⟨_,rfl⟩
 rw[<- hCs] at hdc hcl
 clear hf hCs h
 obtain⟨⟨⟨nm,cs,ks,fs,xs⟩,dc,dk,df,dx⟩,y,⟨k,cnm,to,⟨cn,ck,cl⟩,⟨vk,vn,vs⟩⟩⟩:=s
 dsimp only at hq hF hdc hcl hl
 by_cases h1:k=1
 ·rw[if_pos h1] at hq
  subst hq
  refine B3u.go A4 rfl ?_
  repeat' first|refine st ?_|refine⟨λ_=>?_,λ_=>?_⟩|fail
  all_goals first|rfl|(rw[hcl];rfl)|rw[hcl]
 ·rw[if_neg h1] at hq
  subst hq
  refine B3u.go A4 rfl ?_
  repeat' first|refine st ?_|refine⟨λ_=>?_,λ_=>?_⟩|fail
  all_goals rfl
def L2(x:TD):List Ch->List St
 |[]=>[]
 |c::r=>⟨x,x.to c,c⟩::L2 (x.to c) r
def N5(x:TD):List Ch->Bool
 |[]=>true
 |c::r=>decide (C7 x.t c=0)&&N5 (x.to c) r
def Q4(x:TD)(l:List Ch):Bool:=decide (H9 x.t=0)&&N5 x l
theorem A50:∀(l:List Ch)(x:TD),(L2 x l).length=l.length
 |[],_=>rfl
 |c::r,x=>by rw[L2,H7,H7,A50 r]
def S5(l:List St):List (List D):=l.map St.ds
theorem B19(l:List St):(S5 l).length=l.length:=by simp[S5]
theorem B9c{l:List St}{i:Nat}{s:St}(h:l[i]?=some s):(S5 l)[i]?=some s.ds:=by simp[S5,h]
theorem B1a(l:List St):∀e∈S5 l,e.length=19:=by
 intro e he
 obtain⟨x,_,rfl⟩:=D9.1 he
 rfl
def K8(x:TD):List Ch->TD
 |[]=>x
 |c::r=>K8 (x.to c) r
theorem A65:∀(l:List Ch){x:TD},x.ok->(∀c∈l,H6 c)->(K8 x l).ok
 |[],x,h,_=>h
 |c::r,x,h,hc=>A65 r (TD.to_ok h (hc c (by simp))) λd hd=>hc d (by simp[hd])
theorem A66:∀(l:List Ch)(x:TD)(c:Ch),K8 x (l++[c])=(K8 x l).to c
 |[],x,c=>rfl
 |d::r,x,c=>A66 r (x.to d) c
theorem A0P:∀{l:List Ch}{x:TD}{i:Nat}{c:Ch},l[i]?=some c->(L2 x l)[i]?=some ⟨K8 x (l.take i),(K8 x (l.take i)).to c,c⟩
 |[],x,i,c,h=>by simp at h
 |a::r,x,0,c,h=>by simp at h;subst h;rfl
 |a::r,x,i+1,c,h=>by
  rw[l6] at h
  rw[L2,l6,A0P h];rfl
theorem D7p{x:TD}{l:List Ch}{i:Nat}{c:Ch}(h:l[i]?=some c):N5 x (l.drop i)=(decide (C7 x.t c=0)&&N5 (x.to c) (l.drop (i+1))):=by
 obtain⟨hlt,he⟩:=A7.1 h
 rw[P7 hlt,he,N5]
theorem A9e{l:List Ch}{i:Nat}{c:Ch}(h:l[i]?=some c):l.take (i+1)=l.take i++[c]:=by rw[P1,h];rfl
theorem B2P(x:TD)(h:x.ok)(l:List Ch)(hl:l.length<=1048576)(hls:∀c∈l,H6 c)(d:D)(hd:B3 d (I3 l)) :
  Pure Tryz.prog B7F [x.av,.d d] (.tup [.d (if Q4 x l then B5 (S5 (L2 x l)).isEmpty (S5 (L2 x l)) else .nil),.d (.bool (Q4 x l))]):=by
 have hT:=A7u x.t x.dc x.dk x.df x.dx h.tok
 obtain⟨R,hR⟩:∃R,R=(if Q4 x l then B5 (S5 (L2 x l)).isEmpty (S5 (L2 x l)) else .nil):=⟨_,rfl⟩
 obtain⟨b,hb⟩:∃R,R=Q4 x l:=⟨_,rfl⟩
 rw[<- hR,<- hb]
 rw[<- hb] at hR
 unfold Q4 at hb
 have h1:=A1d l
 have hm:=A3J l
 have hg0:=λi c=>@A8k l i c
 obtain⟨es,hes⟩:∃es,es=I3 l:=⟨_,rfl⟩
 rw[<- hes] at h1 hm hd hg0
 by_cases hq:H9 x.t=0
 rotate_left
 ·rw[decide_eq_false hq,A2G] at hb
  subst hb
  rw[if_neg (by decide)] at hR
  subst hR
  obtain⟨q,hqq⟩:∃q,q=H9 x.t:=⟨_,rfl⟩
  rw[<- hqq] at hT hq
  refine B3v.go A4 rfl ?_
  repeat' first|refine st ?_|refine⟨λ_=>?_,λ_=>?_⟩|fail
  all_goals rfl
 ·rw[decide_eq_true hq,Y9] at hb
  rw[hq] at hT
  obtain⟨S,hS⟩:∃S,S=L2 x l:=⟨_,rfl⟩
  rw[<- hS] at hR
  have hSl:S.length=l.length:=by rw[hS];exact A50 l x
  obtain⟨x0,hx0⟩:∃z,z=x:=⟨_,rfl⟩
  have hSg:∀(i:Nat) c,l[i]?=some c->S[i]?=some ⟨K8 x0 (l.take i),(K8 x0 (l.take i)).to c,c⟩:=λi c hc=>by rw[hS,hx0];exact A0P hc
  have hok0:∀i,(K8 x0 (l.take i)).ok:=λi=>by rw[hx0];exact A65 _ h λc hc=>hls c (Z1 hc)
  have hst:K8 x0 (l.take 0)=x:=by rw[hx0];rfl
  clear hx0 hS h
  refine B3v.go A4 rfl ?_
  obtain⟨⟨nm,cs,ks,fs,xs⟩,dc,dk,df,dx⟩:=x
  have hT:Bi.Pure Tryz.prog A7Z [eT nm dc dk df dx] (.d (eI 0)):=hT
  repeat' first|refine st ?_|refine⟨λ_=>?_,λ_=>?_⟩|fail
  refine A00 6 19 rfl rfl ?_
  refine I2 A4 C9f C87 (λ(i:Nat) (w:List (List D)×TD)=>[.arr 1 w.1.length,.d (eI i)]) (λi w=>[.cells [.d (.str w.2.t.nm),.d w.2.dc,.d w.2.dk,.d w.2.df,.d w.2.dx],.arr w.1 19 0 w.1.isEmpty]) (λi w=>i<=l.length/\w.1=S5 (S.take i)/\w.2=K8 x0 (l.take i)/\b=N5 w.2 (l.drop i)) (λi w=>l.length-i) 0 ([],⟨⟨nm,cs,ks,fs,xs⟩,dc,dk,df,dx⟩) rfl rfl rfl rfl (λ_ _ _=>⟨rfl,rfl⟩) rfl ⟨by omega,rfl,hst.symm,hb⟩ ?_
  repeat' first|refine st ?_|refine⟨λ_=>?_,λ_=>?_⟩|fail
  intro i w ⟨g1,g2,g3,g4⟩
  obtain⟨A,y⟩:=w
  dsimp only at g2 g3 g4 ⊢
  have hAl:A.length=i:=by rw[g2,B19,J1];omega
  have hAm:∀e∈A,e.length=19:=by rw[g2];exact B1a _
  cases hx:l[i]? with
  |some c=>
   have hlt:=(A7.1 hx).1
   have hcok:=hls c (B9 hx)
   have hg:=hg0 i c hx
   have hyok:=hok0 i
   have hSi:=hSg i c hx
   rw[<- g3] at hyok hSi
   rw[D7p hx] at g4
   have hN:=C3M y hyok c hcok
   have hs:A++[(St.mk y (y.to c) c).ds]=S5 (S.take (i+1)):=by rw[g2,P1,hSi];simp[S5]
   have hc1:K8 x0 (l.take (i+1))=y.to c:=by rw[A9e hx,A66,<- g3]
   obtain⟨z,hz⟩:∃z,z=y.to c:=⟨_,rfl⟩
   rw[<- hz] at hN hs hc1 g4
   by_cases he:C7 y.t c=0
   ·rw[decide_eq_true he] at hN g4
    rw[Y9] at g4
    obtain⟨ck,cnm,to,⟨cn,cck,cl⟩,⟨vk,vn,vs⟩⟩:=c
    have hN:Bi.Pure Tryz.prog A7X [eT y.t.nm y.dc y.dk y.df y.dx,chD ck cnm to cn cck cl vk vn vs] (.tup [(St.mk y z ⟨ck,cnm,to,⟨cn,cck,cl⟩,⟨vk,vn,vs⟩⟩).av,.d (.bool true)]):=hN
    clear g2 g3 hR hb
    repeat' first|refine st ?_|refine⟨λ_=>?_,λ_=>?_⟩|fail
    exact⟨i+1,(A++[_],z),rfl,rfl,by first|rfl|(simp;done),by omega,by omega,hs,hc1.symm,g4⟩
   ·rw[decide_eq_false he] at hN g4
    rw[A2G] at g4
    subst g4
    rw[if_neg (by decide)] at hR
    subst hR
    obtain⟨ck,cnm,to,⟨cn,cck,cl⟩,⟨vk,vn,vs⟩⟩:=c
    have hN:Bi.Pure Tryz.prog A7X [eT y.t.nm y.dc y.dk y.df y.dx,chD ck cnm to cn cck cl vk vn vs] (.tup [(St.mk y z ⟨ck,cnm,to,⟨cn,cck,cl⟩,⟨vk,vn,vs⟩⟩).av,.d (.bool false)]):=hN
    clear g2 g3
    repeat' first|refine st ?_|refine⟨λ_=>?_,λ_=>?_⟩|fail
    all_goals rfl
  |none=>
   have hge:=C8.1 hx
   rw[A0V hge] at g4
   rw[J5 (by omega)] at g2
   have g4:b=true:=g4
   subst g4
   rw[if_pos rfl,<- g2] at hR
   subst hR
   clear g2 hb
   repeat' first|refine st ?_|refine⟨λ_=>?_,λ_=>?_⟩|fail
   all_goals first|rfl|(cases A<;>rfl)
def Z5(l:List TD):List (List D):=l.map λx=>[.str x.t.nm,x.dc,x.dk,x.df,x.dx]
theorem A8l(l:List TD):(Z5 l).length=l.length:=by simp[Z5]
theorem A6d(l:List TD):∀e∈Z5 l,e.length=5:=by
 intro e he
 obtain⟨x,_,rfl⟩:=D9.1 he
 rfl
theorem B1b{l:List TD}{i:Nat}{x:TD}(h:l[i]?=some x):(Z5 l)[i]?=some [.str x.t.nm,x.dc,x.dk,x.df,x.dx]:=by simp[Z5,h]
def A2z(x:TD)(l:List Ch):List TD:=x.cp::(L2 x l).map λs=>s.y.cp
def A9d(x:TD)(l:List Ch):D:=if Q4 x l then .sl (Z5 (A2z x l)) else .nil
theorem B2h:∀{l:List Ch}{x:TD},H9 x.t=0->N5 x l=true->∀i,i<=l.length->H9 (K8 x (l.take i)).t=0
 |[],x,h,_,i,hi=>by
  have:i=0:=by simpa using hi
  subst this;exact h
 |c::r,x,h,hb,0,hi=>h
 |c::r,x,h,hb,i+1,hi=>by
  rw[N5,L6] at hb
  have he:C7 x.t c=0:=of_decide_eq_true hb.1
  have h2:H9 (x.to c).t=0:=by unfold TD.to;rw[if_pos he];exact V3.2 (A4E he)
  exact B2h (l:=r) (x:=x.to c) h2 hb.2 i (by simpa using hi)
theorem A2y:∀{l:List Ch}{x:TD}{i:Nat}{c:Ch},N5 x l=true->l[i]?=some c->C7 (K8 x (l.take i)).t c=0
 |[],x,i,c,_,h=>by simp at h
 |a::r,x,0,c,hb,h=>by
  rw[N5,L6] at hb
  simp at h;subst h
  exact of_decide_eq_true hb.1
 |a::r,x,i+1,c,hb,h=>by
  rw[N5,L6] at hb
  rw[l6] at h
  exact A2y (l:=r) (x:=x.to a) (i:=i) hb.2 h
theorem C3J(x:TD)(h:x.ok)(l:List Ch)(hl:l.length<=1048576)(hls:∀c∈l,H6 c)(d:D)(hd:B3 d (I3 l)) :
  Pure Tryz.prog B7B [x.av,.d d] (.d (A9d x l)):=by
 have hS:=B2P x h l hl hls d hd
 obtain⟨R,hR⟩:∃R,R=A9d x l:=⟨_,rfl⟩
 rw[<- hR]
 unfold A9d at hR
 cases hb:Q4 x l with
 |false=>
  rw[hb] at hS hR
  rw[if_neg (by decide)] at hS hR
  subst hR
  clear hb hd
  obtain⟨⟨nm,cs,ks,fs,xs⟩,dc,dk,df,dx⟩:=x
  refine B3r.go A4 rfl ?_
  repeat' first|refine st ?_|refine⟨λ_=>?_,λ_=>?_⟩|fail
  all_goals rfl
 |true=>
  rw[hb] at hS hR
  rw[if_pos rfl] at hS hR
  unfold Q4 at hb
  rw[L6] at hb
  have hq:H9 x.t=0:=of_decide_eq_true hb.1
  have hC:=A7m x h (V3.1 hq).fl
  obtain⟨S,hSS⟩:∃S,S=L2 x l:=⟨_,rfl⟩
  have hSl:S.length=l.length:=by rw[hSS];exact A50 l x
  have hSc:∀(i:Nat) s,S[i]?=some s->s.y.ok/\s.y.t.fs.length<=4:=λi s hs=>by
   have hi:=(A7.1 hs).1
   have hc:l[i]?=some (l[i]'(by omega)):=C3 (by omega)
   have h2:=A0P (x:=x) hc
   rw[<- hSS,hs] at h2
   have h3:=A1z h2
   have e:s.y=K8 x (l.take (i+1)):=by rw[h3,A9e hc,A66]
   rw[e]
   exact⟨A65 _ h λc hc=>hls c (Z1 hc),(V3.1 (B2h hq hb.2 (i+1) (by omega))).fl⟩
  unfold A2z at hR
  rw[<- hSS] at hS hR
  have hg0:=λi s=>@B9c S i s
  have h1:=B19 S
  have hm:=B1a S
  have hsd:B3 (B5 (S5 S).isEmpty (S5 S)) (S5 S):=W3 λe=>u9.1 e
  obtain⟨sd,hsd0⟩:∃z,z=B5 (S5 S).isEmpty (S5 S):=⟨_,rfl⟩
  rw[<- hsd0] at hS hsd
  obtain⟨Es,hEs⟩:∃z,z=S5 S:=⟨_,rfl⟩
  rw[<- hEs] at hg0 h1 hm hsd
  obtain⟨y,hy⟩:∃z,z=x.cp:=⟨_,rfl⟩
  rw[<- hy] at hC hR
  clear hd hb hq h hSS hsd0 hEs hy
  obtain⟨⟨nm,cs,ks,fs,xs⟩,dc,dk,df,dx⟩:=x
  have hC:Bi.Pure Tryz.prog A0Z [eT nm dc dk df dx] (eT y.t.nm y.dc y.dk y.df y.dx):=hC
  refine B3r.go A4 rfl ?_
  repeat' first|refine st ?_|refine⟨λ_=>?_,λ_=>?_⟩|fail
  refine I2 A4 C9e C86 (λ(i:Nat) (A:List (List D))=>[.arr 1 A.length,.d (eI i)]) (λi A=>[.cells [.d (.str nm),.d dc,.d dk,.d df,.d dx],.arr A 5 0 false]) (λi A=>i<=S.length/\A=Z5 (y::(S.take i).map λs=>s.y.cp)) (λi A=>S.length-i) 0 [[.str y.t.nm,y.dc,y.dk,y.df,y.dx]] rfl rfl rfl rfl (λ_ _ _=>⟨rfl,rfl⟩) rfl ⟨by omega,rfl⟩ ?_
  repeat' first|refine st ?_|refine⟨λ_=>?_,λ_=>?_⟩|fail
  intro i A ⟨g1,g2⟩
  have hAl:A.length=i+1:=by rw[g2,A8l,H7,C6,J1];omega
  have hAm:∀e∈A,e.length=5:=by rw[g2];exact A6d _
  cases hx:S[i]? with
  |some s=>
   have hlt:=(A7.1 hx).1
   have hg:=hg0 i s hx
   obtain⟨k1,k2⟩:=hSc i s hx
   have hC2:=A7m s.y k1 k2
   have hs:A++[[.str s.y.cp.t.nm,s.y.cp.dc,s.y.cp.dk,s.y.cp.df,s.y.cp.dx]]=Z5 (y::(S.take (i+1)).map λs=>s.y.cp):=by rw[g2,P1,hx];simp[Z5]
   obtain⟨z,hz⟩:∃z,z=s.y.cp:=⟨_,rfl⟩
   rw[<- hz] at hC2 hs
   obtain⟨x1,y1,c1⟩:=s
   have hC2:Bi.Pure Tryz.prog A0Z [eT y1.t.nm y1.dc y1.dk y1.df y1.dx] (eT z.t.nm z.dc z.dk z.df z.dx):=hC2
   clear g2 hR
   unfold St.ds at hg
   dsimp only at hg
   repeat' first|refine st ?_|refine⟨λ_=>?_,λ_=>?_⟩|fail
   exact⟨i+1,A++[[.str z.t.nm,z.dc,z.dk,z.df,z.dx]],rfl,rfl,rfl,by omega,by omega,hs⟩
  |none=>
   have hge:=C8.1 hx
   rw[J5 hge] at g2
   rw[<- g2] at hR
   subst hR
   clear g2
   repeat' first|refine st ?_|refine⟨λ_=>?_,λ_=>?_⟩|fail
   all_goals rfl
def A1m(x:TD)(l:List Ch)(j:Nat):Bool:=(List.range j).all λi=>decide ((x.runsR (l.take i)).2.2=0)
theorem D6I(x:TD)(l:List Ch)(j:Nat):A1m x l (j+1)=(A1m x l j&&decide ((x.runsR (l.take j)).2.2=0)):=by
 unfold A1m
 rw[List.range_succ,List.all_append]
 simp
def Y0(x:TD)(l:List Ch)(j:Nat):List TD:=(List.range j).map λi=>(x.runsR (l.take i)).1
def A6Q(x:TD)(l:List Ch):D:=if A1m x l (l.length+1) then .sl (Z5 (Y0 x l (l.length+1))) else .nil
theorem C1h{x:TD}{l:List Ch}{i j:Nat}(h:(x.runsR (l.take i)).2.2≠0)(hij:i<j):A1m x l j=false:=by
 rw[Bool.eq_false_iff]
 intro hh
 have:=O3.1 hh i (A1u.2 hij)
 exact h (of_decide_eq_true this)
theorem B2X(x:TD)(h:x.ok)(l:List Ch)(hl:l.length<=1048576)(hls:∀c∈l,H6 c)(d:D)(hd:B3 d (I3 l)) :
  Pure Tryz.prog B74 [x.av,.d d] (.d (A6Q x l)):=by
 have hRun:=λ(i:Nat) d' hd'=>A9B x h (l.take i) (by rw[J1];omega) (λc hc=>hls c (Z1 hc)) d' hd'
 obtain⟨R,hR⟩:∃R,R=A6Q x l:=⟨_,rfl⟩
 rw[<- hR]
 unfold A6Q at hR
 have h1:=A1d l
 have hm:=A3J l
 have htk:=λi=>D3U l i
 obtain⟨es,hes⟩:∃es,es=I3 l:=⟨_,rfl⟩
 rw[<- hes] at h1 hm hd
 have htk:∀i,I3 (l.take i)=es.take i:=λi=>by rw[hes];exact(htk i).symm
 obtain⟨rn,hrn⟩:∃z,z=λi=>x.runsR (l.take i):=⟨_,rfl⟩
 have hp:∀j,A1m x l (j+1)=(A1m x l j&&decide ((rn j).2.2=0)):=λj=>by rw[D6I,hrn]
 have hpf:∀i j,(rn i).2.2≠0->i<j->A1m x l j=false:=λi j h1 h2=>C1h (by rw[hrn] at h1;exact h1) h2
 have hrl:∀j,Y0 x l (j+1)=Y0 x l j++[(rn j).1]:=λj=>by unfold Y0;rw[List.range_succ,A0s,hrn];rfl
 have hr0:Y0 x l 0=[]:=rfl
 have hRun:∀(i:Nat) d',B3 d' (es.take i)->Bi.Pure Tryz.prog A4l [x.av,.d d'] (.tup [(rn i).1.av,.d (eI ((rn i).2.1:Nat)),.d (eI (rn i).2.2)]):=λi d' hd'=>by
  rw[hrn];exact hRun i d' (by rw[htk];exact hd')
 obtain⟨rl,hrl0⟩:∃z,z=Y0 x l:=⟨_,rfl⟩
 rw[<- hrl0] at hR hrl hr0
 obtain⟨pb,hpb⟩:∃z,z=A1m x l:=⟨_,rfl⟩
 rw[<- hpb] at hR hp hpf
 have hp0:pb 0=true:=by rw[hpb];rfl
 clear hrn hrl0 hpb h
 have hbd:∀A:List (List D),A.length<=l.length+1->(A.length+1)*112<=140737488355328:=λA h=>by omega
 refine C5J.go A4 rfl ?_
 obtain⟨⟨nm,cs,ks,fs,xs⟩,dc,dk,df,dx⟩:=x
 repeat' first|refine st ?_|refine⟨λ_=>?_,λ_=>?_⟩|fail
 refine I2 A4 C8V C7N (λ(i:Nat) (A:List (List D))=>[.arr 1 A.length,.d (eI i)]) (λi A=>[.cells [.d (.str nm),.d dc,.d dk,.d df,.d dx],.arr A 5 0 false]) (λi A=>i<=l.length+1/\A=Z5 (rl i)/\pb i=true/\A.length=i) (λi A=>l.length+1-i) 0 [] rfl rfl rfl rfl (λ_ _ _=>⟨rfl,rfl⟩) rfl ⟨by omega,by rw[hr0];rfl,hp0,rfl⟩ ?_
 repeat' first|refine st ?_|refine⟨λ_=>?_,λ_=>?_⟩|fail
 intro i A ⟨g1,g2,g3,g4⟩
 have hAm:∀e∈A,e.length=5:=by rw[g2];exact A6d _
 by_cases hi:i<=l.length
 ·have key:∀d',B3 d' (es.take i)->Bi.Pure Tryz.prog A4l [eT nm dc dk df dx,.d d'] (.tup [eT (rn i).1.t.nm (rn i).1.dc (rn i).1.dk (rn i).1.df (rn i).1.dx,.d (eI ((rn i).2.1:Nat)),.d (eI (rn i).2.2)]):=hRun i
  have hs:A++[[.str (rn i).1.t.nm,(rn i).1.dc,(rn i).1.dk,(rn i).1.df,(rn i).1.dx]]=Z5 (rl (i+1)):=by rw[g2,hrl];simp[Z5]
  have M9:=hp i
  have hpf1:=hpf i
  rw[g3,Y9] at M9
  obtain⟨⟨y,n,e⟩,hy⟩:∃z,z=rn i:=⟨_,rfl⟩
  rw[<- hy] at key hs M9 hpf1
  dsimp only at key hs M9 hpf1
  clear g2 hRun hy
  have hes2:(es.length:Int)=l.length:=by omega
  rcases hd with ⟨rfl,he⟩|rfl
  ·have hi0:i=0:=by rw[he] at h1;simp at h1;omega
   subst hi0
   have key:=key .nil (by rw[he];exact A0i)
   by_cases g5:e=0
   ·subst g5
    repeat' first|refine st ?_|refine⟨λ_=>?_,λ_=>?_⟩|fail
    exact⟨0+1,A++[[.str y.t.nm,y.dc,y.dk,y.df,y.dx]],rfl,rfl,rfl,by omega,by omega,hs,M9,by simp[g4]⟩
   ·rw[hpf1 _ g5 (by omega:0<l.length+1),if_neg (by decide)] at hR
    subst hR
    repeat' first|refine st ?_|refine⟨λ_=>?_,λ_=>?_⟩|fail
    all_goals rfl
  ·have key:=key (.sl ((es.drop (0:Int).toNat).take ((i:Int).toNat-(0:Int).toNat))) J7
   by_cases g5:e=0
   ·subst g5
    repeat' first|refine st ?_|refine⟨λ_=>?_,λ_=>?_⟩|fail
    exact⟨i+1,A++[[.str y.t.nm,y.dc,y.dk,y.df,y.dx]],rfl,rfl,rfl,by omega,by omega,hs,M9,by simp[g4]⟩
   ·rw[hpf1 _ g5 (by omega:i<l.length+1),if_neg (by decide)] at hR
    subst hR
    repeat' first|refine st ?_|refine⟨λ_=>?_,λ_=>?_⟩|fail
    all_goals rfl
 ·have hie:i=l.length+1:=by omega
  subst hie
  rw[g3,if_pos rfl,<- g2] at hR
  subst hR
  clear g2 hRun hp hpf hrl
  repeat' first|refine st ?_|refine⟨λ_=>?_,λ_=>?_⟩|fail
  all_goals rfl
theorem C3P(f1 f2:FuncId)(S:List St)(hSl:S.length<=1048576)(d:D)(hd:B3 d (S5 S))(a b:Nat)(ha:a<=S.length)(hb:b<=S.length)(z:Nat->D)
  (hF:∀(i:Nat) s,a<=i->i<b->S[i]?=some s->B0 Tryz.prog f1 [s.av,.ptr 0 0] [.cells [.d (z i)]] (λr os=>r=.tup []/\os=[.cells [.d (z (i+1))]]))
  (hB:∀(i:Nat) s,b<=i->i<a->S[i]?=some s->B0 Tryz.prog f2 [s.av,.ptr 0 0] [.cells [.d (z (i+1))]] (λr os=>r=.tup []/\os=[.cells [.d (z i)]])) :
  B0 Tryz.prog A7Y [.d d,.d (eI a),.d (eI b),.clo f1 [0],.clo f2 [0]] [.cells [.d (z a)]] (λr os=>r=.tup []/\os=[.cells [.d (z b)]]):=by
 have hg0:=λi s=>@B9c S i s
 have h1:=B19 S
 have hm:=B1a S
 obtain⟨Es,hEs⟩:∃q,q=S5 S:=⟨_,rfl⟩
 rw[<- hEs] at hd hg0 h1 hm
 refine C6m.goX A4 rfl ?_
 repeat' first|refine st ?_|refine⟨λ_=>?_,λ_=>?_⟩|fail
 refine F2 A4 C9g C88 (λ(p:Nat)=>[.d (eI p)]) (λp=>[.cells [.d (z p)]]) (λp=>a<=p/\(p<=b\/p=a)) (λp=>b-p) a rfl rfl rfl rfl (λ_ _=>⟨rfl,rfl⟩) rfl ⟨G8 _,.inr rfl⟩ ?_
 repeat' first|refine st ?_|refine⟨λ_=>?_,λ_=>?_⟩|fail
 intro p ⟨g1,g2⟩
 by_cases hp:p<b
 ·obtain⟨s,hs⟩:∃s,S[p]?=some s:=⟨_,C3 (by omega)⟩
  have hg:=hg0 p s hs
  have hC:=hF p s g1 hp hs
  obtain⟨x,y,c⟩:=s
  unfold St.ds at hg
  dsimp only at hg
  have hC:B0 Tryz.prog f1 [.agg [.d (.str x.t.nm),.d x.dc,.d x.dk,.d x.df,.d x.dx,.d (.str y.t.nm),.d y.dc,.d y.dk,.d y.df,.d y.dx,.d (eI c.k),.d (.str c.nm),.d (.str c.to),.d (.str c.co.nm),.d (eI c.co.k),.d (.bool c.co.nl),.d (eI c.df.k),.d (eI c.df.n),.d (.str c.df.s)],.ptr 0 0] [.cells [.d (z p)]] (λr os=>r=.tup []/\os=[.cells [.d (z (p+1))]]):=hC
  repeat' first|refine st ?_|((with_reducible first|apply I5|apply I8);(·exact hC);(try rintro _ _ ⟨rfl,rfl⟩))|((with_reducible apply I9);(·exact hC))|refine⟨λ_=>?_,λ_=>?_⟩|fail
  exact⟨p+1,rfl,rfl,rfl,by omega,by omega,.inl (by omega)⟩
 ·repeat' first|refine st ?_|refine⟨λ_=>?_,λ_=>?_⟩|fail
  refine F2 A4 C9h C89 (λ(q:Nat)=>[.d (eI q)]) (λq=>[.cells [.d (z q)]]) (λq=>b<=q/\(q<=a\/q=b)) (λq=>q) p rfl rfl rfl rfl (λ_ _=>⟨rfl,rfl⟩) rfl ⟨by omega,by omega⟩ ?_
  repeat' first|refine st ?_|refine⟨λ_=>?_,λ_=>?_⟩|fail
  intro q ⟨g3,g4⟩
  by_cases hq:b<q
  ·obtain⟨k,rfl⟩:∃k,q=k+1:=⟨q-1,by omega⟩
   obtain⟨s,hs⟩:∃s,S[k]?=some s:=⟨_,C3 (by omega)⟩
   have hg:Es[((((k+1:Nat):Int))-1).toNat]?=some s.ds:=by rw[show((((k+1:Nat):Int))-1).toNat=k by omega];exact hg0 k s hs
   have hC:=hB k s (by omega) (by omega) hs
   obtain⟨x,y,c⟩:=s
   unfold St.ds at hg
   dsimp only at hg
   have hC:B0 Tryz.prog f2 [.agg [.d (.str x.t.nm),.d x.dc,.d x.dk,.d x.df,.d x.dx,.d (.str y.t.nm),.d y.dc,.d y.dk,.d y.df,.d y.dx,.d (eI c.k),.d (.str c.nm),.d (.str c.to),.d (.str c.co.nm),.d (eI c.co.k),.d (.bool c.co.nl),.d (eI c.df.k),.d (eI c.df.n),.d (.str c.df.s)],.ptr 0 0] [.cells [.d (z (k+1))]] (λr os=>r=.tup []/\os=[.cells [.d (z k)]]):=hC
   repeat' first|refine st ?_|((with_reducible first|apply I5|apply I8);(·exact hC);(try rintro _ _ ⟨rfl,rfl⟩))|((with_reducible apply I9);(·exact hC))|refine⟨λ_=>?_,λ_=>?_⟩|fail
   refine⟨k,?_,rfl,rfl,by omega,by omega,.inl (by omega)⟩
   rw[show((k+1:Nat):Int)-1=k by omega]
  ·have hqb:q=b:=by omega
   subst hqb
   repeat' first|refine st ?_|refine⟨λ_=>?_,λ_=>?_⟩|fail
   all_goals exact⟨rfl,rfl⟩
def bkT(t:Tb)(c:Ch)(k:Int):Int:=if c.k=1/\k=(t.cs.length:Int) then -1 else if c.k=2/\D4 c.nm t.cs<=k then k+1 else k
def bkI(s:St)(k:Int):Int:=bkT s.x.t s.c k
def fwI(S:List St)(k:Int):Int:=S.foldl (λk s=>A32 s.x.t s.c k) k
def bwI(S:List St)(k:Int):Int:=S.foldr (λs k=>bkI s k) k
theorem D4J(S:List St)(a p:Nat)(s:St)(k:Int)(hap:a<=p)(h:S[p]?=some s):fwI ((S.drop a).take (p+1-a)) k=A32 s.x.t s.c (fwI ((S.drop a).take (p-a)) k):=by
 have e:(S.drop a)[p-a]?=some s:=by rw[A0W,show a+(p-a)=p by omega];exact h
 unfold fwI
 rw[show p+1-a=(p-a)+1 by omega,P1,e,A2I]
 rfl
theorem D2N(S:List St)(a p:Nat)(s:St)(k:Int)(hpa:p<a)(h:S[p]?=some s):bwI ((S.drop p).take (a-p)) k=bkI s (bwI ((S.drop (p+1)).take (a-(p+1))) k):=by
 obtain⟨hlt,he⟩:=A7.1 h
 rw[P7 hlt,he,show a-p=(a-(p+1))+1 by omega,A3t]
 rfl
def A6a(x:TD)(l:List Ch)(a b k:Int):Int:=
 if Q4 x l=false\/a<0\/b<0\/(l.length:Int)<a\/(l.length:Int)<b\/k<0\/((K8 x (l.take a.toNat)).t.cs.length:Int)<=k then -1
 else if a<=b then fwI (((L2 x l).drop a.toNat).take (b.toNat-a.toNat)) k else bwI (((L2 x l).drop b.toNat).take (a.toNat-b.toNat)) k
theorem D5r{f1 f2:FuncId}{d x y u v:D}(h:B0 Tryz.prog A7Y [.d d,.d x,.d y,.clo f1 [0],.clo f2 [0]] [.cells [.d u]] (λr os=>r=.tup []/\os=[.cells [.d v]])){os:List AO}{id:Nat}(ho:os[id]?=some (.cells [.d u])) :
  B0 Tryz.prog A7Y [.d d,.d x,.d y,.clo f1 [id],.clo f2 [id]] os (λr os'=>r=.tup []/\os'=os.set id (.cells [.d v])):=by
 have:=B0.frame (K:=λr' os'=>r'=.tup []/\os'=os.set id (.cells [.d v])) h [id] os rfl (by simp) (λi o hx=>?_) (λz hz=>?_) (λo hx=>?_) ?_
 ·exact this
 ·cases i with
  |zero=>simp at hx;subst hx;exact ho
  |succ i=>simp at hx
 ·simp only[I6,o4,or_false] at hz
  rcases hz with rfl|rfl|rfl|rfl|rfl<;>simp[AV.bnd2,AV.bnd1]
 ·cases i7.1 hx
  simp[AO.bnd,AV.bnd1]
 ·rintro _ _ ⟨rfl,rfl⟩
  refine⟨rfl,?_⟩
  simp[T6,mO,mC]
theorem D7v(x:TD)(l:List Ch)(a:Nat)(ha:a<=l.length):(A2z x l)[a]?=some (K8 x (l.take a)).cp:=by
 unfold A2z
 cases a with
 |zero=>rfl
 |succ i=>
  have hc:l[i]?=some (l[i]'(by omega)):=C3 (by omega)
  rw[l6,F8,A0P (x:=x) hc,A9e hc,A66]
  rfl
end Go.Proofs
end
