/- Texts of this claim, joined. No condition. -/
import Derived.Test.YtnhhopmldgpglaaGreatDoorQ10
import Derived.Test.YtnhhopmldgpglaaGreatDoorIc0
import Derived.Test.YtnhhopmldgpglaaGreatDoorIc1
set_option linter.unusedSimpArgs false
set_option linter.unusedVariables false
set_option maxRecDepth 10000
set_option maxHeartbeats 4000000
section
namespace Go.Proofs
open Go.Bi
theorem A8p{t u:Tb}(h:nf t=nf u)(c:Ch):C7 t c=C7 u c:=by rw[<- A2Z,h,A2Z]
theorem D7z{x y:TD}(h:nf x.t=nf y.t)(c:Ch):nf (x.to c).t=nf (y.to c).t:=by
 unfold TD.to
 rw[A8p h c]
 split
 ·show nf (D7 x.t c)=nf (D7 y.t c)
  rw[<- A4T,h,A4T]
 ·rfl
theorem B0X:∀(l:List Ch){x y:TD},nf x.t=nf y.t->N5 x l=N5 y l/\nf (K8 x l).t=nf (K8 y l).t
 |[],x,y,h=>⟨rfl,h⟩
 |c::r,x,y,h=>by
  have h1:=B0X r (D7z h c)
  exact⟨by rw[N5,N5,A8p h c,h1.1],h1.2⟩
theorem B25:∀(l:List Ch)(x:TD)(i:Nat),((TD.run x i l).2.2=0↔N5 x l=true)/\(N5 x l=true->(TD.run x i l).1=K8 x l)
 |[],x,i=>⟨by simp[TD.run,N5],λ_=>rfl⟩
 |c::r,x,i=>by
  by_cases hq:C7 x.t c=0
  ·have e1:TD.run x i (c::r)=TD.run (x.evo c) (i+1) r:=by rw[TD.run,if_pos hq]
   have e2:x.to c=x.evo c:=by unfold TD.to;rw[if_pos hq]
   rw[e1,N5,decide_eq_true hq,Y9,e2,K8,e2]
   exact B25 r _ _
  ·have e1:TD.run x i (c::r)=(O1,i,C7 x.t c):=by rw[TD.run,if_neg hq]
   rw[e1,N5,decide_eq_false hq,A2G]
   exact⟨⟨λh=>absurd h hq,λh=>by cases h⟩,λh=>by cases h⟩
theorem B29(x:TD)(l:List Ch):(x.runsR l).2.2=0↔Q4 x l=true:=by
 have h1:=(A3V x l).1
 rw[<- h1]
 unfold TD.runs Q4
 by_cases hq:H9 x.t=0
 ·rw[if_pos hq,decide_eq_true hq,Y9,(B25 l x.cp 0).1,(B0X l (A8N x)).1]
 ·rw[if_neg hq,decide_eq_false hq,A2G]
  exact⟨λh=>absurd h hq,λh=>by cases h⟩
theorem C1N(x:TD)(l:List Ch)(h:Q4 x l=true):nf (x.runsR l).1.t=nf (K8 x l).t:=by
 rw[<- (A3V x l).2]
 unfold Q4 at h
 rw[L6] at h
 have hq:H9 x.t=0:=of_decide_eq_true h.1
 have h2:=B0X l (A8N x)
 unfold TD.runs
 rw[if_pos hq,(B25 l x.cp 0).2 (by rw[h2.1];exact h.2),h2.2]
theorem C1Y:∀(l:List Ch)(x:TD)(i:Nat),N5 x l=true->N5 x (l.take i)=true
 |[],x,i,h=>by simpa using h
 |c::r,x,0,h=>rfl
 |c::r,x,i+1,h=>by
  rw[N5,L6] at h
  rw[A3t,N5,h.1,C1Y r _ i h.2];rfl
theorem B2i{x:TD}{l:List Ch}(i:Nat)(h:Q4 x l=true):Q4 x (l.take i)=true:=by
 unfold Q4 at *
 rw[L6] at h
 rw[h.1,C1Y l x i h.2];rfl
theorem C1i(x:TD)(l:List Ch):A1m x l (l.length+1)=Q4 x l:=by
 cases h:Q4 x l with
 |true=>
  unfold A1m
  rw[O3]
  intro i _
  exact decide_eq_true ((B29 x _).2 (B2i i h))
 |false=>
  refine C1h (i:=l.length) (λe=>?_) (Nat.lt_succ_self _)
  rw[List.take_length,B29,h] at e
  cases e
theorem C1r(x:TD)(l:List Ch)(j i:Nat)(h:i<j):(Y0 x l j)[i]?=some (x.runsR (l.take i)).1:=by
 unfold Y0
 rw[F8,List.getElem?_range h]
 rfl
theorem D2D{t:Tb}{c:Ch}(h:C7 t c=0):bkT t c (-1)=-1:=by
 obtain⟨q1,q2,q3,q4,q5⟩:=p8 h
 unfold bkT
 rw[if_neg (by omega)]
 by_cases k2:c.k=2
 ·obtain⟨i,co,hi,_⟩:=A08 (q5 (by omega))
  rw[if_neg (by omega)]
 ·rw[if_neg (λe=>k2 e.1)]
end Go.Proofs
end
section
namespace Go.Bi
open Go Go.Proofs Go.Shelf
def dvn:D->Option Value
 |.nil=>some (.slice none 0 0)
 |d=>dv d
theorem D6Q{M:C2}{d:D}{u v:Value}(h:dvn d=some u)(r:Rd M d v):v=u:=by
 cases r<;>simp[dvn,dv] at h<;>exact h
theorem B8k{M:C2}{G:Gh}{os:List AO}{ds:List D}{us:List Value}{vs:Array Value}(hl:ds.map dvn=us.map some)(hl':vs.size=(ds.map AV.d).length)(hv:∀(j:Nat) a v,(ds.map AV.d)[j]?=some a->vs[j]?=some v->VG M G os a v):vs=us.toArray:=by
 have hll:ds.length=us.length:=by have:=congrArg List.length hl;simpa using this
 have hsz:vs.size=us.length:=by rw[hl',C6,hll]
 refine Array.ext (by simpa using hsz) λj h1 h2=>?_
 have hj:j<ds.length:=by omega
 have hj2:j<us.length:=by omega
 have k1:=hv j (.d ds[j]) vs[j] (by simp[hj]) (J4 h1)
 have k2:dvn ds[j]=some us[j]:=by
  have:=congrArg (λl=>l[j]?) hl
  simpa[hj,hj2] using this
 have k3:=D6Q k2 k1
 simpa using k3
end Go.Bi
namespace Go.Proofs
open Go.Bi Go.Shelf
theorem D4R:∃i z,Tryz.prog.info? (Tryz.growV_ren.t 25)=some i/\i.zero=some z/\i.size=3/\i.bytes=32/\z.cells.size=3:=by
 have h:(match Tryz.prog.info? (Tryz.growV_ren.t 25) with
  |some i=>(match i.zero with
   |some z=>decide (i.size=3)&&decide (i.bytes=32)&&decide (z.cells.size=3)
   |none=>false)
  |none=>false)=true:=by kernel_rfl
 split at h
 ·rename_i i hi
  split at h
  ·rename_i z hz
   simp only[L6,decide_eq_true_eq] at h
   exact⟨i,z,hi,hz,h.1.1,h.1.2,h.2⟩
  ·cases h
 ·cases h
theorem B9d:Bi.Enters Tryz.prog B7N:=⟨_,Tryz.func112,by kernel_rfl,by decide⟩
theorem C4H(n:Nat)(hn:n<=4194304):B0 Tryz.prog B7N [.d .nil,.d (eI n)] [] (λr os=>r=.arr 0 0/\os=[.arr [] 3 0 (decide (n=0))]):=by
 by_cases h0:n=0
 ·subst h0
  refine B0.own_nil 3 (by decide) ?_
  refine⟨B9d,λM G w vs hE hl hv=>?_⟩
  obtain rfl:=B8k (ds:=[.nil,eI (0:Nat)]) (us:=[.slice none 0 0,.int .i64 (0:Nat)]) rfl hl hv
  refine(Any8.slices_Grow_room Tryz.growV none 0 0 0 w (by omega) (by omega) (by omega) (by omega)).mono ?_
  rintro e w' ⟨rfl,rfl⟩
  exact⟨_,rfl,M,G,.d .nil,[],hE,D6.refl ..,.nil,rfl,rfl⟩
 ·rw[decide_eq_false h0]
  refine⟨B9d,λM G w vs hE hl hv=>?_⟩
  obtain rfl:=B8k (ds:=[.nil,eI (n:Nat)]) (us:=[.slice none 0 0,.int .i64 (n:Nat)]) rfl hl hv
  obtain⟨i,z,h1,h2,h3,h4,h5⟩:=D4R
  refine(Any8.slices_Grow_grow Tryz.growV i z h1 h2 (by omega) none 0 0 n [] w (by omega) (by omega) (by rw[h4];omega) (by omega) (by simp) (λ_=>rfl) (λa ha=>by cases ha)).mono ?_
  rintro e w' ⟨rfl,rfl⟩
  obtain⟨c,hc⟩:∃c,c=grownCap w (0+n) 0 (Tryz.growV_ren.t 25):=⟨_,rfl⟩
  have hge:0+n<=c:=by rw[hc];exact grownCap_ge ..
  have hle:c<=maxLen:=by rw[hc];exact grownCap_le_maxLen _ _ _ _ (by unfold maxLen;omega)
  rw[<- hc]
  obtain⟨ob,hob⟩:∃ob,ob=Obj.cells (([]:List Value).toArray++Builtin.zeroCells z.cells (0+n-0)++Builtin.zeroCells z.cells (c-(0+n))) (Tryz.growV_ren.t 25):=⟨_,rfl⟩
  rw[<- hob]
  have hor:OR M (G.ext ([]:List AO).length w.drew.heap.size c) ([]++[.arr [] 3 0 false]) (w.drew.alloc ob) ([]:List AO).length (.arr [] 3 0 false):=by
   refine⟨by omega,by simp,by simp,λh=>(by cases h),λ_=>⟨_,_,by rw[show(G.ext ([]:List AO).length w.drew.heap.size c).blk ([]:List AO).length=w.drew.heap.size by simp[Gh.ext],hob];exact x7 w.drew _,?_,by simp,by simpa[Gh.ext] using hle,λi j y x hi hj=>by simp at hi,λk hk=>by omega⟩⟩
   simp only[Array.size_append,size_zeroCells,h5,Gh.ext,if_true,A3s,P9]
   omega
  have e1:=A2l hE.drew (.arr [] 3 0 false) ob c (λa v h=>w6 a v h) hor (λ_ es sz frz nl h=>by cases h;rfl)
  have s1:=(A2v M G [] w).trans (A1o hE.drew (.arr [] 3 0 false) ob c)
  refine⟨_,rfl,M,_,.arr 0 0,_,e1,s1,⟨rfl,[],3,0,false,rfl,G8 _,λ_=>?_⟩,rfl,rfl⟩
  simp[Gh.slv,Gh.ext]
end Go.Proofs
end
section
namespace Go.Proofs
open Go.Bi
def S3(L:List (D×List (List D))):List (List D):=(L.map (·.2)).flatten
theorem B8E{L:List (D×List (List D))}{i:Nat}{p:D×List (List D)}(h:L[i]?=some p):S3 (L.take (i+1))=S3 (L.take i)++p.2:=by
 unfold S3
 rw[P1,h];simp
theorem D2W(L:List (D×List (List D)))(i:Nat):(S3 (L.take i)).length<=(S3 L).length:=by
 have e:S3 L=S3 (L.take i)++S3 (L.drop i):=by unfold S3;rw[<- List.flatten_append,<- A0s,List.take_append_drop]
 rw[e,J0];omega
theorem B37(L:List (D×List (List D)))(hLl:L.length<=1000)(hL:∀p∈L,B3 p.1 p.2/\∀e∈p.2,e.length=3)(hT:(S3 L).length<=4194304) :
  B0 Tryz.prog A85 [.d (.sl (L.map λp=>[p.1]))] [] (λr os=>r=.arr 0 (S3 L).length/\os=[.arr (S3 L) 3 0 (decide ((S3 L).length=0))]):=by
 have hG:=C4H (S3 L).length hT
 obtain⟨n,hn⟩:∃n,n=(S3 L).length:=⟨_,rfl⟩
 have hle:∀i,(S3 (L.take i)).length<=n:=λi=>by rw[hn];exact D2W L i
 rw[<- hn] at hG hT ⊢
 obtain⟨b,hb⟩:∃b,b=decide (n=0):=⟨_,rfl⟩
 rw[<- hb] at hG ⊢
 have hEl:(L.map λp=>[p.1]).length=L.length:=C6 ..
 have hEg:∀(i:Nat) p,L[i]?=some p->(L.map λp=>[p.1])[i]?=some [p.1]:=λi p h=>by rw[F8,h];rfl
 have hEm:∀e∈(L.map λp=>[p.1]),e.length=1:=λe he=>by obtain⟨p,_,rfl⟩:=D9.1 he;rfl
 obtain⟨Es,hEs⟩:∃z,z=L.map λp=>[p.1]:=⟨_,rfl⟩
 rw[<- hEs] at hEl hEg hEm ⊢
 clear hEs
 refine C6z.goO A4 rfl ?_
 repeat' first|refine st ?_|refine⟨λ_=>?_,λ_=>?_⟩|fail
 refine F2 A4 C9q C8i (λ(i:Nat)=>[.d (eI (S3 (L.take i)).length),.d (eI i)]) (λi=>[]) (λi=>i<=L.length) (λi=>L.length-i) 0 rfl rfl rfl rfl (λ_ _=>⟨rfl,rfl⟩) rfl (R1 _) ?_
 repeat' first|refine st ?_|refine⟨λ_=>?_,λ_=>?_⟩|fail
 intro i h4
 have hli:=hle i
 cases hx:L[i]? with
 |some p=>
  have hlt:=(A7.1 hx).1
  have hg:=hEg i p hx
  have hs:=B8E hx
  have hl2:=hle (i+1)
  obtain⟨h5,h6⟩:=hL p (B9 hx)
  have hs2:((S3 (L.take (i+1))).length:Int)=(S3 (L.take i)).length+p.2.length:=by rw[hs,J0];omega
  obtain⟨m,hm⟩:∃m,m=(S3 (L.take i)).length:=⟨_,rfl⟩
  rw[<- hm] at hs2 hli ⊢
  obtain⟨d,l⟩:=p
  dsimp only at hg hs2 h5 h6
  rcases h5 with ⟨rfl,rfl⟩|rfl
  ·repeat' first|refine st ?_|refine⟨λ_=>?_,λ_=>?_⟩|fail
   exact⟨i+1,by rw[hs2];rfl,rfl,rfl,by omega,by omega⟩
  ·repeat' first|refine st ?_|refine⟨λ_=>?_,λ_=>?_⟩|fail
   exact⟨i+1,by rw[hs2];rfl,rfl,rfl,by omega,by omega⟩
 |none=>
  have hge:=C8.1 hx
  rw[J5 hge,<- hn]
  repeat' first|refine st ?_|((with_reducible first|apply I5|apply I8);(·exact hG);(try rintro _ _ ⟨rfl,rfl⟩))|((with_reducible apply I9);(·exact hG))|refine⟨λ_=>?_,λ_=>?_⟩|fail
  refine I2 A4 C9r C8j (λ(j:Nat) (A:List (List D))=>[.arr 0 A.length,.d (eI j)]) (λj A=>[.arr A 3 0 b]) (λj A=>j<=L.length/\A=S3 (L.take j)) (λj A=>L.length-j) 0 [] rfl rfl rfl rfl (λ_ _ _=>⟨rfl,rfl⟩) rfl ⟨R1 _,rfl⟩ ?_
  repeat' first|refine st ?_|refine⟨λ_=>?_,λ_=>?_⟩|fail
  intro j A ⟨g1,g2⟩
  have hlj:=hle j
  cases hy:L[j]? with
  |some p=>
   have hlt:=(A7.1 hy).1
   have hg:=hEg j p hy
   have hs:=B8E hy
   have hl2:=hle (j+1)
   obtain⟨h5,h6⟩:=hL p (B9 hy)
   rw[<- g2] at hs hlj
   rw[hs,J0] at hl2
   obtain⟨d,l⟩:=p
   dsimp only at hg hs h5 h6 hl2
   have hbd:(A.length+l.length)*32<=140737488355328/\A.length+l.length<=9223372036854775807:=by omega
   rcases h5 with ⟨rfl,rfl⟩|rfl
   ·repeat' first|refine st ?_|refine⟨λ_=>?_,λ_=>?_⟩|fail
    all_goals exact⟨j+1,A++[],by simp,by simp,rfl,by omega,by omega,by rw[hs]⟩
   ·cases l with
    |nil=>
     repeat' first|refine st ?_|refine⟨λ_=>?_,λ_=>?_⟩|fail
     all_goals exact⟨j+1,A++[],by simp,by simp,rfl,by omega,by omega,by rw[hs]⟩
    |cons e r=>
     have hb0:b=false:=by rw[hb];exact decide_eq_false (by simp at hl2;omega)
     subst hb0
     repeat' first|refine st ?_|refine⟨λ_=>?_,λ_=>?_⟩|fail
     all_goals exact⟨j+1,A++e::r,rfl,rfl,rfl,by omega,by omega,by rw[hs]⟩
  |none=>
   have hge2:=C8.1 hy
   rw[J5 hge2] at g2
   have hAl:A.length=n:=by rw[g2,hn]
   subst g2
   repeat' first|refine st ?_|refine⟨λ_=>?_,λ_=>?_⟩|fail
   all_goals exact⟨by rw[hAl],rfl⟩
theorem C4Q(row:List Vl)(ks:List Int)(hr:row.length<=1048576)(hk:ks.length<=1048577)(hrs:∀v∈row,v.s.length<=1048576)(dr:D)(hdr:B3 dr (B1 row))(dk:D)(hdk:B3 dk (A0 ks)):Pure Tryz.prog B7T [.d dr,.d dk] (.d (.bool (I4 row ks))):=by
 refine C6G.go A4 rfl ?_
 have h1:=U9 row
 have hm:=x4 row
 have h2:=B4 ks
 have hm2:=C9 ks
 obtain⟨q,hq⟩:∃q,q=I4 row ks:=⟨_,rfl⟩
 rw[<- hq]
 by_cases hl:row.length=ks.length
 rotate_left
 ·have:q=false:=by rw[hq,I4,decide_eq_false hl];rfl
  rw[this]
  repeat' first|refine st ?_|((with_reducible apply C4);conv=>whnf)|refine⟨λ_=>?_,λ_=>?_⟩|fail
  all_goals first|rfl|(exfalso;omega)
 unfold I4 at hq
 rw[decide_eq_true hl,Y9] at hq
 have hl2:(B1 row).length=(A0 ks).length:=by omega
 repeat' first|refine st ?_|((with_reducible apply C4);conv=>whnf)|refine⟨λ_=>?_,λ_=>?_⟩|fail
 refine F2 A4 C9t C8l (λ(i:Nat)=>[.d (eI i)]) (λi=>[]) (λi=>i<=row.length/\((row.zip ks).take i).all (λp=>R7 p.1 p.2)=true) (λi=>row.length-i) 0 rfl rfl rfl rfl (λ_ _=>⟨rfl,rfl⟩) rfl ⟨by omega,rfl⟩ ?_
 repeat' first|refine st ?_|((with_reducible apply C4);conv=>whnf)|refine⟨λ_=>?_,λ_=>?_⟩|fail
 intro i ⟨h4,h5⟩
 cases hx:row[i]? with
 |some v=>
  have hlt:=(A7.1 hx).1
  obtain⟨k,hkx⟩:∃k,ks[i]?=some k:=⟨_,C3 (by omega)⟩
  have hz:(row.zip ks)[i]?=some (v,k):=A9P.2 ⟨hx,hkx⟩
  have hg:=A3K hx
  have hg2:=K5 hkx
  have hV:=A5m v (O4 (hrs v (B9 hx)) (by omega))
  have hs:=B8h (p:=λp=>R7 p.1 p.2) hz
  rw[h5,Y9] at hs
  dsimp only at hs
  cases hv:K7 v with
  |false=>
   rw[hv] at hV
   have hb:R7 v k=false:=by rw[R7,hv];rfl
   have hf:=A8a (p:=λp=>R7 p.1 p.2) hz hb
   rw[hf] at hq
   repeat' first|refine st ?_|((with_reducible apply C4);conv=>whnf)|refine⟨λ_=>?_,λ_=>?_⟩|fail
   all_goals (rw[hq])
  |true=>
   rw[hv] at hV
   by_cases hk0:v.k=0
   ·have hb:R7 v k=true:=by rw[R7,hv,decide_eq_true hk0];rfl
    repeat' first|refine st ?_|((with_reducible apply C4);conv=>whnf)|refine⟨λ_=>?_,λ_=>?_⟩|fail
    all_goals exact⟨i+1,rfl,rfl,rfl,by omega,by omega,hs.trans hb⟩
   ·by_cases hkk:v.k=k
    ·have hb:R7 v k=true:=by rw[R7,hv,decide_eq_true hkk];simp
     repeat' first|refine st ?_|((with_reducible apply C4);conv=>whnf)|refine⟨λ_=>?_,λ_=>?_⟩|fail
     all_goals exact⟨i+1,rfl,rfl,rfl,by omega,by omega,hs.trans hb⟩
    ·have hb:R7 v k=false:=by rw[R7,hv,decide_eq_false hkk,decide_eq_false hk0];rfl
     have hf:=A8a (p:=λp=>R7 p.1 p.2) hz hb
     rw[hf] at hq
     repeat' first|refine st ?_|((with_reducible apply C4);conv=>whnf)|refine⟨λ_=>?_,λ_=>?_⟩|fail
     all_goals (rw[hq])
 |none=>
  have hge:=C8.1 hx
  rw[J5 (by rw[List.length_zip];omega)] at h5
  rw[h5] at hq
  repeat' first|refine st ?_|((with_reducible apply C4);conv=>whnf)|refine⟨λ_=>?_,λ_=>?_⟩|fail
  all_goals (rw[hq])
theorem A9x(l:List (List D))(hl:l.length<=1048577)(hm:∀e∈l,e.length=3)(d:D)(hd:B3 d l):B0 Tryz.prog B0s [.d d] [] (λr os=>r=.arr 0 l.length/\os=[.arr l 3 0 (A5 d)]):=by
 rcases hd with ⟨rfl,rfl⟩|rfl
 ·refine B0.own_nil 3 (by decide) ?_
  refine B3y.go A4 rfl ?_
  repeat' first|refine st ?_|((with_reducible apply C4);conv=>whnf)|refine⟨λ_=>?_,λ_=>?_⟩|fail
 ·refine B3y.goO A4 rfl ?_
  have h0:([]:List (List D)).length=0:=rfl
  have h00:(([]:List (List D))++l).length=l.length:=rfl
  have hb:(([]:List (List D)).length+l.length)*32<=140737488355328/\([]:List (List D)).length+l.length<=9223372036854775807:=by rw[h0];omega
  repeat' first|refine st ?_|((with_reducible apply C4);conv=>whnf)|refine⟨λ_=>?_,λ_=>?_⟩|fail
  all_goals (refine⟨rfl,?_⟩;cases l<;>rfl)
theorem A8R{P:Program}{f:FuncId}{args:List AV}{l:List (List D)}{sz frz:Nat}{nl:Bool}(h:B0 P f args [] (λr os=>r=.arr 0 l.length/\os=[.arr l sz frz nl])):Pure P f args (.d (B5 nl l)):=
 h.deepP λr os h1=>by
  obtain⟨rfl,rfl⟩:=h1
  exact .inl (.inl ⟨_,.inl (.inr ⟨0,l,sz,frz,nl,rfl,rfl,rfl⟩),rfl⟩)
theorem A7l(l:List (List D))(hl:l.length<=1048577)(hm:∀e∈l,e.length=3)(d:D)(hd:B3 d l):Pure Tryz.prog B0s [.d d] (.d d):=by
 have h:=A8R (A9x l hl hm d hd)
 rwa [O6 hd] at h
def jn(l:List (List D)):D:=B5 (decide (l.length=0)) l
theorem C3e(d1 d2:D)(l1 l2:List (List D))(h1:B3 d1 l1)(h2:B3 d2 l2)(m1:∀e∈l1,e.length=3)(m2:∀e∈l2,e.length=3)(hT:l1.length+l2.length<=4194304) :
  Pure Tryz.prog A85 [.d (.sl [[d1],[d2]])] (.d (jn (l1++l2))):=by
 have e:S3 [(d1,l1),(d2,l2)]=l1++l2:=by simp[S3]
 have h:=A8R (B37 [(d1,l1),(d2,l2)] (by simp) (λp hp=>by simp at hp;rcases hp with rfl|rfl<;>first|exact⟨h1,m1⟩|exact⟨h2,m2⟩) (by rw[e,J0];exact hT))
 rw[e] at h
 exact h
theorem C3f(d1 d2 d3:D)(l1 l2 l3:List (List D))(h1:B3 d1 l1)(h2:B3 d2 l2)(h3:B3 d3 l3)(m1:∀e∈l1,e.length=3)(m2:∀e∈l2,e.length=3)(m3:∀e∈l3,e.length=3)(hT:l1.length+l2.length+l3.length<=4194304) :
  Pure Tryz.prog A85 [.d (.sl [[d1],[d2],[d3]])] (.d (jn (l1++l2++l3))):=by
 have e:S3 [(d1,l1),(d2,l2),(d3,l3)]=l1++l2++l3:=by simp[S3]
 have h:=A8R (B37 [(d1,l1),(d2,l2),(d3,l3)] (by simp) (λp hp=>by simp at hp;rcases hp with rfl|rfl|rfl<;>first|exact⟨h1,m1⟩|exact⟨h2,m2⟩|exact⟨h3,m3⟩) (by rw[e,J0,J0];exact hT))
 rw[e] at h
 exact h
theorem B38(d1 d2:D)(l1 l2:List (List D))(h1:B3 d1 l1)(h2:B3 d2 l2)(m1:∀e∈l1,e.length=3)(m2:∀e∈l2,e.length=3)(hT:l1.length+l2.length<=4194304) :
  Pure Tryz.prog B7S [.d d1,.d d2] (.d (jn (l1++l2))):=by
 have h:=C3e d1 d2 l1 l2 h1 h2 m1 m2 hT
 obtain⟨q,hq⟩:∃q,q=jn (l1++l2):=⟨_,rfl⟩
 rw[<- hq] at h ⊢
 refine C6F.go A4 rfl ?_
 repeat' first|refine st ?_|((with_reducible apply C4);conv=>whnf)|refine⟨λ_=>?_,λ_=>?_⟩|fail
 all_goals rfl
theorem C3K(f:FuncId)(l:List (List D))(hl:l.length<=1048577)(hm:∀e∈l,e.length=3)(i:Nat)(v w:Vl)(hv:l[i]?=some v.ds)(hf:Pure Tryz.prog f [eV v] (eV w)):Pure Tryz.prog B0p [.d (.sl l),.d (eI i),.d (.fn f)] (.d (.sl (l.set i w.ds))):=by
 have hC:=A9x l hl hm (.sl l) (.inr rfl)
 have hlt:=(A7.1 hv).1
 have hsl:(l.set i w.ds).length=l.length:=by simp
 refine A8R (l:=l.set i w.ds) (sz:=3) (frz:=0) (nl:=false) ?_
 refine B3s.goO A4 rfl ?_
 repeat' first|refine st ?_|((with_reducible apply C4);conv=>whnf)|((with_reducible first|apply I5|apply I8);(·exact hC);(try rintro _ _ ⟨rfl,rfl⟩))|((with_reducible apply I9);(·exact hC))|refine⟨λ_=>?_,λ_=>?_⟩|fail
 all_goals exact⟨by rw[hsl];rfl,rfl⟩
def txV(v:Vl):Vl:=if v.k=0 then v else A55 (A0k v)
def bkV(k:Int)(v:Vl):Vl:=if (e9 v.s).2≠0\/v.k≠2\/(e9 v.s).1.k≠k then F4 else (e9 v.s).1
theorem D7D{v:Vl}(h:K7 v=true):K7 (txV v)=true/\((txV v).k=0\/(txV v).k=2):=by
 unfold txV
 split
 ·exact⟨h,.inl (by assumption)⟩
 ·exact⟨D7R _,(D7Q _).symm⟩
theorem D6C(r:List UInt8)(h:(A0e r).2=0):K7 (A0e r).1=true:=by
 unfold A0e at *
 split at h
 ·cases h
 ·rename_i h1
  rw[if_neg h1]
  have hp:W2 r.dropLast=true:=by
   cases e:W2 r.dropLast with
   |true=>rfl
   |false=>exact absurd (.inr e) h1
  split at h
  ·cases h
  ·rename_i t hu
   split at h
   ·cases h
   ·rename_i h2
    simp only[if_neg h2]
    have:=A9g _ _ hu
    unfold K7
    simp[this,hp]
    omega
theorem D6A(s:List UInt8)(h:(A0M s).2=0):K7 (A0M s).1=true:=by
 unfold A0M at *
 generalize (if M9 45 s=true then s.tail else s)=d at *
 generalize M9 45 s=g at *
 split at h
 ·cases h
 ·rename_i h1
  simp only[if_neg h1]
  split at h
  ·cases h
  ·rename_i n hu
   split at h
   ·cases h
   ·rename_i h2
    simp only[if_neg h2]
    have:=(A6H _ _ _ (Int.le_refl _) hu).1
    unfold K7
    simp
    split<;>omega
theorem D7S(s:List UInt8)(h:(e9 s).2=0):K7 (e9 s).1=true:=by
 unfold e9 at *
 split
 ·rfl
 ·rename_i h1
  rw[if_neg h1] at h
  split
  ·rfl
  ·rename_i h2
   rw[if_neg h2] at h
   split
   ·rfl
   ·rename_i h3
    rw[if_neg h3] at h
    split
    ·rename_i h4
     rw[if_pos h4] at h
     exact D6C _ h
    ·rename_i h4
     rw[if_neg h4] at h
     exact D6A _ h
theorem D2E(k:Int)(v:Vl):K7 (bkV k v)=true/\((bkV k v).k=0\/(bkV k v).k=k):=by
 unfold bkV
 split
 ·exact⟨rfl,.inl rfl⟩
 ·rename_i h
  refine⟨D7S _ ?_,.inr ?_⟩
  ·by_cases e:(e9 v.s).2=0
   ·exact e
   ·exact absurd (.inl e) h
  ·by_cases e:(e9 v.s).1.k=k
   ·exact e
   ·exact absurd (.inr (.inr e)) h
theorem A8s(row:List Vl)(ks:List Int):I4 row ks=true↔row.length=ks.length/\∀(i:Nat) v k,row[i]?=some v->ks[i]?=some k->K7 v=true/\(v.k=0\/v.k=k):=by
 unfold I4
 rw[L6,decide_eq_true_eq,O3]
 refine and_congr_right λhl=>⟨λh i v k h1 h2=>?_,λh p hp=>?_⟩
 ·have:=h (v,k) (B9 (A9P.2 ⟨h1,h2⟩:(row.zip ks)[i]?=some (v,k)))
  unfold R7 at this
  simpa using this
 ·obtain⟨i,hi⟩:=A1t.1 hp
  obtain⟨h1,h2⟩:=A9P.1 hi
  have:=h i p.1 p.2 h1 h2
  unfold R7
  simpa using this
theorem A0D{row:List Vl}{ks:List Int}(h:I4 row ks=true):row.length=ks.length/\∀v∈row,v.s.length<=200:=by
 obtain⟨h1,h2⟩:=(A8s _ _).1 h
 refine⟨h1,λv hv=>?_⟩
 obtain⟨i,hi⟩:=A1t.1 hv
 have hlt:=(A7.1 hi).1
 obtain⟨k,hk⟩:∃k,ks[i]?=some k:=⟨_,C3 (by omega)⟩
 have h3:=(h2 i v k hi hk).1
 unfold K7 at h3
 split at h3
 ·rw[(of_decide_eq_true h3).2];simp
 split at h3
 ·rw[(of_decide_eq_true h3).1];simp
 split at h3
 ·rw[L6] at h3;exact(of_decide_eq_true h3.1).2
 split at h3
 ·rw[(of_decide_eq_true h3).1];simp
 ·cases h3
def Z7(t:Tb)(c:Ch)(row:List Vl):List Vl:=
 if c.k=1 then row++[c.df] else if c.k=2 then row.eraseIdx (D4 c.nm t.cs).toNat
 else if c.k=4 then row.set (D4 c.nm t.cs).toNat (txV (row.getD (D4 c.nm t.cs).toNat F4)) else row
def Y5(t:Tb)(c:Ch)(row:List Vl):List Vl:=
 if c.k=1 then row.take t.cs.length else if c.k=2 then row.take (D4 c.nm t.cs).toNat++F4::row.drop (D4 c.nm t.cs).toNat
 else if c.k=4 then row.set (D4 c.nm t.cs).toNat (bkV (j5 t (D4 c.nm t.cs)) (row.getD (D4 c.nm t.cs).toNat F4)) else row
theorem X6(l:List Co)(i:Nat):(kd l)[i]?=(l[i]?).map Co.k:=by unfold kd;rw[F8]
theorem D4w{t:Tb}{c:Ch}(h:C7 t c=0){row:List Vl}(hf:I4 row (kd t.cs)=true):I4 (Z7 t c row) (kd (D7 t c).cs)=true:=by
 obtain⟨q1,q2,q3,q4,q5⟩:=p8 h
 rw[A8s] at hf ⊢
 obtain⟨hl,hf⟩:=hf
 rw[Q2] at hl
 unfold Z7 D7
 by_cases k1:c.k=1
 ·obtain⟨a1,a2,a3,a4,a5,a6,a7⟩:=B8d (q4 k1)
  rw[if_pos k1,if_pos k1]
  refine⟨by rw[Q2];simp[hl],λi v k h1 h2=>?_⟩
  rw[X6] at h2
  by_cases hi:i<row.length
  ·rw[K4 hi] at h1
   rw[K4 (by omega),<- X6] at h2
   exact hf i v k h1 h2
  ·rw[P8 (by omega)] at h1
   rw[P8 (by omega)] at h2
   have hi0:i-row.length=0:=by
    have:=(A7.1 h1).1
    simp at this;omega
   rw[hi0] at h1
   rw[<- hl,hi0] at h2
   cases h1
   cases h2
   exact⟨a5,by
    by_cases e:c.df.k=0
    ·exact .inl e
    ·exact .inr (a7 e)⟩
 ·obtain⟨i,co,hi,hco,hcn,hus,h4,h3⟩:=A08 (q5 k1)
  have hil:=(A7.1 hco).1
  have hiN:(D4 c.nm t.cs).toNat=i:=by omega
  rw[if_neg k1,if_neg k1,hiN]
  by_cases k2:c.k=2
  ·rw[if_pos k2,if_pos k2]
   refine⟨by rw[Q2,A1s,A1s];simp[hl],λj v k h1 h2=>?_⟩
   rw[X6] at h2
   dsimp only at h2
   rw[A4f] at h1 h2
   split at h1
   ·rw[if_pos (by assumption),<- X6] at h2
    exact hf j v k h1 h2
   ·rw[if_neg (by assumption),<- X6] at h2
    exact hf (j+1) v k h1 h2
  ·rw[if_neg k2,if_neg k2]
   have e:t.cs.getD i ⟨[],0,false⟩=co:=A8C hco
   by_cases k3:c.k=3
   ·rw[if_neg (by omega),if_pos k3,e]
    refine⟨by rw[Q2];simp[hl],λj v k h1 h2=>?_⟩
    rw[X6] at h2
    dsimp only at h2
    by_cases hj:i=j
    ·subst hj
     rw[A0q hil] at h2
     refine hf i v k h1 ?_
     rw[X6,hco];exact h2
    ·rw[P3 hj,<- X6] at h2
     exact hf j v k h1 h2
   ·have k4:c.k=4:=by omega
    rw[if_pos k4,if_neg k3,e]
    refine⟨by rw[Q2];simp[hl],λj v k h1 h2=>?_⟩
    rw[X6] at h2
    dsimp only at h2
    by_cases hj:i=j
    ·subst hj
     rw[A0q hil] at h2
     rw[A0q (by omega)] at h1
     cases h1;cases h2
     obtain⟨w,hw⟩:∃w,row[i]?=some w:=⟨_,C3 (by omega)⟩
     rw[E8,hw]
     exact D7D (hf i w co.k hw (by rw[X6,hco];rfl)).1
    ·rw[P3 hj,<- X6] at h2
     rw[P3 hj] at h1
     exact hf j v k h1 h2
theorem D4u{t:Tb}{c:Ch}(h:C7 t c=0){row:List Vl}(hf:I4 row (kd (D7 t c).cs)=true):I4 (Y5 t c row) (kd t.cs)=true:=by
 obtain⟨q1,q2,q3,q4,q5⟩:=p8 h
 rw[A8s] at hf ⊢
 obtain⟨hl,hf⟩:=hf
 rw[Q2] at hl
 unfold Y5
 unfold D7 at hl hf
 by_cases k1:c.k=1
 ·rw[if_pos k1] at hl hf ⊢
  dsimp only at hl hf
  rw[J0,A3r] at hl
  refine⟨by rw[Q2,J1];omega,λi v k h1 h2=>?_⟩
  have hi:=(A7.1 h2).1
  rw[Q2] at hi
  rw[A7G hi] at h1
  refine hf i v k h1 ?_
  rw[X6,K4 hi,<- X6]
  exact h2
 ·obtain⟨i,co,hi,hco,hcn,hus,h4,h3⟩:=A08 (q5 k1)
  have hil:=(A7.1 hco).1
  have hiN:(D4 c.nm t.cs).toNat=i:=by omega
  rw[if_neg k1,hiN] at hl hf
  rw[if_neg k1,hiN,hi]
  by_cases k2:c.k=2
  ·rw[if_pos k2] at hl hf ⊢
   dsimp only at hl hf
   rw[A1s,if_pos hil] at hl
   refine⟨by rw[Q2];simp only[J0,J1,H7,U5];omega,λj v k h1 h2=>?_⟩
   have hjl:=(A7.1 h2).1
   rw[Q2] at hjl
   rw[X6] at h2
   by_cases hj:j<i
   ·rw[K4 (by rw[J1];omega),A7G hj] at h1
    refine hf j v k h1 ?_
    rw[X6,A4f,if_pos hj];exact h2
   ·rw[P8 (by rw[J1];omega),J1,A5O (by omega)] at h1
    by_cases hji:j=i
    ·subst hji
     rw[A3x] at h1
     cases h1
     exact⟨rfl,.inl rfl⟩
    ·obtain⟨p,rfl⟩:∃p,j=p+1:=⟨j-1,by omega⟩
     rw[show p+1-i=(p-i)+1 by omega,l6,A0W,show i+(p-i)=p by omega] at h1
     refine hf p v k h1 ?_
     rw[X6,A4f,if_neg (by omega)];exact h2
  ·rw[if_neg k2] at hl hf ⊢
   have e:t.cs.getD i ⟨[],0,false⟩=co:=A8C hco
   by_cases k3:c.k=3
   ·rw[if_pos k3,e] at hl hf
    rw[if_neg (by omega)]
    dsimp only at hl hf
    rw[U6] at hl
    refine⟨by rw[Q2];exact hl,λj v k h1 h2=>?_⟩
    refine hf j v k h1 ?_
    rw[X6] at h2 ⊢
    by_cases hj:i=j
    ·subst hj
     rw[A0q hil]
     rw[hco] at h2
     exact h2
    ·rw[P3 hj];exact h2
   ·have k4:c.k=4:=by omega
    rw[if_neg k3,e] at hl hf
    rw[if_pos k4]
    dsimp only at hl hf
    rw[U6] at hl
    refine⟨by rw[Q2,U6];exact hl,λj v k h1 h2=>?_⟩
    rw[X6] at h2
    by_cases hj:i=j
    ·subst hj
     rw[A0q (by omega)] at h1
     cases h1
     rw[hco] at h2
     cases h2
     have hck:j5 t (i:Int)=co.k:=by unfold j5;rw[G7,hco]
     rw[hck]
     exact D2E _ _
    ·rw[P3 hj] at h1
     refine hf j v k h1 ?_
     rw[X6,P3 hj];exact h2
theorem D4K{t u:Tb}(h:nf t=nf u)(c:Ch)(row:List Vl):Z7 t c row=Z7 u c row:=by
 have e:t.cs=u.cs:=by unfold nf at h;injection h
 unfold Z7
 rw[e]
theorem D2O{t u:Tb}(h:nf t=nf u)(c:Ch)(row:List Vl):Y5 t c row=Y5 u c row:=by
 have e:t.cs=u.cs:=by unfold nf at h;injection h
 unfold Y5 j5
 rw[e]
theorem C2b(v:Vl)(hs:v.s.length<=1048576):(A0k v).length<=4194304:=by
 unfold A0k
 split
 ·simp
 ·rename_i hv
  split
  ·rename_i hk
   have h:=B2r (by simpa using hv) hk
   have:=Lib.itoa_length_le v.n (by omega) (by omega)
   omega
  ·split
   ·have:=A8U v.s
    simp only[J0,H7,P9];omega
   ·split
    ·split<;>simp
    ·simp
theorem A8n(l:List Vl)(i:Nat)(v:Vl):(B1 l).set i v.ds=B1 (l.set i v):=by simp[B1]
theorem A2W(a b:List Vl):B1 a++B1 b=B1 (a++b):=by simp[B1]
theorem A4C(l:List Vl)(i:Nat):(B1 l).take i=B1 (l.take i):=by simp[B1]
theorem A8m(l:List Vl)(i:Nat):(B1 l).drop i=B1 (l.drop i):=by simp[B1]
theorem C3C(v:Vl)(hs:v.s.length<=1048576):Pure Tryz.prog B0r [eV v] (eV (txV v)):=by
 have hL:=C4U v hs
 have hT:=C4W (A0k v) (O4 (C2b v hs) (by omega))
 obtain⟨q,hq⟩:∃q,q=txV v:=⟨_,rfl⟩
 rw[<- hq]
 unfold txV at hq
 obtain⟨l,hl⟩:∃l,l=A0k v:=⟨_,rfl⟩
 rw[<- hl] at hL hT hq
 clear hl
 obtain⟨k,n,s⟩:=v
 dsimp only at hq
 by_cases h0:k=0
 ·rw[if_pos h0] at hq
  subst hq
  refine B3t.go A4 rfl ?_
  repeat' first|refine st ?_|refine⟨λ_=>?_,λ_=>?_⟩|fail
  all_goals rfl
 ·rw[if_neg h0] at hq
  rw[<- hq] at hT
  clear hq
  refine B3t.go A4 rfl ?_
  repeat' first|refine st ?_|refine⟨λ_=>?_,λ_=>?_⟩|fail
  all_goals rfl
theorem C3O(s:St)(h:s.x.ok)(hq:C7 s.x.t s.c=0)(row:List Vl)(hf:I4 row (kd s.x.t.cs)=true):Pure Tryz.prog B7D [s.av,.d (.sl (B1 row))] (.d (.sl (B1 (Z7 s.x.t s.c row)))):=by
 have hP:=B2O s h
 obtain⟨q1,q2,q3,q4,q5⟩:=p8 hq
 have hv:=V3.1 q1
 obtain⟨hl,hb⟩:=A0D hf
 rw[Q2] at hl
 have hl1:1<=row.length/\row.length<=12:=by have:=hv.l1;have:=hv.l2;omega
 have he:=U9 row
 have hm:=x4 row
 obtain⟨q,hqq⟩:∃q,q=Z7 s.x.t s.c row:=⟨_,rfl⟩
 rw[<- hqq]
 unfold Z7 at hqq
 unfold plI at hP
 by_cases k1:s.c.k=1
 ·rw[if_pos k1] at hqq hP
  have hT:=B38 (.sl (B1 row)) (.sl [s.c.df.ds]) (B1 row) [s.c.df.ds] J7 J7 hm (λe he=>by cases i7.1 he;rfl) (by simp only[A3r];omega)
  have hj:jn (B1 row++[s.c.df.ds])=.sl (B1 q):=by
   have e:B1 row++[s.c.df.ds]=B1 q:=by rw[hqq,<- A2W];rfl
   rw[e]
   unfold jn B5
   rw[decide_eq_false,if_neg (by decide)]
   rw[U9,hqq];simp
  rw[hj] at hT
  clear hj hqq hf hb hq q1 q3 q4 q5 hv h
  obtain⟨⟨⟨nm,cs,ks,fs,xs⟩,dc,dk,df,dx⟩,y,⟨ck,cnm,to,⟨cn,cck,cl⟩,⟨vk,vn,vs⟩⟩⟩:=s
  dsimp only at k1
  subst k1
  refine A7D.go A4 rfl ?_
  repeat' first|refine st ?_|refine⟨λ_=>?_,λ_=>?_⟩|fail
  all_goals rfl
 ·obtain⟨i,co,hi,hco,hcn,hus,h4,h3⟩:=A08 (q5 k1)
  have hil:=(A7.1 hco).1
  rw[if_neg k1,hi,G7] at hqq
  rw[if_neg k1,hi] at hP
  by_cases k2:s.c.k=2
  ·rw[if_pos k2] at hqq
   obtain⟨d1,hd1⟩:∃z,z=((B1 row).drop (0:Int).toNat).take (((i:Nat):Int).toNat-(0:Int).toNat):=⟨_,rfl⟩
   obtain⟨d2,hd2⟩:∃z,z=((B1 row).drop (((i:Nat):Int)+1).toNat).take (((B1 row).length:Int).toNat-(((i:Nat):Int)+1).toNat):=⟨_,rfl⟩
   have e1:d1=B1 (row.take i):=by rw[hd1];simp[A4C]
   have e2:d2=B1 (row.drop (i+1)):=by
    rw[hd2,show(((i:Nat):Int)+1).toNat=i+1 by omega,G7,J5 (by rw[U5];exact G8 _),A8m]
   have hT:=B38 (.sl d1) (.sl d2) d1 d2 J7 J7 (by rw[e1];exact x4 _) (by rw[e2];exact x4 _) (by rw[e1,e2,U9,U9,J1,U5];omega)
   have hj:jn (d1++d2)=.sl (B1 q):=by
    have e:d1++d2=B1 q:=by rw[e1,e2,hqq,A2W,<- List.eraseIdx_eq_take_drop_succ]
    rw[e]
    unfold jn B5
    rw[decide_eq_false,if_neg (by decide)]
    rw[U9,hqq,A1s,if_pos (by omega)]
    intro e0
    have hvT:=(A4E hq).l1
    unfold D7 at hvT
    rw[if_neg k1,if_pos k2] at hvT
    dsimp only at hvT
    rw[hi,G7,A1s,if_pos hil] at hvT
    omega
   rw[hj,hd1,hd2] at hT
   clear hj hqq hf hb hq q1 q3 q4 q5 hv h e1 e2 hd1 hd2
   obtain⟨⟨⟨nm,cs,ks,fs,xs⟩,dc,dk,df,dx⟩,y,⟨ck,cnm,to,⟨cn,cck,cl⟩,⟨vk,vn,vs⟩⟩⟩:=s
   dsimp only at k2 hl hil
   subst k2
   refine A7D.go A4 rfl ?_
   repeat' first|refine st ?_|refine⟨λ_=>?_,λ_=>?_⟩|fail
   all_goals rfl
  ·rw[if_neg k2] at hqq
   by_cases k4:s.c.k=4
   ·rw[if_pos k4] at hqq
    obtain⟨v,hw⟩:∃v,row[i]?=some v:=⟨_,C3 (by omega)⟩
    have hgd:row.getD i F4=v:=by rw[E8,hw];rfl
    rw[hgd] at hqq
    have hX:=C3K B0r (B1 row) (by omega) hm i v (txV v) (A3K hw) (C3C v (by have:=hb v (B9 hw);omega))
    rw[A8n,<- hqq] at hX
    clear hqq hf hb hq q1 q3 q4 q5 hv h hgd
    obtain⟨⟨⟨nm,cs,ks,fs,xs⟩,dc,dk,df,dx⟩,y,⟨ck,cnm,to,⟨cn,cck,cl⟩,⟨vk,vn,vs⟩⟩⟩:=s
    dsimp only at k4
    subst k4
    refine A7D.go A4 rfl ?_
    repeat' first|refine st ?_|refine⟨λ_=>?_,λ_=>?_⟩|fail
    all_goals rfl
   ·rw[if_neg k4] at hqq
    subst hqq
    have hC:=A7l (B1 q) (by omega) hm (.sl (B1 q)) (.inr rfl)
    clear hf hb hq q1 q3 q4 q5 hv h
    obtain⟨⟨⟨nm,cs,ks,fs,xs⟩,dc,dk,df,dx⟩,y,⟨ck,cnm,to,⟨cn,cck,cl⟩,⟨vk,vn,vs⟩⟩⟩:=s
    dsimp only at k1 k2 k4
    refine A7D.go A4 rfl ?_
    repeat' first|refine st ?_|refine⟨λ_=>?_,λ_=>?_⟩|fail
    all_goals rfl
theorem C3L(f:FuncId)(o0 o1:List AV)(l:List (List D))(hl:l.length<=1048577)(hm:∀e∈l,e.length=3)(i:Nat)(v w:Vl)(hv:l[i]?=some v.ds)
  (hf:B0 Tryz.prog f [eV v,.ptr 0 0,.ptr 1 0] [.cells o0,.cells o1,.arr l 3 0 false] (λr os=>r=eV w/\os=[.cells o0,.cells o1,.arr l 3 0 false])) :
  B0 Tryz.prog B0p [.d (.sl l),.d (eI i),.clo f [0,1]] [.cells o0,.cells o1] (λr os=>r=.arr 2 l.length/\os=[.cells o0,.cells o1,.arr (l.set i w.ds) 3 0 false]):=by
 have hC:=A9x l hl hm (.sl l) (.inr rfl)
 have hlt:=(A7.1 hv).1
 refine B3s.goO A4 rfl ?_
 repeat' first|refine st ?_|((with_reducible first|apply I5|apply I8);(·first|exact hC|exact hf);(try rintro _ _ ⟨rfl,rfl⟩))|((with_reducible apply I9);(·first|exact hC|exact hf))|refine⟨λ_=>?_,λ_=>?_⟩|fail
 all_goals exact⟨by first|rfl|simp,rfl⟩
theorem C35(s:St)(h:s.x.ok)(hq:H9 s.x.t=0)(i:Nat)(co:Co)(hco:s.x.t.cs[i]?=some co)(l:List (List D))(v:Vl)(hs:v.s.length<=1048576) :
  B0 Tryz.prog B0q [eV v,.ptr 0 0,.ptr 1 0] [.cells [.d (.str s.x.t.nm),.d s.x.dc,.d s.x.dk,.d s.x.df,.d s.x.dx,.d (.str s.y.t.nm),.d s.y.dc,.d s.y.dk,.d s.y.df,.d s.y.dx,.d (eI s.c.k),.d (.str s.c.nm),.d (.str s.c.to),.d (.str s.c.co.nm),.d (eI s.c.co.k),.d (.bool s.c.co.nl),.d (eI s.c.df.k),.d (eI s.c.df.n),.d (.str s.c.df.s)],.cells [.d (eI i)],.arr l 3 0 false]
   (λr os=>r=eV (bkV co.k v)/\os=[.cells [.d (.str s.x.t.nm),.d s.x.dc,.d s.x.dk,.d s.x.df,.d s.x.dx,.d (.str s.y.t.nm),.d s.y.dc,.d s.y.dk,.d s.y.df,.d s.y.dx,.d (eI s.c.k),.d (.str s.c.nm),.d (.str s.c.to),.d (.str s.c.co.nm),.d (eI s.c.co.k),.d (.bool s.c.co.nl),.d (eI s.c.df.k),.d (eI s.c.df.n),.d (.str s.c.df.s)],.cells [.d (eI i)],.arr l 3 0 false]):=by
 have hP:=C4V v.s hs
 have hN:=A4a
 have hv:=V3.1 hq
 have hdc:=B16 h.tok hv
 have hcl:=F3 s.x.t.cs
 have hil:=(A7.1 hco).1
 have hg:(A9 s.x.t.cs)[((i:Nat):Int).toNat]?=some co.ds:=L4 hco
 have hb:(A9 s.x.t.cs).length<=12:=by have:=hv.l2;omega
 obtain⟨q,hqq⟩:∃q,q=bkV co.k v:=⟨_,rfl⟩
 rw[<- hqq]
 unfold bkV at hqq
 obtain⟨⟨⟨wk,wn,ws⟩,e⟩,hw⟩:∃z,z=e9 v.s:=⟨_,rfl⟩
 rw[<- hw] at hP hqq
 dsimp only at hP hqq
 rw[hdc]
 obtain⟨Cs,hCs⟩:∃z,z=A9 s.x.t.cs:=⟨_,rfl⟩
 have hmC:=H8 s.x.t.cs
 rw[<- hCs] at hcl hg hb hmC ⊢
 clear hw hCs hq hv hco h hdc
 obtain⟨k,n,t⟩:=v
 obtain⟨⟨⟨nm,cs,ks,fs,xs⟩,dc,dk,df,dx⟩,y,⟨ck,cnm,to,⟨cn,cck,cl⟩,⟨vk,vn,vs⟩⟩⟩:=s
 obtain⟨con,cok,conl⟩:=co
 dsimp only at hqq hcl hil
 have hil2:(i:Int)<Cs.length:=by omega
 by_cases g1:e=0
 rotate_left
 ·rw[if_pos (.inl g1)] at hqq
  subst hqq
  refine A7C.goX A4 rfl ?_
  repeat' first|refine st ?_|refine⟨λ_=>?_,λ_=>?_⟩|fail
  all_goals exact⟨rfl,rfl⟩
 subst g1
 by_cases g2:k=2
 rotate_left
 ·rw[if_pos (.inr (.inl g2))] at hqq
  subst hqq
  refine A7C.goX A4 rfl ?_
  repeat' first|refine st ?_|refine⟨λ_=>?_,λ_=>?_⟩|fail
  all_goals exact⟨rfl,rfl⟩
 subst g2
 by_cases g3:wk=cok
 ·rw[if_neg (by simp[g3])] at hqq
  subst hqq
  refine A7C.goX A4 rfl ?_
  repeat' first|refine st ?_|refine⟨λ_=>?_,λ_=>?_⟩|fail
  all_goals exact⟨rfl,rfl⟩
 ·rw[if_pos (.inr (.inr g3))] at hqq
  subst hqq
  refine A7C.goX A4 rfl ?_
  repeat' first|refine st ?_|refine⟨λ_=>?_,λ_=>?_⟩|fail
  all_goals exact⟨rfl,rfl⟩
theorem C3N(s:St)(h:s.x.ok)(hq:C7 s.x.t s.c=0)(row:List Vl)(hf:I4 row (kd (D7 s.x.t s.c).cs)=true):Pure Tryz.prog B7C [s.av,.d (.sl (B1 row))] (.d (.sl (B1 (Y5 s.x.t s.c row)))):=by
 have hP:=B2O s h
 obtain⟨q1,q2,q3,q4,q5⟩:=p8 hq
 have hv:=V3.1 q1
 have hvT:=A4E hq
 obtain⟨hl,hb⟩:=A0D hf
 rw[Q2] at hl
 have hl1:1<=row.length/\row.length<=12:=by have:=hvT.l1;have:=hvT.l2;omega
 have he:=U9 row
 have hm:=x4 row
 obtain⟨q,hqq⟩:∃q,q=Y5 s.x.t s.c row:=⟨_,rfl⟩
 rw[<- hqq]
 unfold Y5 at hqq
 unfold plI at hP
 unfold D7 at hl
 by_cases k1:s.c.k=1
 ·rw[if_pos k1] at hqq hP hl
  dsimp only at hl
  rw[J0,A3r] at hl
  obtain⟨n,hn⟩:∃n,n=s.x.t.cs.length:=⟨_,rfl⟩
  rw[<- hn] at hqq hP hl
  obtain⟨d1,hd1⟩:∃z,z=((B1 row).drop (0:Int).toNat).take (((n:Nat):Int).toNat-(0:Int).toNat):=⟨_,rfl⟩
  have e1:d1=B1 q:=by rw[hd1,hqq];simp[A4C]
  have hC:=A7l d1 (by rw[e1,hqq,U9,J1];omega) (by rw[e1];exact x4 _) (.sl d1) (.inr rfl)
  rw[<- e1]
  rw[hd1] at hC ⊢
  clear hqq hf hb hq q1 q3 q4 q5 hv h e1 hd1 hvT
  obtain⟨⟨⟨nm,cs,ks,fs,xs⟩,dc,dk,df,dx⟩,y,⟨ck,cnm,to,⟨cn,cck,cl⟩,⟨vk,vn,vs⟩⟩⟩:=s
  dsimp only at k1
  subst k1
  refine A7B.go A4 rfl ?_
  repeat' first|refine st ?_|refine⟨λ_=>?_,λ_=>?_⟩|fail
  all_goals rfl
 ·obtain⟨i,co,hi,hco,hcn,hus,h4,h3⟩:=A08 (q5 k1)
  have hil:=(A7.1 hco).1
  rw[if_neg k1,hi,G7] at hqq
  rw[if_neg k1,hi] at hP
  rw[if_neg k1,hi,G7] at hl
  by_cases k2:s.c.k=2
  ·rw[if_pos k2] at hqq hl
   dsimp only at hl
   rw[A1s,if_pos hil] at hl
   obtain⟨d1,hd1⟩:∃z,z=((B1 row).drop (0:Int).toNat).take (((i:Nat):Int).toNat-(0:Int).toNat):=⟨_,rfl⟩
   obtain⟨d2,hd2⟩:∃z,z=((B1 row).drop (((i:Nat):Int)).toNat).take (((B1 row).length:Int).toNat-(((i:Nat):Int)).toNat):=⟨_,rfl⟩
   have e1:d1=B1 (row.take i):=by rw[hd1];simp[A4C]
   have e2:d2=B1 (row.drop i):=by
    rw[hd2,G7,G7,J5 (by rw[U5];exact G8 _),A8m]
   have hT:=C3f (.sl d1) (.sl [F4.ds]) (.sl d2) d1 [F4.ds] d2 J7 J7 J7 (by rw[e1];exact x4 _) (λe he=>by cases i7.1 he;rfl) (by rw[e2];exact x4 _) (by rw[e1,e2,U9,U9,J1,U5,A3r];omega)
   have hj:jn (d1++[F4.ds]++d2)=.sl (B1 q):=by
    have e:d1++[F4.ds]++d2=B1 q:=by
     rw[e1,e2,hqq,show row.take i++F4::row.drop i=row.take i++[F4]++row.drop i by simp,<- A2W,<- A2W];rfl
    rw[e]
    unfold jn B5
    rw[decide_eq_false,if_neg (by decide)]
    rw[U9,hqq];simp
   rw[hj,hd1,hd2] at hT
   have hN:=A4a
   clear hj hqq hf hb hq q1 q3 q4 q5 hv h e1 e2 hd1 hd2 hvT
   obtain⟨⟨⟨nm,cs,ks,fs,xs⟩,dc,dk,df,dx⟩,y,⟨ck,cnm,to,⟨cn,cck,cl⟩,⟨vk,vn,vs⟩⟩⟩:=s
   dsimp only at k2 hl hil
   subst k2
   refine A7B.go A4 rfl ?_
   repeat' first|refine st ?_|refine⟨λ_=>?_,λ_=>?_⟩|fail
   all_goals rfl
  ·rw[if_neg k2] at hqq hl
   have hl:row.length=s.x.t.cs.length:=by
    rw[hl];split<;>simp
   by_cases k4:s.c.k=4
   ·rw[if_pos k4] at hqq
    obtain⟨v,hw⟩:∃v,row[i]?=some v:=⟨_,C3 (by omega)⟩
    have hgd:row.getD i F4=v:=by rw[E8,hw];rfl
    have hck:j5 s.x.t (i:Int)=co.k:=by unfold j5;rw[G7,hco]
    rw[hgd,hck] at hqq
    have hc1:=C35 s h q1 i co hco (B1 row) v (by have:=hb v (B9 hw);omega)
    have hX:=C3L B0q _ _ (B1 row) (by omega) hm i v (bkV co.k v) (A3K hw) hc1
    rw[A8n,<- hqq] at hX
    have hql:(B1 q).length=(B1 row).length:=by rw[hqq,U9,U9,U6]
    clear hqq hf hb hq q1 q3 q4 q5 hv h hgd hc1 hvT
    obtain⟨⟨⟨nm,cs,ks,fs,xs⟩,dc,dk,df,dx⟩,y,⟨ck,cnm,to,⟨cn,cck,cl⟩,⟨vk,vn,vs⟩⟩⟩:=s
    dsimp only at k4
    subst k4
    refine A7B.go A4 rfl ?_
    repeat' first|refine st ?_|((with_reducible first|apply I5|apply I8);(·exact hX);(try rintro _ _ ⟨rfl,rfl⟩))|((with_reducible apply I9);(·exact hX))|refine⟨λ_=>?_,λ_=>?_⟩|fail
    all_goals first|rfl|exact⟨hql,rfl⟩
   ·rw[if_neg k4] at hqq
    subst hqq
    have hC:=A7l (B1 q) (by omega) hm (.sl (B1 q)) (.inr rfl)
    clear hf hb hq q1 q3 q4 q5 hv h hvT
    obtain⟨⟨⟨nm,cs,ks,fs,xs⟩,dc,dk,df,dx⟩,y,⟨ck,cnm,to,⟨cn,cck,cl⟩,⟨vk,vn,vs⟩⟩⟩:=s
    dsimp only at k1 k2 k4
    refine A7B.go A4 rfl ?_
    repeat' first|refine st ?_|refine⟨λ_=>?_,λ_=>?_⟩|fail
    all_goals rfl
def fwD(t:Tb)(c:Ch)(row:List Vl):D:=if C7 t c=0/\I4 row (kd t.cs)=true then .sl (B1 (Z7 t c row)) else .nil
def bwD(t:Tb)(c:Ch)(row:List Vl):D:=if C7 t c=0/\I4 row (kd (D7 t c).cs)=true then .sl (B1 (Y5 t c row)) else .nil
theorem A94{dr:D}{row:List Vl}(h:B3 dr (B1 row))(h1:1<=row.length):dr=.sl (B1 row):=by
 rcases h with ⟨_,h⟩|h
 ·rw[<- U9,h] at h1;cases h1
 ·exact h
theorem D7y{x:TD}{c:Ch}(hq:C7 x.t c=0):(x.to c).t=D7 x.t c:=by unfold TD.to;rw[if_pos hq];rfl
theorem C4f(x:TD)(h:x.ok)(c:Ch)(hc:H6 c)(row:List Vl)(hr:row.length<=1048576)(hrs:∀v∈row,v.s.length<=1048576)(dr:D)(hdr:B3 dr (B1 row)) :
  Pure Tryz.prog B73 [x.av,c.av,.d dr] (.d (fwD x.t c row)):=by
 have hN:=A7p x.t x.dc x.dk x.df x.dx h.tok c hc
 have hK:=A5h x.t.nm x.t.cs h.tok.hl x.dc x.dk x.df x.dx h.tok.dc
 have hF:=A7t row (kd x.t.cs) hr (by rw[Q2];exact h.tok.hl) hrs dr hdr _ (.inr rfl)
 have hI:=A3j x.t.nm x.t.cs h.tok.hl x.dc x.dk x.df x.dx h.tok.dc c.nm
 obtain⟨R,hR⟩:∃R,R=fwD x.t c row:=⟨_,rfl⟩
 rw[<- hR]
 unfold fwD at hR
 by_cases hq:C7 x.t c=0
 rotate_left
 ·rw[if_neg (λe=>hq e.1)] at hR
  subst hR
  obtain⟨e,he⟩:∃e,e=C7 x.t c:=⟨_,rfl⟩
  rw[<- he] at hN hq
  clear he h hK hF
  obtain⟨⟨nm,cs,ks,fs,xs⟩,dc,dk,df,dx⟩:=x
  obtain⟨ck,cnm,to,⟨cn,cck,cl⟩,⟨vk,vn,vs⟩⟩:=c
  refine A3l.go A4 rfl ?_
  repeat' first|refine st ?_|refine⟨λ_=>?_,λ_=>?_⟩|fail
  all_goals rfl
 rw[hq] at hN
 cases hf:I4 row (kd x.t.cs) with
 |false=>
  rw[hf] at hF hR
  rw[if_neg (λe=>by cases e.2)] at hR
  subst hR
  clear hq h hf
  obtain⟨⟨nm,cs,ks,fs,xs⟩,dc,dk,df,dx⟩:=x
  obtain⟨ck,cnm,to,⟨cn,cck,cl⟩,⟨vk,vn,vs⟩⟩:=c
  dsimp only at hK hF hN
  refine A3l.go A4 rfl ?_
  repeat' first|refine st ?_|refine⟨λ_=>?_,λ_=>?_⟩|fail
  all_goals rfl
 |true=>
  obtain⟨hl,hb⟩:=A0D hf
  obtain⟨q1,q2,q3,q4,q5⟩:=p8 hq
  have hv:=(V3.1 q1).l1
  have hv2:=(V3.1 q1).l2
  rw[Q2] at hl
  have hd:=A94 hdr (by omega)
  subst hd
  have he:=U9 row
  have hm:=x4 row
  rw[hf] at hF hR
  rw[if_pos ⟨hq,rfl⟩] at hR
  unfold Z7 at hR
  have hl1:row.length<=12:=by omega
  have hn0:(([]:List (List D))++B1 row).length=(B1 row).length:=rfl
  have hbb:∀b:Bool,(bif b then false else false)=false:=λb=>by cases b<;>rfl
  by_cases k1:c.k=1
  ·rw[if_pos k1,<- A2W] at hR
   clear hq h hf q4 q5 hb
   obtain⟨⟨nm,cs,ks,fs,xs⟩,dc,dk,df,dx⟩:=x
   obtain⟨ck,cnm,to,⟨cn,cck,cl⟩,⟨vk,vn,vs⟩⟩:=c
   dsimp only at hK hF hN k1
   subst k1
   subst hR
   refine A3l.go A4 rfl ?_
   repeat' first|refine st ?_|refine⟨λ_=>?_,λ_=>?_⟩|fail
   all_goals first|rfl|(simp only[hbb];rfl)
  obtain⟨i,co,hi,hco,hcn,hus,h4,h3⟩:=A08 (q5 k1)
  have hil:=(A7.1 hco).1
  rw[if_neg k1,hi,G7] at hR
  rw[hi] at hI
  by_cases k2:c.k=2
  ·rw[if_pos k2] at hR
   have ee:(List.take (((i:Nat):Int).toNat-(0:Int).toNat) (List.drop (0:Int).toNat (B1 row)))++List.take (((B1 row).length:Int).toNat-(((i:Nat):Int)+1).toNat) (List.drop (((i:Nat):Int)+1).toNat (B1 row))=B1 (row.eraseIdx i):=by
    rw[show(((i:Nat):Int)+1).toNat=i+1 by omega,G7,G7,J5 (l:=List.drop (i+1) (B1 row)) (by rw[U5];exact G8 _)]
    show List.take i (B1 row)++_=_
    rw[A4C,A8m,A2W,<- List.eraseIdx_eq_take_drop_succ]
   rw[<- ee] at hR
   have hls:(List.take (((i:Nat):Int).toNat-(0:Int).toNat) (List.drop (0:Int).toNat (B1 row))).length=i:=by
    show(List.take i (B1 row)).length=i
    rw[J1];omega
   have hls2:(List.take (((B1 row).length:Int).toNat-(((i:Nat):Int)+1).toNat) (List.drop (((i:Nat):Int)+1).toNat (B1 row))).length<=12:=by
    have:=List.length_take_le (((B1 row).length:Int).toNat-(((i:Nat):Int)+1).toNat) (List.drop (((i:Nat):Int)+1).toNat (B1 row))
    omega
   have hmA:∀e∈(List.take (((i:Nat):Int).toNat-(0:Int).toNat) (List.drop (0:Int).toNat (B1 row))),e.length=3:=λe h=>hm e (A2b (Z1 h))
   have hmB:∀e∈(List.take (((B1 row).length:Int).toNat-(((i:Nat):Int)+1).toNat) (List.drop (((i:Nat):Int)+1).toNat (B1 row))),e.length=3:=λe h=>hm e (A2b (Z1 h))
   have hb1:(([]:List (List D)).length+(List.take (((i:Nat):Int).toNat-(0:Int).toNat) (List.drop (0:Int).toNat (B1 row))).length)*32<=140737488355328/\([]:List (List D)).length+(List.take (((i:Nat):Int).toNat-(0:Int).toNat) (List.drop (0:Int).toNat (B1 row))).length<=9223372036854775807:=by rw[hls];simp only[P9];omega
   have hb2:(([]:List (List D))++(List.take (((i:Nat):Int).toNat-(0:Int).toNat) (List.drop (0:Int).toNat (B1 row)))).length=i:=hls
   have hb3:((([]:List (List D))++(List.take (((i:Nat):Int).toNat-(0:Int).toNat) (List.drop (0:Int).toNat (B1 row)))).length+(List.take (((B1 row).length:Int).toNat-(((i:Nat):Int)+1).toNat) (List.drop (((i:Nat):Int)+1).toNat (B1 row))).length)*32<=140737488355328/\(([]:List (List D))++(List.take (((i:Nat):Int).toNat-(0:Int).toNat) (List.drop (0:Int).toNat (B1 row)))).length+(List.take (((B1 row).length:Int).toNat-(((i:Nat):Int)+1).toNat) (List.drop (((i:Nat):Int)+1).toNat (B1 row))).length<=9223372036854775807:=by rw[hb2];omega
   clear hq h hf q4 q5 hb ee hco h4 h3 hus
   obtain⟨⟨nm,cs,ks,fs,xs⟩,dc,dk,df,dx⟩:=x
   obtain⟨ck,cnm,to,⟨cn,cck,cl⟩,⟨vk,vn,vs⟩⟩:=c
   dsimp only at hK hF hN k2 hil hl
   subst k2
   subst hR
   refine A3l.go A4 rfl ?_
   repeat' first|refine st ?_|refine⟨λ_=>?_,λ_=>?_⟩|fail
   all_goals first|rfl|(simp only[hbb];rfl)
  rw[if_neg k2] at hR
  by_cases k4:c.k=4
  ·rw[if_pos k4] at hR
   obtain⟨v,hw⟩:∃v,row[i]?=some v:=⟨_,C3 (by omega)⟩
   have hgd:row.getD i F4=v:=by rw[E8,hw];rfl
   have hvs:=hb v (B9 hw)
   rw[hgd] at hR
   have hg:(B1 row)[((i:Nat):Int).toNat]?=some v.ds:=A3K hw
   have hLi:=C4q v (by omega)
   have hTe:=B31 (A0k v) (O4 (C2b v (by omega)) (by omega))
   have hset:v.k=0->row.set i v=row:=λ_=>by
    refine A3o λj=>?_
    by_cases hj:i=j
    ·subst hj;rw[A0q (by omega),hw]
    ·rw[P3 hj]
   unfold txV at hR
   obtain⟨l,hll⟩:∃l,l=A0k v:=⟨_,rfl⟩
   rw[<- hll] at hLi hTe hR
   clear hll
   by_cases hk0:v.k=0
   ·rw[if_pos hk0,hset hk0] at hR
    clear hset hq h hf q4 q5 hb hco h4 h3 hus hgd hw
    obtain⟨⟨nm,cs,ks,fs,xs⟩,dc,dk,df,dx⟩:=x
    obtain⟨ck,cnm,to,⟨cn,cck,cl⟩,⟨vk,vn,vs⟩⟩:=c
    obtain⟨wk,wn,ws⟩:=v
    dsimp only at hK hF hN k4 hil hl hk0
    subst k4
    subst hR
    subst hk0
    refine A3l.go A4 rfl ?_
    repeat' first|refine st ?_|refine⟨λ_=>?_,λ_=>?_⟩|fail
    all_goals first|rfl|(simp only[hbb];rfl)
   ·rw[if_neg hk0] at hR
    obtain⟨w,hww⟩:∃w,w=A55 l:=⟨_,rfl⟩
    rw[<- hww] at hTe hR
    rw[<- A8n] at hR
    clear hset hq h hf q4 q5 hb hco h4 h3 hus hgd hw hww
    obtain⟨⟨nm,cs,ks,fs,xs⟩,dc,dk,df,dx⟩:=x
    obtain⟨ck,cnm,to,⟨cn,cck,cl⟩,⟨vk,vn,vs⟩⟩:=c
    obtain⟨wk,wn,ws⟩:=v
    dsimp only at hK hF hN k4 hil hl hk0
    subst k4
    subst hR
    refine A3l.go A4 rfl ?_
    repeat' first|refine st ?_|refine⟨λ_=>?_,λ_=>?_⟩|fail
    all_goals first|rfl|(simp only[hbb];rfl)
  ·rw[if_neg k4] at hR
   clear hq h hf q4 q5 hb hco h4 h3 hus
   obtain⟨⟨nm,cs,ks,fs,xs⟩,dc,dk,df,dx⟩:=x
   obtain⟨ck,cnm,to,⟨cn,cck,cl⟩,⟨vk,vn,vs⟩⟩:=c
   dsimp only at hK hF hN k1 k2 k4 hil hl
   subst hR
   refine A3l.go A4 rfl ?_
   repeat' first|refine st ?_|refine⟨λ_=>?_,λ_=>?_⟩|fail
   all_goals first|rfl|(simp only[hbb];rfl)
theorem D4n{x:TD}{c:Ch}(hk:1<=c.k/\c.k<=4):(x.evoR c).t.cs=(D7 x.t c).cs:=by
 have h:=C0L (x:=x) hk
 unfold nf at h
 injection h
theorem C4d(x:TD)(h:x.ok)(c:Ch)(hc:H6 c)(row:List Vl)(hr:row.length<=1048576)(hrs:∀v∈row,v.s.length<=1048576)(dr:D)(hdr:B3 dr (B1 row)) :
  Pure Tryz.prog B71 [x.av,c.av,.d dr] (.d (bwD x.t c row)):=by
 have hI:=A3j x.t.nm x.t.cs h.tok.hl x.dc x.dk x.df x.dx h.tok.dc c.nm
 obtain⟨R,hR⟩:∃R,R=bwD x.t c row:=⟨_,rfl⟩
 rw[<- hR]
 unfold bwD at hR
 by_cases hq:C7 x.t c=0
 rotate_left
 ·have hA:=C1l x h c hc hq
  rw[if_neg (λe=>hq e.1)] at hR
  subst hR
  obtain⟨e,he⟩:∃e,e=C7 x.t c:=⟨_,rfl⟩
  rw[<- he] at hA hq
  clear he h
  obtain⟨⟨nm,cs,ks,fs,xs⟩,dc,dk,df,dx⟩:=x
  obtain⟨ck,cnm,to,⟨cn,cck,cl⟩,⟨vk,vn,vs⟩⟩:=c
  refine A4c.go A4 rfl ?_
  repeat' first|refine st ?_|refine⟨λ_=>?_,λ_=>?_⟩|fail
  all_goals rfl
 have hA:=B2V x h c hc hq
 have hok:=TD.evoR_ok h hc hq
 obtain⟨q1,q2,q3,q4,q5⟩:=p8 hq
 have hK:=A5h (x.evoR c).t.nm (x.evoR c).t.cs hok.tok.hl (x.evoR c).dc (x.evoR c).dk (x.evoR c).df (x.evoR c).dx hok.tok.dc
 have hF:=A7t row (kd (x.evoR c).t.cs) hr (by rw[Q2];exact hok.tok.hl) hrs dr hdr _ (.inr rfl)
 have hcs:=D4n (x:=x) q2
 obtain⟨y,hy⟩:∃y,y=x.evoR c:=⟨_,rfl⟩
 rw[<- hy] at hA hK hF hcs
 rw[<- hcs] at hR
 clear hy hok
 cases hf:I4 row (kd y.t.cs) with
 |false=>
  rw[hf] at hF hR
  rw[if_neg (λe=>by cases e.2)] at hR
  subst hR
  clear hq h hf q4 q5 hcs
  obtain⟨⟨nm,cs,ks,fs,xs⟩,dc,dk,df,dx⟩:=x
  obtain⟨ck,cnm,to,⟨cn,cck,cl⟩,⟨vk,vn,vs⟩⟩:=c
  refine A4c.go A4 rfl ?_
  repeat' first|refine st ?_|refine⟨λ_=>?_,λ_=>?_⟩|fail
  all_goals rfl
 |true=>
  obtain⟨hl,hb⟩:=A0D hf
  have hv:=(A4E hq).l1
  have hv2:=(A4E hq).l2
  have hvd:=V3.1 q1
  have hdc:=B16 h.tok hvd
  rw[Q2,hcs] at hl
  have hl1:1<=row.length/\row.length<=12:=by omega
  have hd:=A94 hdr hl1.1
  subst hd
  have he:=U9 row
  have hm:=x4 row
  rw[hf] at hF hR
  rw[if_pos ⟨hq,rfl⟩] at hR
  unfold Y5 at hR
  have hn0:(([]:List (List D))++B1 row).length=(B1 row).length:=rfl
  have hbb:∀b:Bool,(bif b then false else false)=false:=λb=>by cases b<;>rfl
  have hcl:=F3 x.t.cs
  have hmC:=H8 x.t.cs
  have hcb:(A9 x.t.cs).length<=12:=by have:=hvd.l2;omega
  unfold D7 at hl
  by_cases k1:c.k=1
  ·rw[if_pos k1] at hR hl
   dsimp only at hl
   rw[J0,A3r] at hl
   have ee:(List.take ((((B1 row).length:Int)-1).toNat-(0:Int).toNat) (List.drop (0:Int).toNat (B1 row)))=B1 (row.take x.t.cs.length):=by
    rw[show(((B1 row).length:Int)-1).toNat=x.t.cs.length by omega]
    show List.take _ (B1 row)=_
    rw[A4C];rfl
   have hmA:∀e∈(List.take ((((B1 row).length:Int)-1).toNat-(0:Int).toNat) (List.drop (0:Int).toNat (B1 row))),e.length=3:=λe h=>hm e (A2b (Z1 h))
   have hlA:((List.take ((((B1 row).length:Int)-1).toNat-(0:Int).toNat) (List.drop (0:Int).toNat (B1 row)))).length<=12:=by rw[ee,U9,J1];omega
   have hb1:(([]:List (List D)).length+((List.take ((((B1 row).length:Int)-1).toNat-(0:Int).toNat) (List.drop (0:Int).toNat (B1 row)))).length)*32<=140737488355328/\([]:List (List D)).length+((List.take ((((B1 row).length:Int)-1).toNat-(0:Int).toNat) (List.drop (0:Int).toNat (B1 row)))).length<=9223372036854775807:=by simp only[P9];omega
   rw[<- ee] at hR
   clear hq h hf q4 q5 hb ee hcs hlA
   obtain⟨⟨nm,cs,ks,fs,xs⟩,dc,dk,df,dx⟩:=x
   obtain⟨ck,cnm,to,⟨cn,cck,cl⟩,⟨vk,vn,vs⟩⟩:=c
   dsimp only at k1
   subst k1
   subst hR
   refine A4c.go A4 rfl ?_
   repeat' first|refine st ?_|refine⟨λ_=>?_,λ_=>?_⟩|fail
   all_goals first|rfl|(simp only[hbb];rfl)
  obtain⟨i,co,hi,hco,hcn,hus,h4,h3⟩:=A08 (q5 k1)
  have hil:=(A7.1 hco).1
  rw[if_neg k1,hi,G7] at hR
  rw[if_neg k1,hi,G7] at hl
  rw[hi] at hI
  by_cases k2:c.k=2
  ·rw[if_pos k2] at hR hl
   dsimp only at hl
   rw[A1s,if_pos hil] at hl
   have hN:=A0n
   have ee:(List.take (((i:Nat):Int).toNat-(0:Int).toNat) (List.drop (0:Int).toNat (B1 row)))++[F4.ds]++(List.take (((B1 row).length:Int).toNat-(((i:Nat):Int)).toNat) (List.drop (((i:Nat):Int)).toNat (B1 row)))=B1 (row.take i++F4::row.drop i):=by
    rw[G7,G7,J5 (l:=List.drop i (B1 row)) (by rw[U5];exact G8 _)]
    show List.take i (B1 row)++_++_=_
    rw[A4C,A8m,show row.take i++F4::row.drop i=row.take i++[F4]++row.drop i by simp,<- A2W,<- A2W];rfl
   rw[<- ee] at hR
   have hls:((List.take (((i:Nat):Int).toNat-(0:Int).toNat) (List.drop (0:Int).toNat (B1 row)))).length=i:=by
    show(List.take i (B1 row)).length=i
    rw[J1];omega
   have hls2:((List.take (((B1 row).length:Int).toNat-(((i:Nat):Int)).toNat) (List.drop (((i:Nat):Int)).toNat (B1 row)))).length<=12:=by
    have h1:=List.length_take_le (((B1 row).length:Int).toNat-(((i:Nat):Int)).toNat) (List.drop (((i:Nat):Int)).toNat (B1 row))
    have h2:(List.drop (((i:Nat):Int)).toNat (B1 row)).length<=(B1 row).length:=by rw[U5];omega
    omega
   have hmA:∀e∈(List.take (((i:Nat):Int).toNat-(0:Int).toNat) (List.drop (0:Int).toNat (B1 row))),e.length=3:=λe h=>hm e (A2b (Z1 h))
   have hmB:∀e∈(List.take (((B1 row).length:Int).toNat-(((i:Nat):Int)).toNat) (List.drop (((i:Nat):Int)).toNat (B1 row))),e.length=3:=λe h=>hm e (A2b (Z1 h))
   have hb1:(([]:List (List D)).length+((List.take (((i:Nat):Int).toNat-(0:Int).toNat) (List.drop (0:Int).toNat (B1 row)))).length)*32<=140737488355328/\([]:List (List D)).length+((List.take (((i:Nat):Int).toNat-(0:Int).toNat) (List.drop (0:Int).toNat (B1 row)))).length<=9223372036854775807:=by rw[hls];simp only[P9];omega
   have hb2:(([]:List (List D))++(List.take (((i:Nat):Int).toNat-(0:Int).toNat) (List.drop (0:Int).toNat (B1 row)))).length=i:=hls
   have hb4:((([]:List (List D))++(List.take (((i:Nat):Int).toNat-(0:Int).toNat) (List.drop (0:Int).toNat (B1 row)))).length+[F4.ds].length)*32<=140737488355328/\(([]:List (List D))++(List.take (((i:Nat):Int).toNat-(0:Int).toNat) (List.drop (0:Int).toNat (B1 row)))).length+[F4.ds].length<=9223372036854775807:=by rw[hb2];simp only[H7,P9];omega
   have hb5:(([]:List (List D))++(List.take (((i:Nat):Int).toNat-(0:Int).toNat) (List.drop (0:Int).toNat (B1 row)))++[F4.ds]).length=i+1:=by rw[J0,hb2];rfl
   have hb3:((([]:List (List D))++(List.take (((i:Nat):Int).toNat-(0:Int).toNat) (List.drop (0:Int).toNat (B1 row)))++[F4.ds]).length+((List.take (((B1 row).length:Int).toNat-(((i:Nat):Int)).toNat) (List.drop (((i:Nat):Int)).toNat (B1 row)))).length)*32<=140737488355328/\(([]:List (List D))++(List.take (((i:Nat):Int).toNat-(0:Int).toNat) (List.drop (0:Int).toNat (B1 row)))++[F4.ds]).length+((List.take (((B1 row).length:Int).toNat-(((i:Nat):Int)).toNat) (List.drop (((i:Nat):Int)).toNat (B1 row)))).length<=9223372036854775807:=by rw[hb5];omega
   clear hq h hf q4 q5 hb ee hco h4 h3 hus hcs
   obtain⟨⟨nm,cs,ks,fs,xs⟩,dc,dk,df,dx⟩:=x
   obtain⟨ck,cnm,to,⟨cn,cck,cl⟩,⟨vk,vn,vs⟩⟩:=c
   dsimp only at k2 hil hl
   subst k2
   subst hR
   refine A4c.go A4 rfl ?_
   repeat' first|refine st ?_|refine⟨λ_=>?_,λ_=>?_⟩|fail
   all_goals first|rfl|(simp only[hbb];rfl)
  rw[if_neg k2] at hR hl
  have hl:row.length=x.t.cs.length:=by
   rw[hl];split<;>simp
  by_cases k4:c.k=4
  ·rw[if_pos k4] at hR
   obtain⟨v,hw⟩:∃v,row[i]?=some v:=⟨_,C3 (by omega)⟩
   have hgd:row.getD i F4=v:=by rw[E8,hw];rfl
   have hvs:=hb v (B9 hw)
   have hck:j5 x.t (i:Int)=co.k:=by unfold j5;rw[G7,hco]
   rw[hgd,hck] at hR
   have hg:(B1 row)[((i:Nat):Int).toNat]?=some v.ds:=A3K hw
   have hgc:(A9 x.t.cs)[((i:Nat):Int).toNat]?=some co.ds:=L4 hco
   have hP:=C4s v.s (by omega)
   have hN:=A0n
   have hvk:v.k=0\/v.k=2:=by
    have h1:=((A8s _ _).1 hf).2 i v 2 hw (by
     rw[hcs,X6]
     unfold D7
     rw[if_neg k1,if_neg k2,if_neg (by omega:¬c.k=3),hi,G7]
     dsimp only
     rw[A0q hil];rfl)
    exact h1.2
   rw[<- A8n] at hR
   unfold bkV at hR
   obtain⟨⟨⟨pk,pn,ps⟩,pe⟩,hpp⟩:∃p,p=e9 v.s:=⟨_,rfl⟩
   rw[<- hpp] at hP hR
   dsimp only at hP hR
   unfold TD.av at hA ⊢
   rw[hdc] at hA hI ⊢
   obtain⟨Cs,hCs⟩:∃z,z=A9 x.t.cs:=⟨_,rfl⟩
   rw[<- hCs] at hgc hcl hmC hcb hA hI ⊢
   have hilC:(i:Int)<Cs.length:=by omega
   clear hq h hf q4 q5 hb hco h4 h3 hus hgd hw hpp hck hcs hdc hCs hvd
   obtain⟨⟨nm,cs,ks,fs,xs⟩,dc,dk,df,dx⟩:=x
   obtain⟨ck,cnm,to,⟨cn,cck,cl⟩,⟨vk,vn,vs⟩⟩:=c
   obtain⟨wk,wn,ws⟩:=v
   obtain⟨con,cok,conl⟩:=co
   dsimp only at hA hI k4 hil hl hvk hR hP
   subst k4
   refine A4c.go A4 rfl ?_
   by_cases g1:pe=0
   rotate_left
   ·rw[if_pos (.inl g1)] at hR
    subst hR
    repeat' first|refine st ?_|refine⟨λ_=>?_,λ_=>?_⟩|fail
    all_goals first|rfl|(simp only[hbb];rfl)
   subst g1
   by_cases g3:pk=cok
   rotate_left
   ·rw[if_pos (.inr (.inr g3))] at hR
    subst hR
    repeat' first|refine st ?_|refine⟨λ_=>?_,λ_=>?_⟩|fail
    all_goals first|rfl|(simp only[hbb];rfl)
   subst g3
   by_cases g2:wk=0
   ·rw[if_pos (.inr (.inl (by omega)))] at hR
    subst hR
    subst g2
    repeat' first|refine st ?_|refine⟨λ_=>?_,λ_=>?_⟩|fail
    all_goals first|rfl|(simp only[hbb];rfl)
   ·rw[if_neg (by rintro(e|e|e);exact e rfl;exact e (by omega);exact e rfl)] at hR
    subst hR
    obtain rfl:wk=2:=by omega
    repeat' first|refine st ?_|refine⟨λ_=>?_,λ_=>?_⟩|fail
    all_goals first|rfl|(exfalso;rename_i hh;exact hh rfl)|(simp only[hbb];rfl)
  ·rw[if_neg k4] at hR
   clear hq h hf q4 q5 hb hco h4 h3 hus hcs
   obtain⟨⟨nm,cs,ks,fs,xs⟩,dc,dk,df,dx⟩:=x
   obtain⟨ck,cnm,to,⟨cn,cck,cl⟩,⟨vk,vn,vs⟩⟩:=c
   dsimp only at k1 k2 k4 hil hl
   subst hR
   refine A4c.go A4 rfl ?_
   repeat' first|refine st ?_|refine⟨λ_=>?_,λ_=>?_⟩|fail
   all_goals first|rfl|(simp only[hbb];rfl)
def V8(S:List St)(row:List Vl):List Vl:=S.foldl (λr s=>Z7 s.x.t s.c r) row
def Y4(S:List St)(row:List Vl):List Vl:=S.foldr (λs r=>Y5 s.x.t s.c r) row
theorem A8A(S:List St)(a p:Nat)(s:St)(row:List Vl)(hap:a<=p)(h:S[p]?=some s):V8 ((S.drop a).take (p+1-a)) row=Z7 s.x.t s.c (V8 ((S.drop a).take (p-a)) row):=by
 have e:(S.drop a)[p-a]?=some s:=by rw[A0W,show a+(p-a)=p by omega];exact h
 unfold V8
 rw[show p+1-a=(p-a)+1 by omega,P1,e,A2I]
 rfl
theorem A8c(S:List St)(a p:Nat)(s:St)(row:List Vl)(hpa:p<a)(h:S[p]?=some s):Y4 ((S.drop p).take (a-p)) row=Y5 s.x.t s.c (Y4 ((S.drop (p+1)).take (a-(p+1))) row):=by
 obtain⟨hlt,he⟩:=A7.1 h
 rw[P7 hlt,he,show a-p=(a-(p+1))+1 by omega,A3t]
 rfl
theorem B1w(S:List St)(a:Nat)(row:List Vl):V8 ((S.drop a).take (a-a)) row=row:=by simp[V8]
theorem B8A(S:List St)(a:Nat)(row:List Vl):Y4 ((S.drop a).take (a-a)) row=row:=by simp[Y4]
def vK(x:TD)(l:List Ch)(i:Nat):List Int:=kd (K8 x (l.take i)).t.cs
theorem A7d{x:TD}{l:List Ch}{i:Nat}{c:Ch}(hb:N5 x l=true)(h:l[i]?=some c):vK x l (i+1)=kd (D7 (K8 x (l.take i)).t c).cs:=by
 unfold vK
 rw[A9e h,A66,D7y (A2y hb h)]
theorem B1m{x:TD}{l:List Ch}(hb:N5 x l=true){a:Nat}{row:List Vl}(hf:I4 row (vK x l a)=true):∀k,a+k<=l.length->I4 (V8 (((L2 x l).drop a).take k) row) (vK x l (a+k))=true
 |0,_=>by simpa[V8] using hf
 |k+1,hk=>by
  have ih:=B1m hb hf k (by omega)
  obtain⟨c,hc⟩:∃c,l[a+k]?=some c:=⟨_,C3 (by omega)⟩
  have hs:=A8A (L2 x l) a (a+k) _ row (by omega) (A0P (x:=x) hc)
  rw[show a+k+1-a=k+1 by omega,show a+k-a=k by omega] at hs
  rw[hs,show a+(k+1)=a+k+1 by omega,A7d hb hc]
  exact D4w (A2y hb hc) ih
theorem B1k{x:TD}{l:List Ch}(hb:N5 x l=true){a:Nat}(ha:a<=l.length){row:List Vl}(hf:I4 row (vK x l a)=true):∀k,k<=a->I4 (Y4 (((L2 x l).drop (a-k)).take k) row) (vK x l (a-k))=true
 |0,_=>by simpa[Y4] using hf
 |k+1,hk=>by
  have ih:=B1k hb ha hf k (by omega)
  obtain⟨c,hc⟩:∃c,l[a-(k+1)]?=some c:=⟨_,C3 (by omega)⟩
  have hs:=A8c (L2 x l) a (a-(k+1)) _ row (by omega) (A0P (x:=x) hc)
  rw[show a-(a-(k+1))=k+1 by omega,show a-(a-(k+1)+1)=k by omega,show a-(k+1)+1=a-k by omega] at hs
  rw[hs]
  have h2:=A7d hb hc
  rw[show a-(k+1)+1=a-k by omega] at h2
  rw[h2] at ih
  exact D4u (A2y hb hc) ih
theorem B1n{x:TD}{l:List Ch}(hb:N5 x l=true){a p:Nat}{row:List Vl}(hf:I4 row (vK x l a)=true)(hap:a<=p)(hp:p<=l.length):I4 (V8 (((L2 x l).drop a).take (p-a)) row) (vK x l p)=true:=by
 have:=B1m hb hf (p-a) (by omega)
 rwa [show a+(p-a)=p by omega] at this
theorem B1l{x:TD}{l:List Ch}(hb:N5 x l=true){a p:Nat}{row:List Vl}(hf:I4 row (vK x l a)=true)(hap:p<=a)(ha:a<=l.length):I4 (Y4 (((L2 x l).drop p).take (a-p)) row) (vK x l p)=true:=by
 have:=B1k hb ha hf (a-p) (by omega)
 rwa [show a-(a-p)=p by omega] at this
def A0B(x:TD)(l:List Ch)(a b:Nat)(row:List Vl):List Vl:=if a<=b then V8 (((L2 x l).drop a).take (b-a)) row else Y4 (((L2 x l).drop b).take (a-b)) row
def A0A(x:TD)(l:List Ch)(a b:Int)(row:List Vl):D:=
 if Q4 x l=false\/a<0\/b<0\/(l.length:Int)<a\/(l.length:Int)<b\/I4 row (vK x l a.toNat)=false then .nil
 else .sl (B1 (A0B x l a.toNat b.toNat row))
theorem D4v{x:TD}{l:List Ch}(hb:N5 x l=true){a b:Nat}(ha:a<=l.length)(hbl:b<=l.length){row:List Vl}(hf:I4 row (vK x l a)=true):I4 (A0B x l a b row) (vK x l b)=true:=by
 unfold A0B
 split
 ·exact B1n hb hf (by omega) hbl
 ·exact B1l hb hf (by omega) ha
theorem A9i{x:TD}{l:List Ch}(hq:H9 x.t=0)(hb:N5 x l=true){i:Nat}(hi:i<=l.length):1<=(vK x l i).length/\(vK x l i).length<=12:=by
 have h:=V3.1 (B2h hq hb i hi)
 unfold vK
 rw[Q2]
 exact⟨h.l1,h.l2⟩
theorem C2F(s:St)(h:s.x.ok)(hq:C7 s.x.t s.c=0)(row:List Vl)(hf:I4 row (kd s.x.t.cs)=true):B0 Tryz.prog B0n [s.av,.ptr 0 0] [.cells [.d (.sl (B1 row))]] (λr os=>r=.tup []/\os=[.cells [.d (.sl (B1 (Z7 s.x.t s.c row)))]]):=by
 have hI:=C3O s h hq row hf
 obtain⟨q,hqq⟩:∃q,q=B1 (Z7 s.x.t s.c row):=⟨_,rfl⟩
 rw[<- hqq] at hI ⊢
 clear hqq h hf hq
 obtain⟨⟨⟨nm,cs,ks,fs,xs⟩,dc,dk,df,dx⟩,y,⟨ck,cnm,to,⟨cn,cck,cl⟩,⟨vk,vn,vs⟩⟩⟩:=s
 refine C6j.goX A4 rfl ?_
 repeat' first|refine st ?_|refine⟨λ_=>?_,λ_=>?_⟩|fail
 all_goals exact⟨rfl,rfl⟩
theorem C2G(s:St)(h:s.x.ok)(hq:C7 s.x.t s.c=0)(row:List Vl)(hf:I4 row (kd (D7 s.x.t s.c).cs)=true):B0 Tryz.prog B0o [s.av,.ptr 0 0] [.cells [.d (.sl (B1 row))]] (λr os=>r=.tup []/\os=[.cells [.d (.sl (B1 (Y5 s.x.t s.c row)))]]):=by
 have hI:=C3N s h hq row hf
 obtain⟨q,hqq⟩:∃q,q=B1 (Y5 s.x.t s.c row):=⟨_,rfl⟩
 rw[<- hqq] at hI ⊢
 clear hqq h hf hq
 obtain⟨⟨⟨nm,cs,ks,fs,xs⟩,dc,dk,df,dx⟩,y,⟨ck,cnm,to,⟨cn,cck,cl⟩,⟨vk,vn,vs⟩⟩⟩:=s
 refine C6k.goX A4 rfl ?_
 repeat' first|refine st ?_|refine⟨λ_=>?_,λ_=>?_⟩|fail
 all_goals exact⟨rfl,rfl⟩
theorem C3I(x:TD)(h:x.ok)(l:List Ch)(hl:l.length<=1048576)(hls:∀c∈l,H6 c)(d:D)(hd:B3 d (I3 l))(a b:Int)(row:List Vl)(hr:row.length<=1048576)(hrs:∀v∈row,v.s.length<=1048576)(dr:D)(hdr:B3 dr (B1 row)) :
  Pure Tryz.prog B7A [x.av,.d d,.d (eI a),.d (eI b),.d dr] (.d (A0A x l a b row)):=by
 have hS:=B2P x h l hl hls d hd
 have hT:=C3J x h l hl hls d hd
 have h1:=A1d l
 obtain⟨q,hq⟩:∃q,q=A0A x l a b row:=⟨_,rfl⟩
 rw[<- hq]
 unfold A0A at hq
 unfold A9d at hT
 obtain⟨es,hes⟩:∃es,es=I3 l:=⟨_,rfl⟩
 rw[<- hes] at h1 hd
 cases hb:Q4 x l with
 |false=>
  rw[hb] at hS hT hq
  rw[if_neg (by decide)] at hS hT
  rw[if_pos (.inl rfl)] at hq
  subst hq
  clear hb hd h
  obtain⟨⟨nm,cs,ks,fs,xs⟩,dc,dk,df,dx⟩:=x
  refine A3m.go A4 rfl ?_
  repeat' first|refine st ?_|refine⟨λ_=>?_,λ_=>?_⟩|fail
  all_goals rfl
 |true=>
  rw[hb] at hS hT hq
  rw[if_pos rfl] at hS hT
  have hbs:H9 x.t=0/\N5 x l=true:=by
   unfold Q4 at hb
   rw[L6] at hb
   exact⟨of_decide_eq_true hb.1,hb.2⟩
  simp only[Bool.true_eq_false,false_or] at hq
  by_cases g1:a<0
  ·rw[if_pos (.inl g1)] at hq
   subst hq
   clear hb hd h
   obtain⟨⟨nm,cs,ks,fs,xs⟩,dc,dk,df,dx⟩:=x
   refine A3m.go A4 rfl ?_
   repeat' first|refine st ?_|refine⟨λ_=>?_,λ_=>?_⟩|fail
   all_goals rfl
  by_cases g2:b<0
  ·rw[if_pos (.inr (.inl g2))] at hq
   subst hq
   clear hb hd h
   obtain⟨⟨nm,cs,ks,fs,xs⟩,dc,dk,df,dx⟩:=x
   refine A3m.go A4 rfl ?_
   repeat' first|refine st ?_|refine⟨λ_=>?_,λ_=>?_⟩|fail
   all_goals rfl
  by_cases g3:(l.length:Int)<a
  ·rw[if_pos (.inr (.inr (.inl g3)))] at hq
   subst hq
   have g3':(es.length:Int)<a:=by omega
   clear hb h
   obtain⟨⟨nm,cs,ks,fs,xs⟩,dc,dk,df,dx⟩:=x
   refine A3m.go A4 rfl ?_
   repeat' first|refine st ?_|refine⟨λ_=>?_,λ_=>?_⟩|fail
   all_goals rfl
  by_cases g4:(l.length:Int)<b
  ·rw[if_pos (.inr (.inr (.inr (.inl g4))))] at hq
   subst hq
   have g4':(es.length:Int)<b:=by omega
   clear hb h
   obtain⟨⟨nm,cs,ks,fs,xs⟩,dc,dk,df,dx⟩:=x
   refine A3m.go A4 rfl ?_
   repeat' first|refine st ?_|refine⟨λ_=>?_,λ_=>?_⟩|fail
   all_goals rfl
  obtain⟨a,rfl⟩:∃n:Nat,a=n:=⟨a.toNat,by omega⟩
  obtain⟨b,rfl⟩:∃n:Nat,b=n:=⟨b.toNat,by omega⟩
  have ga:a<=l.length:=by omega
  have gb:b<=l.length:=by omega
  rw[G7,G7] at hq
  have hv:=B1b (D7v x l a ga)
  have hvok:=TD.cp_ok (A65 (l.take a) h λc hc=>hls c (Z1 hc))
  have hK:=B33 (K8 x (l.take a)).cp.t.nm (K8 x (l.take a)).cp.t.cs hvok.tok.hl (K8 x (l.take a)).cp.dc (K8 x (l.take a)).cp.dk (K8 x (l.take a)).cp.df (K8 x (l.take a)).cp.dx hvok.tok.dc
  have hvk:vK x l a=kd (K8 x (l.take a)).cp.t.cs:=rfl
  have hF:=C4Q row (vK x l a) hr (by rw[hvk,Q2];have:=hvok.tok.hl;omega) hrs dr hdr _ (C0f (K8 x (l.take a)).cp.t.cs)
  have hTl:=A8l (A2z x l)
  have hTm:=A6d (A2z x l)
  have hTl2:(A2z x l).length=l.length+1:=by unfold A2z;rw[H7,C6,A50]
  obtain⟨v,hvv⟩:∃v,v=(K8 x (l.take a)).cp:=⟨_,rfl⟩
  rw[<- hvv] at hv hK hF
  obtain⟨Ts,hTs⟩:∃z,z=Z5 (A2z x l):=⟨_,rfl⟩
  rw[<- hTs] at hT hv hTl hTm
  have hv2:Ts[((a:Nat):Int).toNat]?=_:=hv
  have ht1:(a:Int)<Ts.length:=by omega
  cases g6:I4 row (vK x l a) with
  |false=>
   rw[g6] at hq hF
   rw[if_pos (.inr (.inr (.inr (.inr rfl))))] at hq
   subst hq
   clear hb h hbs hvk hvv hvok
   obtain⟨⟨nm,cs,ks,fs,xs⟩,dc,dk,df,dx⟩:=x
   refine A3m.go A4 rfl ?_
   repeat' first|refine st ?_|refine⟨λ_=>?_,λ_=>?_⟩|fail
   all_goals rfl
  |true=>
   rw[g6] at hq hF
   rw[if_neg (by rintro(e|e|e|e|e)<;>first|omega|cases e)] at hq
   have hrl:=(A0D g6).1
   have hne:=A9i hbs.1 hbs.2 ga
   have hdd:=A94 hdr (by omega)
   subst hdd
   have hmr:=x4 row
   have hCl:=A7l (B1 row) (by rw[U9];omega) hmr (.sl (B1 row)) (.inr rfl)
   have hSl:=A50 l x
   obtain⟨S,hSS⟩:∃S,S=L2 x l:=⟨_,rfl⟩
   have hcv:A0B x l a b row=if a<=b then V8 ((S.drop a).take (b-a)) row else Y4 ((S.drop b).take (a-b)) row:=by rw[hSS];rfl
   rw[hcv] at hq
   have hff:=λp h1 h2=>B1n (p:=p) hbs.2 g6 h1 h2
   have hfb:=λp h1=>B1l (p:=p) hbs.2 g6 h1 ga
   rw[<- hSS] at hS hSl hff hfb
   have hSg:∀(i:Nat) s,S[i]?=some s->s.x.ok/\C7 s.x.t s.c=0/\kd s.x.t.cs=vK x l i/\kd (D7 s.x.t s.c).cs=vK x l (i+1):=λi s hs=>by
    have hi:=(A7.1 hs).1
    have hc:l[i]?=some (l[i]'(by omega)):=C3 (by omega)
    have h2:=A0P (x:=x) hc
    rw[<- hSS,hs] at h2
    rw[A1z h2]
    exact⟨A65 _ h λc hc=>hls c (Z1 hc),A2y hbs.2 hc,rfl,(A7d hbs.2 hc).symm⟩
   have hsd:B3 (B5 (S5 S).isEmpty (S5 S)) (S5 S):=W3 λe=>u9.1 e
   obtain⟨sd,hsd0⟩:∃z,z=B5 (S5 S).isEmpty (S5 S):=⟨_,rfl⟩
   rw[<- hsd0] at hS hsd
   obtain⟨z,hz⟩:∃z:Nat->D,z=λp=>if a<=p then .sl (B1 (V8 ((S.drop a).take (p-a)) row)) else .sl (B1 (Y4 ((S.drop p).take (a-p)) row)):=⟨_,rfl⟩
   have hza:z a=.sl (B1 row):=by rw[hz];simp[V8]
   have hzf:∀p,a<=p->z p=.sl (B1 (V8 ((S.drop a).take (p-a)) row)):=λp hp=>by rw[hz];simp[hp]
   have hzb:∀p,p<=a->z p=.sl (B1 (Y4 ((S.drop p).take (a-p)) row)):=λp hp=>by
    rw[hz]
    by_cases e:p=a
    ·subst e;simp[V8,Y4]
    ·simp[show ¬a<=p by omega]
   have hW:=C3P B0n B0o S (by omega) sd hsd a b (by omega) (by omega) z (λi s h1 h2 h3=>by
     rw[hzf i h1,hzf (i+1) (by omega),A8A S a i s row h1 h3]
     obtain⟨k1,k2,k3,k4⟩:=hSg i s h3
     exact C2F s k1 k2 _ (by rw[k3];exact hff i h1 (by omega))) (λi s h1 h2 h3=>by
     rw[hzb i (by omega),hzb (i+1) (by omega),A8c S a i s row h2 h3]
     obtain⟨k1,k2,k3,k4⟩:=hSg i s h3
     exact C2G s k1 k2 _ (by rw[k4];exact hfb (i+1) (by omega)))
   have hzr:z b=q:=by
    rw[hq]
    by_cases hab:a<=b
    ·rw[if_pos hab,hzf b hab]
    ·rw[if_neg hab,hzb b (by omega)]
   rw[hza,hzr] at hW
   have hL:=fun {os:List AO} (ho:os[1]?=some (.cells [.d (.sl (B1 row))]))=>D5r (id:=1) hW ho
   clear hb h hbs hW hzf hzb hz hza hzr hq hSS hsd0 hcv hff hfb hvk hvv hvok hrl hne hSg
   obtain⟨⟨nm,cs,ks,fs,xs⟩,dc,dk,df,dx⟩:=x
   refine A3m.go A4 rfl ?_
   repeat' first|refine st ?_|((with_reducible first|apply I5|apply I8);(·exact hL rfl);(try rintro _ _ ⟨rfl,rfl⟩))|((with_reducible apply I9);(·exact hL rfl))|refine⟨λ_=>?_,λ_=>?_⟩|fail
   all_goals rfl
end Go.Proofs
end
