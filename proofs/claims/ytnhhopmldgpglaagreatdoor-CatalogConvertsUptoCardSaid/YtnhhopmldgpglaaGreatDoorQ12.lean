/- Texts of this claim, joined. No condition. -/
import Derived.Test.YtnhhopmldgpglaaGreatDoorQ11
import Derived.Test.YtnhhopmldgpglaaGreatDoorBi
import Derived.Test.YtnhhopmldgpglaaGreatDoorRows
import Derived.Lib.LaidTab
import Derived.Shelf.Vars
import Derived.OpenShut
import Derived.Deep.DeepHandedRow
set_option linter.unusedSimpArgs false
set_option linter.unusedVariables false
set_option maxRecDepth 10000
set_option maxHeartbeats 4000000
section
namespace Go.Proofs
open Go.Bi
theorem B1P{t u:Tb}(h:nf t=nf u):t.cs=u.cs:=by unfold nf at h;injection h
theorem D4I{t u:Tb}(hn:nf t=nf u){c:Ch}(hq:C7 u c=0){row:List Vl}(hf:I4 row (kd u.cs)=true):fwD t c row=.sl (B1 (Z7 u c row)):=by
 unfold fwD
 rw[A8p hn c,B1P hn,D4K hn,if_pos ⟨hq,hf⟩]
theorem D2M{t u:Tb}(hn:nf t=nf u){c:Ch}(hq:C7 u c=0){row:List Vl}(hf:I4 row (kd (D7 u c).cs)=true):bwD t c row=.sl (B1 (Y5 u c row)):=by
 unfold bwD
 rw[A8p hn c,B1P (D4q hn c).2,D2O hn,if_pos ⟨hq,hf⟩]
theorem C4e(x:TD)(h:x.ok)(l:List Ch)(hl:l.length<=1048576)(hls:∀c∈l,H6 c)(d:D)(hd:B3 d (I3 l))(a b:Int)(row:List Vl)(hr:row.length<=1048576)(hrs:∀v∈row,v.s.length<=1048576)(dr:D)(hdr:B3 dr (B1 row)) :
  Pure Tryz.prog B72 [x.av,.d d,.d (eI a),.d (eI b),.d dr] (.d (A0A x l a b row)):=by
 have hT:=B2X x h l hl hls d hd
 have h1:=A1d l
 have hm:=A3J l
 have hgc:=λi c=>@A8k l i c
 obtain⟨q,hq⟩:∃q,q=A0A x l a b row:=⟨_,rfl⟩
 rw[<- hq]
 unfold A0A at hq
 unfold A6Q at hT
 rw[C1i] at hT
 obtain⟨es,hes⟩:∃es,es=I3 l:=⟨_,rfl⟩
 rw[<- hes] at h1 hd hgc hm
 cases hb:Q4 x l with
 |false=>
  rw[hb] at hT hq
  rw[if_neg (by decide)] at hT
  rw[if_pos (.inl rfl)] at hq
  subst hq
  have g0:a<0\/0<=a:=by omega
  clear hb hd h
  obtain⟨⟨nm,cs,ks,fs,xs⟩,dc,dk,df,dx⟩:=x
  refine A3k.go A4 rfl ?_
  rcases g0 with g0|g0
  ·repeat' first|refine st ?_|refine⟨λ_=>?_,λ_=>?_⟩|fail
   all_goals rfl
  ·repeat' first|refine st ?_|refine⟨λ_=>?_,λ_=>?_⟩|fail
   all_goals rfl
 |true=>
  rw[hb] at hT hq
  rw[if_pos rfl] at hT
  have hbs:H9 x.t=0/\N5 x l=true:=by
   unfold Q4 at hb
   rw[L6] at hb
   exact⟨of_decide_eq_true hb.1,hb.2⟩
  simp only[Bool.true_eq_false,false_or] at hq
  have hTl:=A8l (Y0 x l (l.length+1))
  have hTm:=A6d (Y0 x l (l.length+1))
  have hTl2:(Y0 x l (l.length+1)).length=l.length+1:=by unfold Y0;rw[C6,List.length_range]
  rw[hTl2] at hTl
  have hTg:∀i,i<=l.length->∃y:TD,(Z5 (Y0 x l (l.length+1)))[i]?=some [.str y.t.nm,y.dc,y.dk,y.df,y.dx]/\y.ok/\nf y.t=nf (K8 x (l.take i)).t:=λi hi=>
   ⟨_,B1b (C1r x l _ i (by omega)),A97 h λc hc=>hls c (Z1 hc),C1N x _ (B2i i hb)⟩
  obtain⟨Ts,hTs⟩:∃z,z=Z5 (Y0 x l (l.length+1)):=⟨_,rfl⟩
  rw[<- hTs] at hT hTl hTg hTm
  by_cases g1:a<0
  ·rw[if_pos (.inl g1)] at hq
   subst hq
   clear hb hd h
   obtain⟨⟨nm,cs,ks,fs,xs⟩,dc,dk,df,dx⟩:=x
   refine A3k.go A4 rfl ?_
   repeat' first|refine st ?_|refine⟨λ_=>?_,λ_=>?_⟩|fail
   all_goals rfl
  by_cases g3:(l.length:Int)<a
  ·rw[if_pos (.inr (.inr (.inl g3)))] at hq
   subst hq
   have g3':(Ts.length:Int)<=a:=by omega
   clear hb h
   obtain⟨⟨nm,cs,ks,fs,xs⟩,dc,dk,df,dx⟩:=x
   refine A3k.go A4 rfl ?_
   repeat' first|refine st ?_|refine⟨λ_=>?_,λ_=>?_⟩|fail
   all_goals rfl
  have g3':a<(Ts.length:Int):=by omega
  by_cases g2:b<0
  ·rw[if_pos (.inr (.inl g2))] at hq
   subst hq
   clear hb hd h
   obtain⟨⟨nm,cs,ks,fs,xs⟩,dc,dk,df,dx⟩:=x
   refine A3k.go A4 rfl ?_
   repeat' first|refine st ?_|refine⟨λ_=>?_,λ_=>?_⟩|fail
   all_goals rfl
  by_cases g4:(l.length:Int)<b
  ·rw[if_pos (.inr (.inr (.inr (.inl g4))))] at hq
   subst hq
   have g4':(Ts.length:Int)<=b:=by omega
   clear hb h
   obtain⟨⟨nm,cs,ks,fs,xs⟩,dc,dk,df,dx⟩:=x
   refine A3k.go A4 rfl ?_
   repeat' first|refine st ?_|refine⟨λ_=>?_,λ_=>?_⟩|fail
   all_goals rfl
  have g4':b<(Ts.length:Int):=by omega
  obtain⟨a,rfl⟩:∃n:Nat,a=n:=⟨a.toNat,by omega⟩
  obtain⟨b,rfl⟩:∃n:Nat,b=n:=⟨b.toNat,by omega⟩
  have ga:a<=l.length:=by omega
  have gb:b<=l.length:=by omega
  rw[G7,G7] at hq
  obtain⟨v,hv,hvok,hvn⟩:=hTg a ga
  have hvk:vK x l a=kd v.t.cs:=by unfold vK;rw[B1P hvn]
  have hK:=A5h v.t.nm v.t.cs hvok.tok.hl v.dc v.dk v.df v.dx hvok.tok.dc
  have hF:=A7t row (vK x l a) hr (by rw[hvk,Q2];exact hvok.tok.hl) hrs dr hdr (.sl (A0 (kd v.t.cs))) (.inr (by rw[hvk]))
  have hv2:Ts[((a:Nat):Int).toNat]?=_:=hv
  cases g6:I4 row (vK x l a) with
  |false=>
   rw[g6] at hq hF
   rw[if_pos (.inr (.inr (.inr (.inr rfl))))] at hq
   subst hq
   clear hb h hbs hvk hvn hvok hTg
   obtain⟨⟨nm,cs,ks,fs,xs⟩,dc,dk,df,dx⟩:=x
   refine A3k.go A4 rfl ?_
   repeat' first|refine st ?_|refine⟨λ_=>?_,λ_=>?_⟩|fail
   all_goals rfl
  |true=>
   rw[g6] at hq hF
   rw[if_neg (by rintro(e|e|e|e|e)<;>first|omega|cases e)] at hq
   have hrl:=(A0D g6).1
   have hne:=A9i hbs.1 hbs.2 ga
   have hdd:=A94 hdr (by omega)
   subst hdd
   have hrl2:row.length<=12:=by omega
   have hmr:=x4 row
   have her:=U9 row
   have hbb:∀b:Bool,(bif b then false else false)=false:=λb=>by cases b<;>rfl
   have hff:=λp h1 h2=>B1n (p:=p) hbs.2 g6 h1 h2
   have hfb:=λp h1=>B1l (p:=p) hbs.2 g6 h1 ga
   have hSl:=A50 l x
   have hSg:∀(i:Nat) c,l[i]?=some c->(L2 x l)[i]?=some ⟨K8 x (l.take i),(K8 x (l.take i)).to c,c⟩:=λi c hc=>A0P hc
   have hev:∀(i:Nat) c,l[i]?=some c->C7 (K8 x (l.take i)).t c=0/\kd (D7 (K8 x (l.take i)).t c).cs=vK x l (i+1):=λi c hc=>⟨A2y hbs.2 hc,(A7d hbs.2 hc).symm⟩
   have hkk:∀i,kd (K8 x (l.take i)).t.cs=vK x l i:=λi=>rfl
   have hcv:A0B x l a b row=if a<=b then V8 (((L2 x l).drop a).take (b-a)) row else Y4 (((L2 x l).drop b).take (a-b)) row:=rfl
   rw[hcv] at hq
   clear hcv
   have hvb:∀i,i<=l.length->(vK x l i).length<=12:=λi hi=>(A9i hbs.1 hbs.2 hi).2
   obtain⟨S,hSS⟩:∃S,S=L2 x l:=⟨_,rfl⟩
   rw[<- hSS] at hSl hSg hq hff hfb
   obtain⟨kx,hkx⟩:∃z,z=vK x l:=⟨_,rfl⟩
   rw[<- hkx] at hff hfb hev hkk hvb
   obtain⟨cx,hcx⟩:∃z,z=λi=>K8 x (l.take i):=⟨_,rfl⟩
   have zTg:∀i,i<=l.length->∃y:TD,Ts[i]?=some [.str y.t.nm,y.dc,y.dk,y.df,y.dx]/\y.ok/\nf y.t=nf (cx i).t:=λi hi=>by rw[hcx];exact hTg i hi
   have zSg:∀(i:Nat) c,l[i]?=some c->S[i]?=some ⟨cx i,(cx i).to c,c⟩:=λi c hc=>by rw[hcx];exact hSg i c hc
   have zev:∀(i:Nat) c,l[i]?=some c->C7 (cx i).t c=0/\kd (D7 (cx i).t c).cs=kx (i+1):=λi c hc=>by rw[hcx];exact hev i c hc
   have zkk:∀i,kd (cx i).t.cs=kx i:=λi=>by rw[hcx];exact hkk i
   clear hb h hbs hcx hSS hvn hTg hSg hev hkk hkx hvk hvok hrl g6
   obtain⟨⟨nm,cs,ks,fs,xs⟩,dc,dk,df,dx⟩:=x
   refine A3k.go A4 rfl ?_
   repeat' first|refine st ?_|refine⟨λ_=>?_,λ_=>?_⟩|fail
   refine A2F 12 rfl rfl rfl ?_
   repeat' first|refine st ?_|refine⟨λ_=>?_,λ_=>?_⟩|fail
   refine F2 A4 C8U C7M (λ(i:Nat)=>[.d (.sl (B1 (V8 ((S.drop a).take (i-a)) row))),.d (eI i)]) (λi=>[.cells [.d (.str nm),.d dc,.d dk,.d df,.d dx],.arr (B1 row) 3 (B1 row).length (bif (B1 row).isEmpty then false else false)]) (λi=>a<=i/\(i<=b\/i=a)) (λi=>b-i) a rfl rfl (by rw[B1w];simp only[hbb];rfl) rfl (λ_ _=>⟨rfl,rfl⟩) rfl ⟨G8 _,.inr rfl⟩ ?_
   repeat' first|refine st ?_|refine⟨λ_=>?_,λ_=>?_⟩|fail
   intro i ⟨g7,g8⟩
   have hwf:i<=l.length->I4 (V8 ((S.drop a).take (i-a)) row) (kx i)=true:=λh=>hff i g7 h
   obtain⟨w,hw⟩:∃w,w=V8 ((S.drop a).take (i-a)) row:=⟨_,rfl⟩
   rw[<- hw] at hwf ⊢
   by_cases hib:i<b
   ·obtain⟨c,hc⟩:∃c,l[i]?=some c:=⟨_,C3 (by omega)⟩
    obtain⟨y,hy1,hy2,hy3⟩:=zTg i (by omega)
    have hwf:=hwf (by omega)
    obtain⟨hwl,hws⟩:=A0D hwf
    have hkl:=hvb i (by omega)
    have hI:=C4f y hy2 c (hls c (B9 hc)) w (by omega) (λv hv=>by have:=hws v hv;omega) (.sl (B1 w)) (.inr rfl)
    rw[D4I hy3 (zev i c hc).1 (by rw[zkk];exact hwf)] at hI
    have hsn:=A8A S a i _ row g7 (zSg i c hc)
    rw[<- hw] at hsn
    dsimp only at hsn
    obtain⟨w2,hw2⟩:∃z,z=Z7 (cx i).t c w:=⟨_,rfl⟩
    rw[<- hw2] at hI hsn
    have hgl:=hgc i c hc
    have hy1':Ts[((i:Nat):Int).toNat]?=_:=hy1
    have hgl':es[((i:Nat):Int).toNat]?=_:=hgl
    have hil:(i:Int)<es.length:=by omega
    have hil2:(i:Int)<Ts.length:=by omega
    obtain⟨ck,cnm,to,⟨cn,cck,cl⟩,⟨vk,vn,vs⟩⟩:=c
    clear hw zTg zSg zev zkk hff hfb hvb hq hw2
    repeat' first|refine st ?_|refine⟨λ_=>?_,λ_=>?_⟩|fail
    refine⟨i+1,?_,rfl,rfl,by omega,by omega,.inl (by omega)⟩
    rw[hsn]
    rfl
   ·by_cases hab:a<=b
    ·have hqw:q=.sl (B1 w):=by rw[hq,if_pos hab,hw,show i=b by omega]
     subst hqw
     clear zTg zSg zev zkk hff hfb hvb hw hwf
     repeat' first|refine st ?_|refine⟨λ_=>?_,λ_=>?_⟩|fail
     refine F2 A4 B6s B6f (λ(j:Nat)=>[.d (.sl (B1 w)),.d (eI a)]) (λj=>[.cells [.d (.str nm),.d dc,.d dk,.d df,.d dx],.arr (B1 row) 3 (B1 row).length (bif (B1 row).isEmpty then false else false)]) (λj=>True) (λj=>j) 0 rfl rfl rfl rfl (λ_ _=>⟨rfl,rfl⟩) rfl trivial ?_
     repeat' first|refine st ?_|refine⟨λ_=>?_,λ_=>?_⟩|fail
     intro j _
     repeat' first|refine st ?_|refine⟨λ_=>?_,λ_=>?_⟩|fail
     all_goals rfl
    ·have hwk:w=row:=by rw[hw,show i=a by omega,B1w]
     subst hwk
     rw[if_neg hab] at hq
     clear hw hwf hff
     repeat' first|refine st ?_|refine⟨λ_=>?_,λ_=>?_⟩|fail
     refine F2 A4 B6s B6f (λ(j:Nat)=>[.d (.sl (B1 (Y4 ((S.drop j).take (a-j)) w))),.d (eI j)]) (λj=>[.cells [.d (.str nm),.d dc,.d dk,.d df,.d dx],.arr (B1 w) 3 (B1 w).length (bif (B1 w).isEmpty then false else false)]) (λj=>b<=j/\j<=a) (λj=>j) a rfl rfl (by rw[B8A];rfl) rfl (λ_ _=>⟨rfl,rfl⟩) rfl ⟨by omega,G8 _⟩ ?_
     repeat' first|refine st ?_|refine⟨λ_=>?_,λ_=>?_⟩|fail
     intro j ⟨g9,g10⟩
     have huf:=hfb j g10
     obtain⟨u,hu⟩:∃u,u=Y4 ((S.drop j).take (a-j)) w:=⟨_,rfl⟩
     rw[<- hu] at huf ⊢
     by_cases hjb:b<j
     ·obtain⟨p,rfl⟩:∃p,j=p+1:=⟨j-1,by omega⟩
      obtain⟨c,hc⟩:∃c,l[p]?=some c:=⟨_,C3 (by omega)⟩
      obtain⟨y,hy1,hy2,hy3⟩:=zTg p (by omega)
      obtain⟨hul,hus⟩:=A0D huf
      have hkl:=hvb (p+1) (by omega)
      have hI:=C4d y hy2 c (hls c (B9 hc)) u (by omega) (λv hv=>by have:=hus v hv;omega) (.sl (B1 u)) (.inr rfl)
      rw[D2M hy3 (zev p c hc).1 (by rw[(zev p c hc).2];exact huf)] at hI
      have hsn:=A8c S a p _ w (by omega) (zSg p c hc)
      rw[<- hu] at hsn
      have hsm:Y4 ((S.drop p).take (a-p)) w=Y5 (cx p).t c u:=hsn
      obtain⟨w2,hw2⟩:∃z,z=Y5 (cx p).t c u:=⟨_,rfl⟩
      rw[<- hw2] at hI hsm
      have hgl:=hgc p c hc
      have M9:((((p+1:Nat):Int))-1).toNat=p:=by omega
      have hy1':Ts[((((p+1:Nat):Int))-1).toNat]?=some [.str y.t.nm,y.dc,y.dk,y.df,y.dx]:=by rw[M9];exact hy1
      have hgl':es[((((p+1:Nat):Int))-1).toNat]?=some (A62 c):=by rw[M9];exact hgl
      have hil:(((p+1:Nat):Int))-1<es.length:=by omega
      have hil2:(((p+1:Nat):Int))-1<Ts.length:=by omega
      obtain⟨ck,cnm,to,⟨cn,cck,cl⟩,⟨vk,vn,vs⟩⟩:=c
      clear hu zTg zSg zev zkk hfb hvb hw2 hsn hq
      repeat' first|refine st ?_|refine⟨λ_=>?_,λ_=>?_⟩|fail
      refine⟨p,?_,rfl,rfl,by omega,by omega,by omega⟩
      rw[hsm,show((p+1:Nat):Int)-1=p by omega]
     ·have hqu:q=.sl (B1 u):=by rw[hq,hu,show j=b by omega]
      rw[hqu]
      clear hu zTg zSg zev zkk hfb hvb hq hqu
      repeat' first|refine st ?_|refine⟨λ_=>?_,λ_=>?_⟩|fail
      all_goals rfl
def m6(s:List En)(a b:Int)(row:List Vl):D×Int:=match s with
 |[]=>(.nil,11)
 |e::r=>if a<0\/b<0\/(r.length:Int)<a\/(r.length:Int)<b then (.nil,6) else if I4 row (vK e.cr (r.map En.ch) a.toNat)=false then (.nil,8) else (.sl (B1 (A0B e.cr (r.map En.ch) a.toNat b.toNat row)),0)
theorem B9Y{nm:List UInt8}{e:En}{r:List En}(h:A4d nm (e::r)):Q4 e.cr (r.map En.ch)=true:=by
 obtain⟨h1,h2,h3,h4,h5⟩:=h
 rw[<- B29,<- (A3V e.cr (r.map En.ch)).1]
 exact h5
theorem B15{e:En}{r:List En}{nm:List UInt8}(h:A4d nm (e::r)){a b:Int}(hab:¬(a<0\/b<0\/(r.length:Int)<a\/(r.length:Int)<b))(row:List Vl) :
  A0A e.cr (r.map En.ch) a b row=(m6 (e::r) a b row).1/\(m6 (e::r) a b row).2=(if I4 row (vK e.cr (r.map En.ch) a.toNat)=false then 8 else 0)/\(I4 row (vK e.cr (r.map En.ch) a.toNat)=true->∃es,(m6 (e::r) a b row).1=.sl es)/\(I4 row (vK e.cr (r.map En.ch) a.toNat)=false->(m6 (e::r) a b row).1=.nil):=by
 unfold A0A m6
 dsimp only
 rw[if_neg hab,B9Y h,C6]
 cases hf:I4 row (vK e.cr (r.map En.ch) a.toNat) with
 |false=>
  rw[if_pos rfl,if_pos (by simp)]
  exact⟨rfl,rfl,λh=>(by cases h),λ_=>rfl⟩
 |true=>
  have hn:¬(true=false\/a<0\/b<0\/(r.length:Int)<a\/(r.length:Int)<b\/true=false):=λh=>by
   rcases h with h|h|h|h|h|h
   ·cases h
   ·exact hab (.inl h)
   ·exact hab (.inr (.inl h))
   ·exact hab (.inr (.inr (.inl h)))
   ·exact hab (.inr (.inr (.inr h)))
   ·cases h
  rw[if_neg hn,if_neg (show ¬(true=false) by decide)]
  exact⟨rfl,rfl,λ_=>⟨_,rfl⟩,λh=>(by cases h)⟩
theorem C37(c:List En)(hi:l5 c)(hc:c.length<=1048576)(hok:∀e∈c,e.ok)(d:D)(hd:B3 d (D3 c))(nm:List UInt8)(a b:Int)(row:List Vl)(hr:row.length<=1048576)(hrs:∀v∈row,v.s.length<=1048576)(dr:D)(hdr:B3 dr (B1 row)) :
  Pure Tryz.prog B7d [.d d,.d (.str nm),.d (eI a),.d (eI b),.d dr] (.tup [.d (m6 (E5 D5 nm c) a b row).1,.d (eI (m6 (E5 D5 nm c) a b row).2)]):=by
 have hS:=A9w A5L D5 nm (V9 D5 nm) (B36 D5 nm) c hc d hd
 have hsl:=A4X D5 nm c
 have hso:=A3b (at':=D5) (nm:=nm) hok
 have hg:=hi.sel nm
 rw[show c.filter (V9 D5 nm)=E5 D5 nm c from rfl] at hS
 obtain⟨s,hs⟩:∃s,s=E5 D5 nm c:=⟨_,rfl⟩
 rw[<- hs] at hS hsl hso hg ⊢
 clear hs
 have hH:=B2G s (by omega) (B5 (D3 s).isEmpty (D3 s)) (W3 λe=>u9.1 e)
 cases s with
 |nil=>
  have hS:Bi.Pure Tryz.prog B0e [.d d,.d (bnE A5L D5 nm)] (.d .nil):=hS
  have hH:Bi.Pure Tryz.prog B0d [.d .nil] (.tup [O1.av,.d .nil,.d (.bool false)]):=hH
  refine A7z.go A4 rfl ?_
  repeat' first|refine st ?_|refine⟨λ_=>?_,λ_=>?_⟩|fail
  all_goals rfl
 |cons e r=>
  obtain⟨a1,a2,a3,a4,a5,a6⟩:=A6n hg
  have hx:=(hso e (by simp)).cr
  have hco:∀k∈r.map En.ch,H6 k:=λk hk=>by
   obtain⟨y,hy,rfl⟩:=D9.1 hk
   exact(hso y (by simp[hy])).ch
  have hrl:(r.map En.ch).length<=1048576:=by rw[C6];simp at hsl;omega
  rw[a1,a2,a3] at hH
  have hM:=C3I e.cr hx (r.map En.ch) hrl hco (B5 (I3 (r.map En.ch)).isEmpty (I3 (r.map En.ch))) (W3 λe=>u9.1 e) a b row hr hrs dr hdr
  have hkl:(I3 (r.map En.ch)).length=r.length:=by rw[A1d,C6]
  have hkd:B3 (B5 (I3 (r.map En.ch)).isEmpty (I3 (r.map En.ch))) (I3 (r.map En.ch)):=W3 λe=>u9.1 e
  obtain⟨de,hde⟩:∃z,z=B5 (D3 (e::r)).isEmpty (D3 (e::r)):=⟨_,rfl⟩
  rw[<- hde] at hS hH
  have hcv:=@B15 e r nm hg a b
  obtain⟨q,hq⟩:∃q,q=m6 (e::r) a b row:=⟨_,rfl⟩
  rw[<- hq]
  obtain⟨dl,hdl⟩:∃z,z=B5 (I3 (r.map En.ch)).isEmpty (I3 (r.map En.ch)):=⟨_,rfl⟩
  rw[<- hdl] at hH hM hkd
  obtain⟨es,hes⟩:∃z,z=I3 (r.map En.ch):=⟨_,rfl⟩
  rw[<- hes] at hkl hkd
  by_cases hab:a<0\/b<0\/(r.length:Int)<a\/(r.length:Int)<b
  ·have hq:q=(.nil,6):=by rw[hq];unfold m6;exact if_pos hab
   subst hq
   clear hM hcv hso hx hco hg a1 a2 a3 a4 a5 a6 hde hdl hes
   obtain⟨tm,tb,⟨⟨xnm,cs,ks,fs,xs⟩,dc,dk,df,dx⟩,ch⟩:=e
   have hab:a<0\/(0<=a/\b<0)\/(0<=a/\0<=b/\(es.length:Int)<a)\/(0<=a/\0<=b/\a<=es.length/\(es.length:Int)<b):=by omega
   refine A7z.go A4 rfl ?_
   rcases hab with h|⟨h,h1⟩|⟨h,h1,h2⟩|⟨h,h1,h2,h3⟩
   all_goals skip
   all_goals repeat' first|refine st ?_|refine⟨λ_=>?_,λ_=>?_⟩|fail
   all_goals rfl
  ·obtain⟨b1,b2,b3,b4⟩:=hcv hab row
   rw[<- hq] at b1 b2 b3 b4
   rw[b1] at hM
   obtain⟨q1,q2⟩:=q
   dsimp only at b1 b2 b3 b4 hM ⊢
   clear hcv hso hx hco hg a1 a2 a3 a4 a5 a6 hde hdl hes hq b1
   obtain⟨f,hf⟩:∃z,z=I4 row (vK e.cr (r.map En.ch) a.toNat):=⟨_,rfl⟩
   rw[<- hf] at b2 b3 b4
   clear hf
   obtain⟨tm,tb,⟨⟨xnm,cs,ks,fs,xs⟩,dc,dk,df,dx⟩,ch⟩:=e
   have g1:0<=a:=by omega
   have g2:0<=b:=by omega
   have g3:a<=es.length:=by omega
   have g4:b<=es.length:=by omega
   cases f with
   |false=>
    have b4:=b4 rfl
    rw[if_pos rfl] at b2
    subst b4
    subst b2
    refine A7z.go A4 rfl ?_
    repeat' first|refine st ?_|refine⟨λ_=>?_,λ_=>?_⟩|fail
    all_goals rfl
   |true=>
    obtain⟨vs,b3⟩:=b3 rfl
    rw[if_neg (by decide)] at b2
    subst b3
    subst b2
    refine A7z.go A4 rfl ?_
    repeat' first|refine st ?_|refine⟨λ_=>?_,λ_=>?_⟩|fail
    all_goals rfl
abbrev w1:Vl:=⟨1,1,[]⟩
theorem D3i{x:TD}{l:List Ch}{a b:Nat}(h:a<=b)(row:List Vl):A0B x l a b row=V8 (((L2 x l).drop a).take (b-a)) row:=by unfold A0B;rw[if_pos h]
theorem D3h{x:TD}{l:List Ch}{a b:Nat}(h:b<=a)(row:List Vl):A0B x l a b row=Y4 (((L2 x l).drop b).take (a-b)) row:=by
 unfold A0B
 by_cases e:a=b
 ·subst e;rw[if_pos (G8 _),B1w,B8A]
 ·rw[if_neg (by omega)]
theorem D4k{α:Type}(row:List α)(i j:Nat)(h:i≠j):(row.eraseIdx i)[(A6 (j:Int) i).toNat]?=row[j]?:=by
 unfold A6
 rw[A4f]
 split
 ·rw[if_neg (by omega)]
  congr 1
  omega
 ·rw[if_pos (by omega)];rfl
theorem D4L{t:Tb}{c:Ch}(h:C7 t c=0)(h4:c.k≠4){row:List Vl}(hf:I4 row (kd t.cs)=true){j:Int}{v:Vl}(hj:0<=j)(hv:row[j.toNat]?=some v):A32 t c j=-1\/(0<=A32 t c j/\(Z7 t c row)[(A32 t c j).toNat]?=some v):=by
 obtain⟨q1,q2,q3,q4,q5⟩:=p8 h
 have hl:=(A0D hf).1
 rw[Q2] at hl
 have hjl:=(A7.1 hv).1
 unfold A32
 rw[if_neg (by omega)]
 unfold Z7
 by_cases k1:c.k=1
 ·rw[if_pos (by omega),if_pos k1]
  right
  refine⟨hj,?_⟩
  rw[K4 hjl];exact hv
 ·rw[if_neg k1]
  by_cases k2:c.k=2
  ·rw[if_neg (by omega),if_pos k2]
   obtain⟨i,co,hi,hco,_⟩:=A08 (q5 k1)
   rw[hi]
   by_cases hij:(i:Int)=j
   ·rw[if_pos hij];exact .inl rfl
   ·rw[if_neg hij]
    right
    obtain⟨n,rfl⟩:∃n:Nat,j=n:=⟨j.toNat,by omega⟩
    have e:=D4k row i n (by omega)
    rw[G7] at hv
    refine⟨?_,?_⟩
    ·unfold A6;split<;>omega
    ·rw[G7,e];exact hv
  ·rw[if_pos k2,if_neg k2,if_neg h4]
   exact .inr ⟨hj,hv⟩
theorem D2P{t:Tb}{c:Ch}(h:C7 t c=0)(h4:c.k≠4){row:List Vl}(hf:I4 row (kd (D7 t c).cs)=true){j:Int}{v:Vl}(hj:0<=j)(hv:row[j.toNat]?=some v):bkT t c j=-1\/(0<=bkT t c j/\(Y5 t c row)[(bkT t c j).toNat]?=some v):=by
 obtain⟨q1,q2,q3,q4,q5⟩:=p8 h
 have hl:=(A0D hf).1
 rw[Q2] at hl
 have hjl:=(A7.1 hv).1
 unfold bkT Y5
 unfold D7 at hl
 by_cases k1:c.k=1
 ·rw[if_pos k1] at hl ⊢
  dsimp only at hl
  rw[J0,A3r] at hl
  by_cases e:j=(t.cs.length:Int)
  ·rw[if_pos ⟨k1,e⟩];exact .inl rfl
  ·rw[if_neg (λh=>e h.2),if_neg (by omega)]
   right
   refine⟨hj,?_⟩
   rw[A7G (by omega)];exact hv
 ·rw[if_neg (λh=>k1 h.1),if_neg k1]
  by_cases k2:c.k=2
  ·rw[if_pos k2]
   obtain⟨i,co,hi,hco,_⟩:=A08 (q5 k1)
   have hil:=(A7.1 hco).1
   rw[if_neg k1,if_pos k2,hi,G7] at hl
   dsimp only at hl
   rw[A1s,if_pos hil] at hl
   rw[hi]
   right
   by_cases hij:(i:Int)<=j
   ·rw[if_pos ⟨k2,hij⟩]
    refine⟨by omega,?_⟩
    rw[G7,P8 (by rw[J1];omega),J1,A5O (by omega),show(j+1).toNat-i=(j.toNat-i)+1 by omega,l6,A0W,show i+(j.toNat-i)=j.toNat by omega]
    exact hv
   ·rw[if_neg (λh=>hij h.2)]
    refine⟨hj,?_⟩
    rw[G7,K4 (by rw[J1];omega),A7G (by omega)]
    exact hv
  ·rw[if_neg (λh=>k2 h.1),if_neg k2,if_neg h4]
   exact .inr ⟨hj,hv⟩
theorem D4Q(t:Tb)(c:Ch):A32 t c (-1)=-1:=by unfold A32;rw[if_pos (.inr (.inl (by decide)))]
theorem C0h{x:TD}{l:List Ch}(hb:N5 x l=true){a:Nat}{row:List Vl}(hf:I4 row (vK x l a)=true){j:Int}{v:Vl}(hj:0<=j)(hv:row[j.toNat]?=some v):∀k,a+k<=l.length->(∀(i:Nat) c,a<=i->i<a+k->l[i]?=some c->c.k≠4)->
  fwI (((L2 x l).drop a).take k) j=-1\/(0<=fwI (((L2 x l).drop a).take k) j/\(V8 (((L2 x l).drop a).take k) row)[(fwI (((L2 x l).drop a).take k) j).toNat]?=some v)
 |0,_,_=>.inr ⟨hj,by simpa[V8,fwI] using hv⟩
 |k+1,hk,hl=>by
  have ih:=C0h hb hf hj hv k (by omega) λi c h1 h2 h3=>hl i c h1 (by omega) h3
  obtain⟨c,hc⟩:∃c,l[a+k]?=some c:=⟨_,C3 (by omega)⟩
  have hff:=B1m hb hf k (by omega)
  have h1:=D4J (L2 x l) a (a+k) _ j (by omega) (A0P (x:=x) hc)
  have h2:=A8A (L2 x l) a (a+k) _ row (by omega) (A0P (x:=x) hc)
  rw[show a+k+1-a=k+1 by omega,show a+k-a=k by omega] at h1 h2
  rw[h1,h2]
  dsimp only
  rcases ih with e|⟨e1,e2⟩
  ·rw[e];exact .inl (D4Q _ _)
  ·exact D4L (A2y hb hc) (hl _ c (by omega) (by omega) hc) hff e1 e2
theorem C0g{x:TD}{l:List Ch}(hb:N5 x l=true){a:Nat}(ha:a<=l.length){row:List Vl}(hf:I4 row (vK x l a)=true){j:Int}{v:Vl}(hj:0<=j)(hv:row[j.toNat]?=some v):∀k,k<=a->(∀(i:Nat) c,a-k<=i->i<a->l[i]?=some c->c.k≠4)->
  bwI (((L2 x l).drop (a-k)).take k) j=-1\/(0<=bwI (((L2 x l).drop (a-k)).take k) j/\(Y4 (((L2 x l).drop (a-k)).take k) row)[(bwI (((L2 x l).drop (a-k)).take k) j).toNat]?=some v)
 |0,_,_=>.inr ⟨hj,by simpa[Y4,bwI] using hv⟩
 |k+1,hk,hl=>by
  have ih:=C0g hb ha hf hj hv k (by omega) λi c h1 h2 h3=>hl i c (by omega) h2 h3
  obtain⟨c,hc⟩:∃c,l[a-(k+1)]?=some c:=⟨_,C3 (by omega)⟩
  have hff:=B1k hb ha hf k (by omega)
  have h1:=D2N (L2 x l) a (a-(k+1)) _ j (by omega) (A0P (x:=x) hc)
  have h2:=A8c (L2 x l) a (a-(k+1)) _ row (by omega) (A0P (x:=x) hc)
  rw[show a-(a-(k+1))=k+1 by omega,show a-(a-(k+1)+1)=k by omega,show a-(k+1)+1=a-k by omega] at h1 h2
  rw[h1,h2]
  unfold bkI
  dsimp only
  have h3:=A7d hb hc
  rw[show a-(k+1)+1=a-k by omega] at h3
  rw[h3] at hff
  rcases ih with e|⟨e1,e2⟩
  ·rw[e];exact .inl (D2D (A2y hb hc))
  ·exact D2P (A2y hb hc) (hl _ c (by omega) (by omega) hc) hff e1 e2
structure Va(x:TD)(l:List Ch)(a b:Nat)(row:List Vl):Prop where
 t:H9 x.t=0
 s:N5 x l=true
 la:a<=l.length
 lb:b<=l.length
 f:I4 row (vK x l a)=true
theorem Va.e{x:TD}{l:List Ch}{a b:Nat}{row:List Vl}(h:Va x l a b row):Q4 x l=true:=by unfold Q4;rw[h.t,h.s];rfl
theorem Va.cnv{x:TD}{l:List Ch}{a b:Nat}{row:List Vl}(h:Va x l a b row):A0A x l a b row=.sl (B1 (A0B x l a b row)):=by
 unfold A0A
 have:=h.la
 have:=h.lb
 rw[if_neg,G7,G7]
 rw[h.e,G7,h.f]
 rintro(e|e|e|e|e|e)<;>first|omega|cases e
theorem keeps{x:TD}{l:List Ch}{a b:Nat}{row:List Vl}(h:Va x l a b row){j:Int}{v:Vl}(hj:0<=j)(hv:row[j.toNat]?=some v)(hl:∀(i:Nat) c,min a b<=i->i<max a b->l[i]?=some c->c.k≠4) :
  A6a x l a b j=-1\/(0<=A6a x l a b j/\(A0B x l a b row)[(A6a x l a b j).toNat]?=some v):=by
 have hjl:=(A7.1 hv).1
 have hrl:=(A0D h.f).1
 have ha:=h.la
 have hb:=h.lb
 unfold vK at hrl
 rw[Q2] at hrl
 have e:A6a x l a b j=if a<=b then fwI (((L2 x l).drop a).take (b-a)) j else bwI (((L2 x l).drop b).take (a-b)) j:=by
  unfold A6a
  rw[if_neg]
  ·simp only[G7]
   by_cases hab:a<=b
   ·rw[if_pos hab,if_pos (by omega)]
   ·rw[if_neg hab,if_neg (by omega)]
  ·rw[h.e,G7]
   rintro(e|e|e|e|e|e|e)<;>first|omega|cases e
 rw[e]
 by_cases hab:a<=b
 ·rw[if_pos hab,D3i hab]
  exact C0h h.s h.f hj hv (b-a) (by omega) λi c h1 h2 h3=>hl i c (by omega) (by omega) h3
 ·rw[if_neg hab,D3h (by omega)]
  have:=C0g h.s h.la h.f hj hv (a-b) (by omega) λi c h1 h2 h3=>hl i c (by omega) (by omega) h3
  rwa [show a-(a-b)=b by omega] at this
theorem D7q{x:TD}{l:List Ch}(h:Q4 x l=true):H9 x.t=0/\N5 x l=true:=by
 unfold Q4 at h
 rw[L6] at h
 exact⟨of_decide_eq_true h.1,h.2⟩
theorem D7V{x:TD}{l:List Ch}{a b:Int}{row:List Vl}(h:¬(Q4 x l=false\/a<0\/b<0\/(l.length:Int)<a\/(l.length:Int)<b\/I4 row (vK x l a.toNat)=false)):∃m n:Nat,a=m/\b=n/\Va x l m n row:=by
 simp only[not_or,Bool.not_eq_false] at h
 obtain⟨h1,h2,h3,h4,h5,h6⟩:=h
 obtain⟨k1,k2⟩:=D7q h1
 exact⟨a.toNat,b.toNat,by omega,by omega,k1,k2,by omega,by omega,h6⟩
theorem D3g(x:TD)(l:List Ch)(a b:Int)(row:List Vl):∃r,B3 (A0A x l a b row) (B1 r)/\r.length<=1048576:=by
 by_cases h:Q4 x l=false\/a<0\/b<0\/(l.length:Int)<a\/(l.length:Int)<b\/I4 row (vK x l a.toNat)=false
 ·unfold A0A
  rw[if_pos h]
  exact⟨[],A0i,by decide⟩
 ·obtain⟨m,n,rfl,rfl,hv⟩:=D7V h
  rw[hv.cnv]
  have h1:=(A0D (D4v hv.s hv.la hv.lb hv.f)).1
  have h2:=(A9i hv.t hv.s hv.lb).2
  exact⟨_,.inr rfl,by omega⟩
theorem C3q{q:D}{r:List Vl}(h:B3 q (B1 r))(hl:r.length<=1048576):Pure Tryz.prog B01 [.d q,.d q] (.d (.bool true)):=C4w r hl q q h h
theorem C4h(c:List En)(hi:l5 c)(hc:c.length<=1048576)(hok:∀e∈c,e.ok)(d:D)(hd:B3 d (D3 c))(nm:List UInt8)(a b:Int)(row:List Vl)(hr:row.length<=1048576)(hrs:∀v∈row,v.s.length<=1048576)(dr:D)(hdr:B3 dr (B1 row)) :
  Pure Tryz.prog B76 [.d d,.d (.str nm),.d (eI a),.d (eI b),.d dr] (.tup [.d (m6 (E5 D5 nm c) a b row).1,.d (eI (m6 (E5 D5 nm c) a b row).2)]):=by
 have hH:=A9E c hc d hd D5 nm
 have hsl:=A4X D5 nm c
 have hso:=A3b (at':=D5) (nm:=nm) hok
 have hg:=hi.sel nm
 obtain⟨s,hs⟩:∃s,s=E5 D5 nm c:=⟨_,rfl⟩
 rw[<- hs] at hH hsl hso hg ⊢
 clear hs
 cases s with
 |nil=>
  have hH:Bi.Pure Tryz.prog A7R [.d d,.d (eI D5),.d (.str nm)] (.tup [O1.av,.d (.sl []),.d (.bool false)]):=hH
  refine A7y.go A4 rfl ?_
  repeat' first|refine st ?_|refine⟨λ_=>?_,λ_=>?_⟩|fail
  all_goals rfl
 |cons e r=>
  obtain⟨a1,a2,a3,a4,a5,a6⟩:=A6n hg
  have hx:=(hso e (by simp)).cr
  have hco:∀k∈r.map En.ch,H6 k:=λk hk=>by
   obtain⟨y,hy,rfl⟩:=D9.1 hk
   exact(hso y (by simp[hy])).ch
  have hrl:(r.map En.ch).length<=1048576:=by rw[C6];simp at hsl;omega
  rw[a4,a5,a6] at hH
  have hM:=C4e e.cr hx (r.map En.ch) hrl hco (.sl (I3 (r.map En.ch))) J7 a b row hr hrs dr hdr
  have hkl:(I3 (r.map En.ch)).length=r.length:=by rw[A1d,C6]
  have hT:=B2X e.cr hx (r.map En.ch) hrl hco (.sl (I3 (r.map En.ch))) J7
  have hst:=B9Y hg
  unfold A6Q at hT
  rw[C1i,if_pos hst] at hT
  have hcv:=@B15 e r nm hg a b
  have hTl:=A8l (Y0 e.cr (r.map En.ch) ((r.map En.ch).length+1))
  have hTm:=A6d (Y0 e.cr (r.map En.ch) ((r.map En.ch).length+1))
  rw[show(Y0 e.cr (r.map En.ch) ((r.map En.ch).length+1)).length=r.length+1 by unfold Y0;rw[C6,List.length_range,C6]] at hTl
  have hTg:∀i,i<=r.length->∃y:TD,(Z5 (Y0 e.cr (r.map En.ch) ((r.map En.ch).length+1)))[i]?=some [.str y.t.nm,y.dc,y.dk,y.df,y.dx]/\y.ok/\nf y.t=nf (K8 e.cr ((r.map En.ch).take i)).t:=λi hi=>
   ⟨_,B1b (C1r e.cr (r.map En.ch) _ i (by rw[C6];omega)),A97 hx λc hc=>hco c (Z1 hc),C1N e.cr _ (B2i i hst)⟩
  obtain⟨Ts,hTs⟩:∃z,z=Z5 (Y0 e.cr (r.map En.ch) ((r.map En.ch).length+1)):=⟨_,rfl⟩
  rw[<- hTs] at hT hTl hTg hTm
  clear hTs
  obtain⟨q,hq⟩:∃q,q=m6 (e::r) a b row:=⟨_,rfl⟩
  rw[<- hq]
  have hvk:vK e.cr (r.map En.ch) a.toNat=kd (K8 e.cr ((r.map En.ch).take a.toNat)).t.cs:=rfl
  obtain⟨es,hes⟩:∃z,z=I3 (r.map En.ch):=⟨_,rfl⟩
  rw[<- hes] at hkl hT hM hH
  by_cases hab:a<0\/b<0\/(r.length:Int)<a\/(r.length:Int)<b
  ·have hq:q=(.nil,6):=by rw[hq];unfold m6;exact if_pos hab
   subst hq
   clear hM hcv hso hx hco hg a1 a2 a3 a4 a5 a6 hes hTg hT hst
   obtain⟨tm,tb,⟨⟨xnm,cs,ks,fs,xs⟩,dc,dk,df,dx⟩,ch⟩:=e
   have hab:a<0\/(0<=a/\(es.length:Int)<a)\/(0<=a/\a<=es.length/\b<0)\/(0<=a/\0<=b/\a<=es.length/\(es.length:Int)<b):=by omega
   refine A7y.go A4 rfl ?_
   rcases hab with h|⟨h,h1⟩|⟨h,h1,h2⟩|⟨h,h1,h2,h3⟩
   all_goals repeat' first|refine st ?_|refine⟨λ_=>?_,λ_=>?_⟩|fail
   all_goals rfl
  ·obtain⟨b1,b2,b3,b4⟩:=hcv hab row
   rw[<- hq] at b1 b2 b3 b4
   rw[b1] at hM
   obtain⟨q1,q2⟩:=q
   obtain⟨y,y1,y2,y3⟩:=hTg a.toNat (by omega)
   have hcs:y.t.cs=(K8 e.cr ((r.map En.ch).take a.toNat)).t.cs:=(C0M y3).2.1
   have hK:=A5h y.t.nm y.t.cs y2.tok.hl y.dc y.dk y.df y.dx y2.tok.dc
   have hF:=A7t row (kd y.t.cs) hr (by rw[Q2];exact y2.tok.hl) hrs dr hdr (.sl (A0 (kd y.t.cs))) J7
   rw[hvk,<- hcs] at b2 b3 b4
   obtain⟨f,hf⟩:∃z,z=I4 row (kd y.t.cs):=⟨_,rfl⟩
   rw[<- hf] at b2 b3 b4 hF
   obtain⟨K,hKK⟩:∃z,z=A0 (kd y.t.cs):=⟨_,rfl⟩
   rw[<- hKK] at hK hF
   dsimp only at b1 b2 b3 b4 hM ⊢
   clear hcv hso hx hco hg a1 a2 a3 a4 a5 a6 hes hq b1 hf hKK y2 y3 hcs hTg hst
   obtain⟨tm,tb,⟨⟨xnm,cs,ks,fs,xs⟩,dc,dk,df,dx⟩,ch⟩:=e
   obtain⟨⟨ynm,ycs,yks,yfs,yxs⟩,ydc,ydk,ydf,ydx⟩:=y
   have g1:0<=a:=by omega
   have g2:0<=b:=by omega
   have g3:a<=es.length:=by omega
   have g4:b<=es.length:=by omega
   have g5:a<Ts.length:=by omega
   cases f with
   |false=>
    have b4:=b4 rfl
    rw[if_pos rfl] at b2
    subst b4
    subst b2
    refine A7y.go A4 rfl ?_
    repeat' first|refine st ?_|refine⟨λ_=>?_,λ_=>?_⟩|fail
    all_goals rfl
   |true=>
    obtain⟨vs,b3⟩:=b3 rfl
    rw[if_neg (by decide)] at b2
    subst b3
    subst b2
    refine A7y.go A4 rfl ?_
    repeat' first|refine st ?_|refine⟨λ_=>?_,λ_=>?_⟩|fail
    all_goals rfl
theorem D3w{c:List En}(hi:l5 c)(nm:List UInt8)(a b:Int)(row:List Vl):∃r,B3 (m6 (E5 D5 nm c) a b row).1 (B1 r)/\r.length<=1048576:=by
 have hg:=hi.sel nm
 cases hs:E5 D5 nm c with
 |nil=>exact⟨[],A0i,by decide⟩
 |cons e r=>
  rw[hs] at hg
  by_cases hab:a<0\/b<0\/(r.length:Int)<a\/(r.length:Int)<b
  ·refine⟨[],?_,by decide⟩
   rw[show m6 (e::r) a b row=(.nil,6) from if_pos hab]
   exact A0i
  ·rw[<- (B15 hg hab row).1]
   exact D3g _ _ _ _ _
theorem C7e(c:List En)(hc:c.length<=1048575)(hok:∀e∈c,e.ok)(d:D)(hd:B3 d (D3 c))(nm:List UInt8)(a b:Int)(row:List Vl)(hr:row.length<=1048576)(hrs:∀v∈row,v.s.length<=1048576)(dr:D)(hdr:B3 dr (B1 row)) :
  Pure Tryz.prog B6z [.d d,.d (.str nm),.d (eI a),.d (eI b),.d dr] (.d (.bool true)):=by
 have h1:=C4g c hc hok d hd
 have hA:=C3E
 by_cases h0:o7 x5 [] c=0
 ·rw[h0] at h1
  have hi:l5 c:=B8P c [] C09 (by rw[D3b];exact h0)
  have h2:=C37 c hi (by omega) hok d hd nm a b row hr hrs dr hdr
  have h3:=C4h c hi (by omega) hok d hd nm a b row hr hrs dr hdr
  obtain⟨r,k1,k2⟩:=D3w hi nm a b row
  have s1:=C3q k1 k2
  obtain⟨⟨q1,q2⟩,hq⟩:∃q,q=m6 (E5 D5 nm c) a b row:=⟨_,rfl⟩
  rw[<- hq] at h2 h3 s1
  clear hq k1 hi h0 hd hok
  have r1:q2=q2:=rfl
  refine B3b.go A4 rfl ?_
  repeat' first|refine st ?_|refine⟨λ_=>?_,λ_=>?_⟩|fail
  all_goals first|rfl|(exfalso;simp_all;done)
 ·obtain⟨q,hq⟩:∃q,q=o7 x5 [] c:=⟨_,rfl⟩
  rw[<- hq] at h1 h0
  clear hq hd hok
  refine B3b.go A4 rfl ?_
  repeat' first|refine st ?_|refine⟨λ_=>?_,λ_=>?_⟩|fail
  all_goals rfl
abbrev B82:TypeId:=31
abbrev B83:TypeId:=22
abbrev B87:TypeId:=74
abbrev B88:TypeId:=24
abbrev B0G:TypeId:=27
theorem B8I:Tryz.prog.cellsOf B82=3:=by kernel_rfl
theorem D2Y:Tryz.prog.cellsOf B83=1:=by kernel_rfl
theorem B8K:Tryz.prog.cellsOf B89=1:=by kernel_rfl
theorem D31:Tryz.prog.cellsOf B87=2:=by kernel_rfl
theorem D32:Tryz.prog.cellsOf B88=1:=by kernel_rfl
theorem D33:Tryz.prog.cellsOf B0G=5:=by kernel_rfl
theorem C2m{ds:List D}(h:WT Tryz.prog B82 ds):∃c:Co,ds=c.ds:=by
 obtain⟨hl,hf⟩:=h.st' Tryz.underlying31
 rw[B8I] at hl
 match ds,hl with
 |[x,y,z],_=>
  have h0:=hf _ (R5 ..)
  have h1:=hf _ (J2 _ (R5 ..))
  have h2:=hf _ (J2 _ (J2 _ (R5 ..)))
  dsimp only at h0 h1 h2
  rw[A3E] at h0
  rw[A61] at h1
  rw[D2X] at h2
  obtain⟨a,ha⟩:=A2D h0
  obtain⟨b,hb⟩:=A2C h1
  obtain⟨s,hs⟩:=D89 h2
  simp at ha hb hs
  exact⟨⟨a,b,s⟩,by rw[ha,hb,hs]⟩
theorem D8b{ds:List D}(h:WT Tryz.prog B83 ds):∃d l,ds=[d]/\B3 d (A9 l):=by
 obtain⟨d,es,h1,h2,h4,h3⟩:=h.sl' Tryz.underlying22
 have:∃l,es=A9 l:=by
  clear h1 h2 h4
  induction es with
  |nil=>exact⟨[],rfl⟩
  |cons x es ih=>
   obtain⟨n,hn⟩:=C2m (h3 x (by simp))
   obtain⟨ks,hk⟩:=ih λy hy=>h3 y (by simp[hy])
   exact⟨n::ks,by rw[hn,hk];rfl⟩
 obtain⟨ks,rfl⟩:=this
 exact⟨d,ks,h1,h2⟩
theorem D8g{ds:List D}(h:WT Tryz.prog B87 ds):∃f:Fo,ds=f.ds:=by
 obtain⟨hl,hf⟩:=h.st' Tryz.underlying74
 rw[D31] at hl
 match ds,hl with
 |[x,y],_=>
  have h0:=hf _ (R5 ..)
  have h1:=hf _ (J2 _ (R5 ..))
  dsimp only at h0 h1
  rw[B8K] at h0
  rw[A3E] at h1
  obtain⟨d,ks,ha,hd⟩:=C2n h0
  obtain⟨s,hs⟩:=A2D h1
  simp at ha hs
  rcases hd with ⟨rfl,he⟩|rfl
  ·have:ks=[]:=by cases ks with
    |nil=>rfl
    |cons k ks=>cases he
   subst this
   exact⟨⟨true,[],s⟩,by rw[ha,hs];rfl⟩
  ·exact⟨⟨false,ks,s⟩,by rw[ha,hs];rfl⟩
theorem D8h{ds:List D}(h:WT Tryz.prog B88 ds):∃d l,ds=[d]/\B3 d (G5 l):=by
 obtain⟨d,es,h1,h2,h4,h3⟩:=h.sl' Tryz.underlying24
 have:∃l,es=G5 l:=by
  clear h1 h2 h4
  induction es with
  |nil=>exact⟨[],rfl⟩
  |cons x es ih=>
   obtain⟨n,hn⟩:=D8g (h3 x (by simp))
   obtain⟨ks,hk⟩:=ih λy hy=>h3 y (by simp[hy])
   exact⟨n::ks,by rw[hn,hk];rfl⟩
 obtain⟨ks,rfl⟩:=this
 exact⟨d,ks,h1,h2⟩
theorem D2s(d:D):o6 Tryz.prog B0F [d]=.d d:=by unfold o6;rw[Tryz.underlying9]
theorem D3r{d:D}{l:List Co}(h:B3 d (A9 l)):l.length<=E4 [d]/\∀v∈l,v.nm.length<=E4 [d]:=by
 have h1:=A4Y h
 have h2:(A9 l).length<=H4 (A9 l):=A4u λx hx=>by
  obtain⟨k,_,rfl⟩:=D9.1 hx
  simp only[Co.ds,E4,S8];omega
 rw[F3] at h2
 refine⟨by omega,λv hv=>?_⟩
 have h3:E4 v.ds<=H4 (A9 l):=A2g (D9.2 ⟨v,hv,rfl⟩)
 have h4:v.nm.length<=E4 v.ds:=by simp only[Co.ds,E4,S8];omega
 omega
theorem D4D{d:D}{l:List Fo}(h:B3 d (G5 l)):l.length<=E4 [d]/\∀f∈l,f.cs.length<=E4 [d]/\f.tb.length<=E4 [d]:=by
 have h1:=A4Y h
 have h2:(G5 l).length<=H4 (G5 l):=A4u λx hx=>by
  obtain⟨k,_,rfl⟩:=D9.1 hx
  simp only[Fo.ds,E4,S8];omega
 rw[A0C] at h2
 refine⟨by omega,λv hv=>?_⟩
 have h3:E4 v.ds<=H4 (G5 l):=A2g (D9.2 ⟨v,hv,rfl⟩)
 have h4:v.tb.length<=E4 v.ds:=by simp only[Fo.ds,E4,S8];omega
 have h5:v.cs.length<=E4 [v.d]:=C08 v.sld
 have h6:E4 [v.d]<=E4 v.ds:=by simp only[Fo.ds,E4];omega
 omega
theorem D4r{d:D}{l:List Ex}(h:B3 d (xL l)):l.length<=E4 [d]/\∀e∈l,e.bk<=E4 [d]:=by
 have h1:=A4Y h
 have h2:=C2s l
 refine⟨by omega,λv hv=>?_⟩
 have h3:E4 v.ds<=H4 (xL l):=A2g (D9.2 ⟨v,hv,rfl⟩)
 unfold Ex.bk
 omega
theorem D7w{t:Tb}{dc dk df dx:D}(hb:E4 [.str t.nm,dc,dk,df,dx]<=1048576)(hc:B3 dc (A9 t.cs))(hk:B3 dk (A0 t.ks))(hf:B3 df (G5 t.fs))(hx:B3 dx (xL t.xs)):N6 t dc dk df dx:=by
 have h1:=D3r hc
 have h2:=C08 hk
 have h3:=D4D hf
 have h4:=D4r hx
 have e:E4 [.str t.nm,dc,dk,df,dx]=t.nm.length+1+(E4 [dc]+(E4 [dk]+(E4 [df]+E4 [dx]))):=by simp only[E4,S8];omega
 rw[e] at hb
 exact {hn:=by omega,hl:=by omega,hls:=λc hc=>O4 (h1.2 c hc) (by omega),hk:=by omega,hfl:=by omega,hfc:=λf hf=>⟨O4 (h3.2 f hf).1 (by omega),O4 (h3.2 f hf).2 (by omega)⟩,hxs:=by omega,hxb:=λe he=>O4 (h4.2 e he) (by omega),dc:=hc,dk:=hk,df:=hf,dx:=hx}
abbrev B81:TypeId:=42
theorem B8H:Tryz.prog.cellsOf B81=9:=by kernel_rfl
abbrev Ch.ds(c:Ch):List D:=[eI c.k,.str c.nm,.str c.to,.str c.co.nm,eI c.co.k,.bool c.co.nl,eI c.df.k,eI c.df.n,.str c.df.s]
theorem D8a{ds:List D}(h:WT Tryz.prog B81 ds):∃c:Ch,ds=c.ds:=by
 obtain⟨hl,hf⟩:=h.st' Tryz.underlying42
 rw[B8H] at hl
 match ds,hl with
 |[d0,d1,d2,d3,d4,d5,d6,d7,d8],_=>
  have h0:=hf _ (R5 ..)
  have h1:=hf _ (J2 _ (R5 ..))
  have h2:=hf _ (J2 _ (J2 _ (R5 ..)))
  have h3:=hf _ (J2 _ (J2 _ (J2 _ (R5 ..))))
  have h4:=hf _ (J2 _ (J2 _ (J2 _ (J2 _ (R5 ..)))))
  dsimp only at h0 h1 h2 h3 h4
  rw[A61] at h0
  rw[A3E] at h1 h2
  rw[B8I] at h3
  rw[B0U] at h4
  obtain⟨k,h0⟩:=A2C h0
  obtain⟨nm,h1⟩:=A2D h1
  obtain⟨to,h2⟩:=A2D h2
  obtain⟨co,h3⟩:=C2m h3
  obtain⟨df,h4⟩:=B2u h4
  simp at h0 h1 h2 h3 h4
  obtain⟨e3,e4,e5⟩:=h3
  obtain⟨e6,e7,e8⟩:=h4
  exact⟨⟨k,nm,to,co,df⟩,by rw[h0,h1,h2,e3,e4,e5,e6,e7,e8]⟩
theorem D35{c:Ch}(hb:E4 c.ds<=1048576):H6 c:=by
 simp only[Ch.ds,E4,S8] at hb
 exact⟨by omega,by omega,by omega,by omega⟩
abbrev TD.ds(x:TD):List D:=[.str x.t.nm,x.dc,x.dk,x.df,x.dx]
theorem D8i{ds:List D}(h:WT Tryz.prog B0G ds):∃x:TD,ds=x.ds/\B3 x.dc (A9 x.t.cs)/\B3 x.dk (A0 x.t.ks)/\B3 x.df (G5 x.t.fs)/\B3 x.dx (xL x.t.xs)/\x.t.Rg:=by
 obtain⟨hl,hf⟩:=h.st' Tryz.underlying27
 rw[D33] at hl
 match ds,hl with
 |[d0,d1,d2,d3,d4],_=>
  have h0:=hf _ (R5 ..)
  have h1:=hf _ (J2 _ (R5 ..))
  have h2:=hf _ (J2 _ (J2 _ (R5 ..)))
  have h3:=hf _ (J2 _ (J2 _ (J2 _ (R5 ..))))
  have h4:=hf _ (J2 _ (J2 _ (J2 _ (J2 _ (R5 ..)))))
  dsimp only at h0 h1 h2 h3 h4
  rw[A3E] at h0
  rw[D2Y] at h1
  rw[B8K] at h2
  rw[D32] at h3
  rw[B8J] at h4
  obtain⟨s,hs⟩:=A2D h0
  obtain⟨dc,l,h1,hc⟩:=D8b h1
  obtain⟨dk,ks,h2,hk⟩:=C2n h2
  obtain⟨df,fs,h3,hf⟩:=D8h h3
  obtain⟨nl,xs,h4,hx⟩:=D8f h4
  simp at hs h1 h2 h3 h4
  exact⟨⟨⟨s,l,ks,fs,xs⟩,dc,dk,df,ng nl (xL xs)⟩,by rw[hs,h1,h2,h3,h4],hc,hk,hf,t7,hx⟩
theorem D7x{x:TD}(hb:E4 x.ds<=1048576)(h:B3 x.dc (A9 x.t.cs)/\B3 x.dk (A0 x.t.ks)/\B3 x.df (G5 x.t.fs)/\B3 x.dx (xL x.t.xs)/\x.t.Rg):x.ok:=
 ⟨D7w hb h.1 h.2.1 h.2.2.1 h.2.2.2.1,h.2.2.2.2⟩
abbrev B84:TypeId:=59
abbrev B85:TypeId:=32
theorem D2Z:Tryz.prog.cellsOf B84=16:=by kernel_rfl
theorem D34:Tryz.prog.cellsOf B0G=5:=by kernel_rfl
def EnW(e:En):Prop:=B3 e.cr.dc (A9 e.cr.t.cs)/\B3 e.cr.dk (A0 e.cr.t.ks)/\B3 e.cr.df (G5 e.cr.t.fs)/\B3 e.cr.dx (xL e.cr.t.xs)/\e.cr.t.Rg
theorem D8c{ds:List D}(h:WT Tryz.prog B84 ds):∃e:En,ds=e.ds/\EnW e:=by
 obtain⟨hl,hf⟩:=h.st' Tryz.underlying59
 rw[D2Z] at hl
 match ds,hl with
 |[d0,d1,d2,d3,d4,d5,d6,d7,d8,d9,d10,d11,d12,d13,d14,d15],_=>
  have h0:=hf _ (R5 ..)
  have h1:=hf _ (J2 _ (R5 ..))
  have h2:=hf _ (J2 _ (J2 _ (R5 ..)))
  have h3:=hf _ (J2 _ (J2 _ (J2 _ (R5 ..))))
  dsimp only at h0 h1 h2 h3
  rw[A61] at h0
  rw[A3E] at h1
  rw[D34] at h2
  rw[B8H] at h3
  obtain⟨a,h0⟩:=A2C h0
  obtain⟨s,h1⟩:=A2D h1
  obtain⟨x,h2,hx⟩:=D8i h2
  obtain⟨c,h3⟩:=D8a h3
  simp at h0 h1 h2 h3
  obtain⟨e0,e1,e2,e3,e4⟩:=h2
  obtain⟨f0,f1,f2,f3,f4,f5,f6,f7,f8⟩:=h3
  exact⟨⟨a,s,x,c⟩,by rw[h0,h1,e0,e1,e2,e3,e4,f0,f1,f2,f3,f4,f5,f6,f7,f8],hx⟩
theorem D8d{ds:List D}(h:WT Tryz.prog B85 ds):∃d c,ds=[d]/\B3 d (D3 c)/\∀e∈c,EnW e:=by
 obtain⟨d,es,h1,h2,h4,h3⟩:=h.sl' Tryz.underlying32
 have:∃c,es=D3 c/\∀e∈c,EnW e:=by
  clear h1 h2 h4
  induction es with
  |nil=>exact⟨[],rfl,λe he=>absurd he (by simp)⟩
  |cons x es ih=>
   obtain⟨n,hn,hw⟩:=D8c (h3 x (by simp))
   obtain⟨ks,hk,hv⟩:=ih λy hy=>h3 y (by simp[hy])
   refine⟨n::ks,by rw[hn,hk];rfl,λe he=>?_⟩
   rcases I6.1 he with rfl|he
   ·exact hw
   ·exact hv e he
 obtain⟨c,rfl,hw⟩:=this
 exact⟨d,c,h1,h2,hw⟩
theorem D2r(d:D):o6 Tryz.prog B85 [d]=.d d:=by unfold o6;rw[Tryz.underlying32]
theorem D42{e:En}(hb:E4 e.ds<=1048576)(h:EnW e):e.ok:=by
 have h1:E4 e.cr.ds<=1048576:=by simp only[En.ds,TD.ds,E4] at hb ⊢;omega
 have h2:E4 e.ch.ds<=1048576:=by simp only[En.ds,Ch.ds,E4] at hb ⊢;omega
 exact⟨D7x h1 h,D35 h2,by simp only[En.ds,E4,S8] at hb;omega⟩
theorem D43{d:D}{c:List En}(h:B3 d (D3 c))(hw:∀e∈c,EnW e)(hb:E4 [d]<=1048576):c.length<=1048575/\∀e∈c,e.ok:=by
 have h1:=A4Y h
 have h2:(D3 c).length<=H4 (D3 c):=A4u λx hx=>by
  obtain⟨k,_,rfl⟩:=D9.1 hx
  simp only[En.ds,E4,S8];omega
 rw[Z4] at h2
 refine⟨?_,λv hv=>?_⟩
 ·rcases h with ⟨rfl,h⟩|rfl
  ·have:=Z4 c;rw[h] at this;simp at this;omega
  ·simp only[E4,S8] at hb;omega
 ·have h3:E4 v.ds<=H4 (D3 c):=A2g (D9.2 ⟨v,hv,rfl⟩)
  exact D42 (by omega) (hw v hv)
end Go.Proofs
end
section
set_option maxRecDepth 100000
namespace Go.Proofs.YtnhhopmldgpglaaGreatDoor
open Go Go.Bi Go.Proofs Go.Lib
abbrev A9O:List (String×DataW Unit):=[("math/bits.deBruijn32tab",Rows.laid_math_bits_deBruijn32tab),("math/bits.deBruijn64tab",Rows.laid_math_bits_deBruijn64tab),("internal/strconv.uint64pow10",Rows.laid_internal_strconv_uint64pow10),("unicode/utf8.acceptRanges",Rows.laid_unicode_utf8_acceptRanges),("unicode/utf8.first",Rows.laid_unicode_utf8_first)]
abbrev C1f:List Int:=(List.range 20).map λi=>((10 ^ i:Nat):Int)
theorem B9W:Tryz.prog.globalNamed "internal/strconv.uint64pow10" = some 0:=by kernel_rfl
theorem D7E:(Tryz.prog.globals[0]?).map (·.type)=some 230:=by kernel_rfl
theorem D6H:(Rows.laid_internal_strconv_uint64pow10:DataW Unit)=tabData .u64 C1f:=by rfl
theorem D6G{W:World}(hL:laidMet Tryz.prog A9O W):TabIs Tryz.prog W "internal/strconv.uint64pow10" .u64 C1f:=by
 obtain⟨ps,⟨_,_,_,_,_,_,_,_,_,_,⟨_,_,_,_,_,_,_,_,_,_,⟨g,t,cs,fuel,p,q,hg,hty,hv,hd,_,_⟩,_⟩,_⟩,_,_⟩:=hL
 obtain rfl:=A1z (hg.symm.trans B9W)
 obtain rfl:=A1z (hty.symm.trans D7E)
 rw[D6H] at hd
 unfold TabIs
 rw[hv,<- cells_of_tab Tryz.underlying230 Tryz.underlying179 (by kernel_rfl) (by kernel_rfl) hd]
theorem D6X:(((begin Tryz.prog (λ_ _=>0) default).world.heap[0]?).bind Obj.row?).isSome=true:=by kernel_rfl
theorem C1B:((begin Tryz.prog (λ_ _=>0) default).world.heap[1]?).bind Obj.row?=some (#[.int .i64 0],3):=by kernel_rfl
theorem D4O{W:World}(hL:laidMet Tryz.prog A9O W)(hs:W.ShapedOpen Tryz.prog):∀b,J9.has b->∃o,W.heap[b]?=some o/\J9.ok b o:=by
 intro b hb
 rcases hb with rfl|rfl
 ·obtain⟨⟨zero,t⟩,hz⟩:=Option.isSome_iff_exists.1 D6X
  obtain⟨cs,hh,_,_⟩:=hs.1 0 zero t (of_decide_eq_true (by kernel_rfl)) hz
  have h:=D6G hL
  unfold TabIs World.var? at h
  rw[B9W,Option.bind_some,hh] at h
  have h:=A1z h
  refine⟨_,hh,λ_=>⟨_,_,by rw[h];rfl⟩,λe=>absurd e (by decide)⟩
 ·obtain⟨cs,hh,hsz,hr⟩:=hs.1 1 _ _ (of_decide_eq_true (by kernel_rfl)) C1B
  obtain⟨m,hm⟩:=cell_of_shapedOpen_int hs (of_decide_eq_true (by kernel_rfl)) C1B rfl (by kernel_rfl) (by kernel_rfl) Tryz.underlying3
  refine⟨_,hh,λe=>absurd e (by decide),λ_=>⟨m,3,(0,0),?_⟩⟩
  have h1:cs.size=1:=hsz
  have h2:cs[0]?=some (.int .i64 m):=by simpa[World.cell?,hh] using hm
  congr 1
  refine Array.ext (by simpa using h1) λi hi1 hi2=>?_
  have:i=0:=by simp at hi2;omega
  subst this
  rw[J4 hi1] at h2
  simpa using A1z h2
def C0m:DataW Unit->List Value
 |.lit (.int k z)=>[.int k z]
 |_=>[]
def A6Y:DataW Unit->Array Value
 |.agg l=>(l.flatMap λd=>match d with
  |.agg m=>m.flatMap C0m
  |d=>C0m d).toArray
 |_=>#[]
noncomputable def A6s (os:Os):World:=
 {World.holding Tryz.prog os ⟨#[],#[],[]⟩ with heap:=⟨.cells (A6Y Rows.laid_internal_strconv_uint64pow10) 230 (0,0)::.cells #[.int .i64 0] 3 (0,0)::.cells (A6Y Rows.laid_unicode_utf8_first) 235 (0,0)::.cells (A6Y Rows.laid_unicode_utf8_acceptRanges) 238 (0,0)::.cells (A6Y Rows.laid_math_bits_deBruijn32tab) 244 (0,0)::.cells (A6Y Rows.laid_math_bits_deBruijn64tab) 245 (0,0)::(World.holding Tryz.prog os ⟨#[],#[],[]⟩).heap.toList.drop 6⟩}
theorem D5o(os:Os)(args:Array Value):laidMet Tryz.prog A9O ((A6s os).forCall (λ_ _=>0) ⟨#[],args,[]⟩).memory:=
 laidMet_of_run' 8 (by kernel_rfl) (by kernel_rfl)
theorem D7Z(os:Os)(args:Array Value):((A6s os).forCall (λ_ _=>0) ⟨#[],args,[]⟩).variablesB Tryz.prog=true:=by kernel_rfl
theorem D6U(os:Os)(args:Array Value):((((A6s os).forCall (λ_ _=>0) ⟨#[],args,[]⟩).heap.toList.drop Tryz.prog.globals.size).take ((begin Tryz.prog (λ_ _=>0) default).world.heap.size-Tryz.prog.globals.size))=(begin Tryz.prog (λ_ _=>0) default).world.heap.toList.drop Tryz.prog.globals.size:=by kernel_rfl
end Go.Proofs.YtnhhopmldgpglaaGreatDoor
end
