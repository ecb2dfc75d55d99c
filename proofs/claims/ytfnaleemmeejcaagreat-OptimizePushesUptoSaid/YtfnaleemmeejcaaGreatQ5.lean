/- Texts of this claim, joined. No condition. -/
import Derived.Test.YtfnaleemmeejcaaGreatQ4
set_option linter.unusedSimpArgs false
set_option linter.unusedVariables false
set_option maxRecDepth 10000
set_option maxHeartbeats 4000000
section
namespace Go.Bi
structure j0(n nb:Nat)(L:Sl)(os:List AO)(L2:Sl)(os2:List AO):Prop where
 un:A05 n nb (E8 L) os (E8 L2) os2
theorem j0.keep{n nb:Nat}{L:Sl}{os:List AO}{ts ks:List Nat}{vs ws vs':List AV}{os2:List AO}(h0:R0 L ts=vs')(h1:vs=vs')(h2:ws=R0 L ks)(m:Nat)(hm:Nat.ble nb m=true)(ho:os.take m=os2)
  (hb:vs.all (λv=>v.bndB m)=true) (hb2:ws.all (λv=>v.bndB m)=true) (hb3:os2.all (λo=>o.bndB m)=true):j0 n nb L os (U1 ts vs++U1 ks ws) os2:=
 ⟨A34 (h1.trans h0.symm) h2 m (R3 hm) ho hb hb2 hb3⟩
theorem j0.frz{n nb:Nat}{L L2:Sl}{os os2:List AO}(t:Nat){id len sz frz:Nat}{nl:Bool}{es:List (List D)}(ht:E8 L t=.arr id len)(ho:os[id]?=some (.arr es sz frz nl))(hl:len=es.length)
  (k:j0 n nb ((t,.d (if nl then .nil else .sl es))::L) (os.set id (.arr es sz es.length nl)) L2 os2):j0 n nb L os L2 os2:=by
 have hw:=C4j (n:=n) (nb:=nb) (ρ:=E8 L) (os:=os) t ht ho hl
 rw[A9l] at hw
 exact⟨hw.trans k.un⟩
theorem j0.refl{n nb:Nat}{L:Sl}{os:List AO}:j0 n nb L os L os:=⟨λc M G w a h=>⟨M,G,h⟩⟩
theorem B08{P:Program}{n nb:Nat}{cd:IC}{N:Sl->List AO->Prop}{E0:Nat->Sl->List AO->Prop}{R:Sl->List AO->Prop}{L:Sl}{os:List AO}
  (h:s8 P n nb cd N (λi L os=>∃L2 os2,j0 n nb L os L2 os2/\E0 i L2 os2) R L os):s8 P n nb cd N E0 R L os:=by
 refine⟨λcode hc c M G w a hR=>wp_mono (h.h code hc c M G w a hR) λe a' w' hp=>?_⟩
 cases e with
 |exit id=>
  obtain⟨M',G',os',ρ',hR',L1,rfl,L2,os2,hw,he⟩:=hp
  obtain⟨M2,G2,hR2⟩:=hw.un c M' G' w' a' hR'
  exact⟨M2,G2,os2,_,hR2,L2,rfl,he⟩
 |normal=>exact hp
 |ret=>exact hp
 |_=>exact hp.elim
end Go.Bi
namespace Go.Proofs
open Go.Bi
def R8(x y:Kd):Bool:=decide (K5 y.key x.key=0)
def S4(ags:List Ag):List Kd->List B5
 |[]=>[]
 |x::r=>R2 x.key (A8 ((x::r.takeWhile (R8 x)).map Kd.rw)) ags::S4 ags (r.dropWhile (R8 x))
termination_by l=>l.length
decreasing_by
 simp only[H9]
 have:=(A4L (l:=r) (R8 x)).length_le
 omega
def kdL(keys:List Int)(l:List Rw):List Kd:=l.map λr=>⟨pick r.vs keys,r⟩
def t7(keys:List Int)(ags:List Ag)(l:List Rw):List B5:=
 if l.isEmpty&&keys.isEmpty then [R2 [] [] ags] else S4 ags (N6 (kdL keys l))
theorem B2c(ags:List Ag):∀(n:Nat)(l:List Kd),l.length<=n->(S4 ags l).length<=l.length
 |_,[],_=>by rw[S4];exact D3 _
 |0,x::r,h=>by simp at h
 |n+1,x::r,h=>by
  rw[S4]
  simp only[H9] at h ⊢
  have:=(A4L (l:=r) (R8 x)).length_le
  have:=B2c ags n (r.dropWhile (R8 x)) (by omega)
  omega
theorem C20(ags:List Ag):∀(n:Nat)(l:List Kd),l.length<=n->∀r∈S4 ags l,∃x∈l,∃rs:List B5,r=R2 x.key rs ags
 |_,[],_,r,h=>by rw[S4] at h;cases h
 |0,x::r,h,_,_=>by simp at h
 |n+1,x::t,h,r,hr=>by
  rw[S4] at hr
  simp only[H9] at h
  have:=(A4L (l:=t) (R8 x)).length_le
  rcases H2.1 hr with rfl|hr
  ·exact⟨x,by simp,_,rfl⟩
  ·obtain⟨y,hy,rs,h2⟩:=C20 ags n (t.dropWhile (R8 x)) (by omega) r hr
   exact⟨y,I2 _ ((A4L (l:=t) (R8 x)).mem hy),rs,h2⟩
theorem C0K(a:B5):K5 a a=0:=B1H.2 rfl
theorem A9H{x y:Kd}{l:List Kd}(h:K5 y.key x.key=0):(y::l).takeWhile (R8 x)=y::l.takeWhile (R8 x)/\(y::l).dropWhile (R8 x)=l.dropWhile (R8 x):=by
 have:R8 x y=true:=decide_eq_true h
 rw[List.takeWhile_cons,this,A62,this]
 exact⟨rfl,rfl⟩
theorem C3A{x y:Kd}{l:List Kd}(h:¬K5 y.key x.key=0):(y::l).takeWhile (R8 x)=[]/\(y::l).dropWhile (R8 x)=y::l:=by
 have:R8 x y=false:=decide_eq_false h
 rw[List.takeWhile_cons,this,A62,this]
 exact⟨rfl,rfl⟩
theorem B2B(key:B5)(rs:List B5)(ags:List Ag):(R2 key rs ags).length=key.length+ags.length:=by unfold R2;rw[H8,D8]
theorem C5N(ks:List Int)(hks:ks.length<=1073741824)(dk:D)(hdk:A9 dk (A5 ks))(l:List Rw)(hl:l.length<=4294967296)(ho:∀r∈l,A3i r.vs)(dr:D)(hd:A9 dr (B7 l))(keys:List Int)(hkl:keys.length<=1073741824)(dy:D)(hdy:A9 dy (A5 keys))(ags:List Ag)(hal:ags.length<=1073741824)(har:∀a∈ags,∀r∈l,a.arg<r.vs.length)(da:D)(hda:A9 da (I0 ags)) :
  Pure Tryz.prog B8R [O6 dk dr,.d dy,.d da] (O6 (X8 (A5 (Q2 ks keys ags).1).isEmpty (A5 (Q2 ks keys ags).1)) (.sl (rD (D1 (t7 keys ags l))))):=by
 have hG:=B43 ks hks dk hdk keys hkl dy hdy ags hal da hda
 obtain⟨kd,hkd⟩:∃z,z=X8 (A5 (Q2 ks keys ags).1).isEmpty (A5 (Q2 ks keys ags).1):=⟨_,rfl⟩
 rw[<- hkd] at hG ⊢
 obtain⟨ke,hke⟩:∃z,z=(Q2 ks keys ags).2:=⟨_,rfl⟩
 rw[<- hke] at hG
 clear hkd hke hdk hks
 have hP:=λ(r:Rw) (h:r∈l)=>C6i r.vs (ho r h).1 r.d C7 keys hkl dy hdy
 have l1:=U8 l
 have m1:=X2 l
 have g1:=λi r=>@A0W l i r
 obtain⟨es,hes⟩:∃z,z=B7 l:=⟨_,rfl⟩
 rw[<- hes] at hd l1 m1 g1
 have l2:=F9 keys
 have m2:=I1 keys
 have hOrd:l=[]\/(Bi.Pure Tryz.prog A8j [.d (.sl (G9 (kdL keys l)))] (.d (.sl (G9 (N6 (kdL keys l)))))):=.inr (C5Y _ _ (D3 _) (by unfold kdL;rw[D8];exact hl) (λr h=>by
  obtain⟨x,_,rfl⟩:=D7.1 h
  show(keys.map _).length<=_
  rw[D8];omega))
 have hsz:(kdL keys l).length=l.length:=by unfold kdL;rw[D8]
 obtain⟨fs,hfs⟩:∃z,z=A5 keys:=⟨_,rfl⟩
 rw[<- hfs] at hdy l2 m2
 clear hes hfs
 refine C7N.go A6 rfl ?_
 repeat' first|refine st ?_|((with_reducible apply A4);conv=>whnf)|refine⟨λ_=>?_,λ_=>?_⟩|fail
 refine U7 10 2 rfl rfl ?_
 refine A1U 2 1 1 rfl rfl rfl ?_
 refine L6 A6 D0M C9v (λ(i:Nat) (w:List Kd)=>[.arr 3 (G9 w).length,.d (eI i)]) (λi w=>[.cells [.d dk,.d dr],.cells [.d .nil,.d .nil],.cells [.d kd,.arr 4 0],.arr (G9 w) 2 0 (G9 w).isEmpty,.arr [] 1 0 true]) (λi w=>i<=l.length/\w=kdL keys (l.take i)) (λi w=>l.length-i) 0 [] rfl rfl rfl rfl (λ_ _ _=>⟨rfl,rfl⟩) rfl ⟨by omega,rfl⟩ ?_
 repeat' first|refine st ?_|((with_reducible apply A4);conv=>whnf)|refine⟨λ_=>?_,λ_=>?_⟩|fail
 intro i w ⟨i1,i2⟩
 have hwl:w.length=i:=by rw[i2];unfold kdL;rw[D8,M4];omega
 have hw1:=A4f w
 have hwm:=A5e w
 have hbd:((G9 w).length+1)*48<=140737488355328:=by omega
 cases hx:l[i]? with
 |some r=>
  have hlt:=(B4.1 hx).1
  have hil:(i:Int)<es.length:=by omega
  have e1:es[((i:Nat):Int).toNat]?=some [r.d]:=g1 i r hx
  have hP:=hP r (C3 hx)
  have hft:kdL keys (l.take (i+1))=w++[⟨pick r.vs keys,r⟩]:=by
   rw[i2,L8,hx];simp[kdL]
  have happ:G9 (w++[⟨pick r.vs keys,r⟩])=G9 w++[[.sl (B6 (pick r.vs keys)),r.d]]:=by rw[A6K];rfl
  obtain⟨A,hA⟩:∃z,z=G9 w:=⟨_,rfl⟩
  rw[<- hA] at hw1 hwm hbd happ ⊢
  obtain⟨kk,hkk⟩:∃z,z=B6 (pick r.vs keys):=⟨_,rfl⟩
  rw[<- hkk] at hP happ
  obtain⟨rd,hrd⟩:∃z,z=r.d:=⟨_,rfl⟩
  rw[<- hrd] at hP happ e1
  clear hrd hkk i2 hx g1 hOrd har ho
  repeat' first|refine st ?_|((with_reducible apply A4);conv=>whnf)|refine⟨λ_=>?_,λ_=>?_⟩|fail
  exact⟨i+1,w++[⟨pick r.vs keys,r⟩],by rw[happ];simp,rfl,by rw[happ];simp,by omega,by omega,hft.symm⟩
 |none=>
  have hge:=E9.1 hx
  have hil:(es.length:Int)<=i:=by omega
  rw[H4 hge] at i2
  cases l with
  |nil=>
   have hw0:w=[]:=i2
   subst hw0
   have hN:=C5Z
   have hAe:G9 []=[]:=rfl
   rw[hAe]
   clear i2 hP hOrd hbd hwm hw1 g1 hx hwl
   by_cases hk:keys=[]
   ·have hq:t7 keys ags []=[R2 [] [] ags]:=by unfold t7;rw[hk];rfl
    rw[hq]
    have hO:=B0m [] (by decide) .nil (.inl ⟨rfl,rfl⟩) [] (by decide) .nil (.inl ⟨rfl,rfl⟩) ags (by omega) (λa _ r hr=>by cases hr) da hda
    have hO:Bi.Pure Tryz.prog B15 [.d .nil,.d .nil,.d da] (.d (.sl (B6 (R2 [] [] ags)))):=hO
    have hS:=A0p (J0 [R2 [] [] ags]) (by unfold J0;simp) (λr h=>by
     obtain⟨x,hx,rfl⟩:=D7.1 h
     rw[M7.1 hx]
     show(R2 [] [] ags).length<=_
     rw[B2B];simp;omega) (.sl [[.sl (B6 (R2 [] [] ags))]]) (.inr rfl)
    rw[A33] at hS
    obtain⟨S,hSS⟩:∃z,z=rD (D1 [R2 [] [] ags]):=⟨_,rfl⟩
    rw[<- hSS] at hS ⊢
    obtain⟨oe,hoe⟩:∃z,z=B6 (R2 [] [] ags):=⟨_,rfl⟩
    rw[<- hoe] at hO hS
    have hf0:fs.length=0:=by rw[l2,hk];rfl
    have hf1:(fs.length:Int)=0:=by omega
    clear hSS hoe hq
    repeat' first|refine st ?_|((with_reducible apply A4);conv=>whnf)|refine⟨λ_=>?_,λ_=>?_⟩|fail
    refine K6 A6 B0M B0J (λ(j:Nat)=>[.d (eI 0)]) (λj=>[.cells [.d dk,.d dr],.cells [.d .nil,.d .nil],.cells [.d kd,.arr 4 1],.arr [] 2 0 true,.arr [[.sl oe]] 1 0 false]) (λj=>j=0) (λj=>0) 0 rfl rfl rfl rfl (λ_ _=>⟨rfl,rfl⟩) rfl rfl ?_
    repeat' first|refine st ?_|((with_reducible apply A4);conv=>whnf)|refine⟨λ_=>?_,λ_=>?_⟩|fail
    intro j hj
    repeat' first|refine st ?_|((with_reducible apply A4);conv=>whnf)|refine⟨λ_=>?_,λ_=>?_⟩|fail
    all_goals rfl
   ·have hq:t7 keys ags []=[]:=by
     unfold t7
     rw[show([]:List Rw).isEmpty=true from rfl,Q4,if_neg (by rw[A0r];exact hk)]
     show S4 ags (N6 [])=[]
     rw[N6,dif_pos (by decide),S4]
    rw[hq]
    have hS:=A0p [] (by decide) (λr h=>by cases h) .nil (.inl ⟨rfl,rfl⟩)
    rw[show A8 []=[] from rfl] at hS
    obtain⟨S,hSS⟩:∃z,z=rD (D1 []):=⟨_,rfl⟩
    rw[<- hSS] at hS ⊢
    have hf1:¬(fs.length:Int)=0:=by
     have:=List.length_pos_iff.2 hk
     omega
    clear hSS hq
    repeat' first|refine st ?_|((with_reducible apply A4);conv=>whnf)|refine⟨λ_=>?_,λ_=>?_⟩|fail
    refine K6 A6 B0M B0J (λ(j:Nat)=>[.d (eI 0)]) (λj=>[.cells [.d dk,.d dr],.cells [.d .nil,.d .nil],.cells [.d kd,.arr 4 0],.arr [] 2 0 true,.arr [] 1 0 true]) (λj=>j=0) (λj=>0) 0 rfl rfl rfl rfl (λ_ _=>⟨rfl,rfl⟩) rfl rfl ?_
    repeat' first|refine st ?_|((with_reducible apply A4);conv=>whnf)|refine⟨λ_=>?_,λ_=>?_⟩|fail
    intro j hj
    repeat' first|refine st ?_|((with_reducible apply A4);conv=>whnf)|refine⟨λ_=>?_,λ_=>?_⟩|fail
    all_goals rfl
  |cons a t=>
   have hOrd:=hOrd.resolve_left (by simp)
   rw[<- i2] at hOrd
   have hAe:(G9 w).isEmpty=false:=by rw[i2];rfl
   obtain⟨A,hA⟩:∃z,z=G9 w:=⟨_,rfl⟩
   rw[<- hA] at hw1 hwm hbd hOrd hAe ⊢
   rw[hAe]
   have z1:=A4f (N6 w)
   rw[A3K _ _ (D3 _)] at z1
   have zm:=A5e (N6 w)
   have zg:=λi x=>@D5P (N6 w) i x
   obtain⟨B,hB⟩:∃z,z=G9 (N6 w):=⟨_,rfl⟩
   rw[<- hB] at hOrd z1 zm zg
   have hBp:¬B.length=0:=by simp only[H9] at hge;omega
   have hBp:¬(B.length:Int)=0:=by omega
   have hda':=hda
   have hRl:(S4 ags (N6 w)).length<=4294967296:=by
    have:=B2c ags _ (N6 w) (D3 _)
    rw[A3K _ _ (D3 _)] at this
    have:=hwl
    omega
   obtain⟨L0,hL0⟩:∃z,z=a::t:=⟨_,rfl⟩
   have hq:t7 keys ags (a::t)=S4 ags (N6 w):=by unfold t7;rw[i2];rfl
   rw[hq]
   rw[<- hL0] at har ho i2
   have hZo:∀x∈N6 w,x.rw∈L0/\x.key.length<=4294967296:=λx hx=>by
    have:=A3L _ _ (D3 _) x hx
    rw[i2] at this
    obtain⟨y,hy,rfl⟩:=D7.1 this
    exact⟨hy,by show(keys.map _).length<=_;rw[D8];omega⟩
   have hRm:∀r∈S4 ags (N6 w),r.length<=4294967296:=λr hr=>by
    obtain⟨x,hx,rs,rfl⟩:=C20 ags _ _ (D3 _) r hr
    have:=A3L _ _ (D3 _) x hx
    rw[i2] at this
    obtain⟨y,hy,rfl⟩:=D7.1 this
    rw[B2B]
    show(keys.map _).length+_<=_
    rw[D8];omega
   have hS:=A0p (J0 (S4 ags (N6 w))) (by unfold J0;rw[D8];exact hRl) (λr h=>by
    obtain⟨x,hx,rfl⟩:=D7.1 h
    exact hRm x hx) (if (rD (S4 ags (N6 w))).isEmpty then .nil else .sl (rD (S4 ags (N6 w)))) (by rw[A8S];exact A9k rfl)
   rw[A33] at hS
   obtain⟨S,hSS⟩:∃z,z=rD (D1 (S4 ags (N6 w))):=⟨_,rfl⟩
   rw[<- hSS] at hS ⊢
   clear hSS hRm hP g1 hx hq
   repeat' first|refine st ?_|((with_reducible apply A4);conv=>whnf)|refine⟨λ_=>?_,λ_=>?_⟩|fail
   rw[<- hw1] at hwl
   have hzl:=A3K _ w (D3 _)
   obtain⟨Z,hZ⟩:∃z,z=N6 w:=⟨_,rfl⟩
   rw[<- hZ] at hS hRl hZo zg hzl
   obtain⟨R,hR⟩:∃z,z=S4 ags Z:=⟨_,rfl⟩
   rw[<- hR] at hS hRl
   clear hZ hB i2 hL0
   refine L6 A6 B0M B0J (λ(j:Nat) (u:List B5)=>[.d (eI j)]) (λj u=>[.cells [.d dk,.d dr],.cells [.d .nil,.d .nil],.cells [.d kd,.arr 4 (rD u).length],.arr A 2 A.length false,.arr (rD u) 1 0 (rD u).isEmpty]) (λj u=>j<=Z.length/\R=u++S4 ags (Z.drop j)) (λj u=>Z.length-j) 0 [] rfl rfl rfl rfl (λ_ _ _=>⟨rfl,rfl⟩) rfl ⟨by omega,hR⟩ ?_
   repeat' first|refine st ?_|((with_reducible apply A4);conv=>whnf)|refine⟨λ_=>?_,λ_=>?_⟩|fail
   intro j u ⟨j1,j2⟩
   clear hil
   cases hj:Z[j]? with
   |some x=>
    have hlt:=(B4.1 hj).1
    have hjl:(j:Int)<B.length:=by omega
    have e1:B[((j:Nat):Int).toNat]?=some [.sl (B6 x.key),x.rw.d]:=zg j x hj
    have hxZ:x∈Z:=C3 hj
    have dx:Z.drop j=x::Z.drop (j+1):=by rw[S1 hlt,(B4.1 hj).2]
    rw[dx,S4] at j2
    clear hj
    repeat' first|refine st ?_|((with_reducible apply A4);conv=>whnf)|refine⟨λ_=>?_,λ_=>?_⟩|fail
    refine U7 13 1 rfl rfl ?_
    refine B08 ?_
    refine L6 A6 D0N C9w (λ(k:Nat) (v:List Kd)=>[.arr 5 (B7 (v.map Kd.rw)).length,.d (eI k)]) (λk v=>[.cells [.d dk,.d dr],.cells [.d .nil,.d .nil],.cells [.d kd,.arr 4 (rD u).length],.arr A 2 A.length false,.arr (rD u) 1 0 (rD u).isEmpty,.arr (B7 (v.map Kd.rw)) 1 0 (B7 (v.map Kd.rw)).isEmpty]) (λk v=>k<=Z.length/\k=j+v.length/\v++(Z.drop k).takeWhile (R8 x)=x::(Z.drop (j+1)).takeWhile (R8 x)/\(Z.drop k).dropWhile (R8 x)=(Z.drop (j+1)).dropWhile (R8 x)) (λk v=>Z.length-k) j [] rfl rfl rfl rfl (λ_ _ _=>⟨rfl,rfl⟩) rfl ⟨by omega,rfl,by rw[dx];exact(A9H (C0K _)).1,by rw[dx];exact(A9H (C0K _)).2⟩ ?_
    repeat' first|refine st ?_|((with_reducible apply A4);conv=>whnf)|refine⟨λ_=>?_,λ_=>?_⟩|fail
    intro k v ⟨k1,k2,k3,k4⟩
    cases hk:Z[k]? with
    |some y=>
     have hlt2:=(B4.1 hk).1
     have hkl2:(k:Int)<B.length:=by omega
     have e2:B[((k:Nat):Int).toNat]?=some [.sl (B6 y.key),y.rw.d]:=zg k y hk
     have hyZ:y∈Z:=C3 hk
     have dy':Z.drop k=y::Z.drop (k+1):=by rw[S1 hlt2,(B4.1 hk).2]
     have hE:=A5Y y.key x.key (hZo _ hyZ).2 (hZo _ hxZ).2 (.sl (B6 y.key)) (.sl (B6 x.key)) (.inr rfl) (.inr rfl)
     rw[dy'] at k3 k4
     clear hk
     by_cases h0:K5 y.key x.key=0
     ·rw[decide_eq_true h0] at hE
      rw[(A9H h0).1] at k3
      rw[(A9H h0).2] at k4
      have v1:=U8 (v.map Kd.rw)
      rw[D8] at v1
      have v2:=X2 (v.map Kd.rw)
      have hva:B7 ((v++[y]).map Kd.rw)=B7 (v.map Kd.rw)++[[y.rw.d]]:=by rw[A44,A8R];rfl
      have hbv:((B7 (v.map Kd.rw)).length+1)*24<=140737488355328:=by omega
      obtain⟨V,hV⟩:∃z,z=B7 (v.map Kd.rw):=⟨_,rfl⟩
      rw[<- hV] at v1 v2 hva hbv ⊢
      obtain⟨yk,hyk⟩:∃z,z=B6 y.key:=⟨_,rfl⟩
      obtain⟨xk,hxk⟩:∃z,z=B6 x.key:=⟨_,rfl⟩
      obtain⟨yd,hyd⟩:∃z,z=y.rw.d:=⟨_,rfl⟩
      obtain⟨xd,hxd⟩:∃z,z=x.rw.d:=⟨_,rfl⟩
      rw[<- hyk] at hE e2
      rw[<- hxk] at hE e1
      rw[<- hxd] at e1
      rw[<- hyd] at e2 hva
      repeat' first|refine st ?_|((with_reducible apply A4);conv=>whnf)|refine⟨λ_=>?_,λ_=>?_⟩|fail
      exact⟨k+1,v++[y],by rw[hva];simp,rfl,by rw[hva];simp,by omega,by omega,by simp;omega,by rw[<- k3,S6];rfl,k4⟩
     ·rw[decide_eq_false h0] at hE
      rw[(C3A h0).1,U9] at k3
      rw[(C3A h0).2] at k4
      have hT:([]:List Kd)=[]:=rfl
      have k3:v++[]=x::(Z.drop (j+1)).takeWhile (R8 x):=by rw[k3];exact U9 _
      have hDr:y::Z.drop (k+1)=Z.drop k:=dy'.symm
      have k3:v=x::(Z.drop (j+1)).takeWhile (R8 x):=by rw[<- k3,hT,U9]
      have hvp:0<v.length:=by rw[k3];exact Nat.succ_pos _
      have hvm:∀y∈v,y.rw∈L0/\y.key.length<=4294967296:=λy hy=>by
       rw[k3] at hy
       rcases H2.1 hy with rfl|hy
       ·exact hZo _ hxZ
       ·exact hZo y (A2A ((List.takeWhile_prefix (R8 x)).mem hy))
      have hO:=B0m x.key (hZo _ hxZ).2 (.sl (B6 x.key)) (.inr rfl) (v.map Kd.rw) (by rw[D8];omega) (.sl (B7 (v.map Kd.rw))) (.inr rfl) ags (by omega) (λa ha r hr=>by
       obtain⟨y,hy,rfl⟩:=D7.1 hr
       exact⟨har a ha _ (hvm y hy).1,by have:=(ho _ (hvm y hy).1).1;omega⟩) da hda'
      rw[k3] at hO
      rw[<- k3] at hO
      have j3:R=(u++[R2 x.key (A8 (v.map Kd.rw)) ags])++S4 ags (Z.drop k):=by
       rw[j2,<- k4,hDr,k3,S6];rfl
      have hrow:rD (u++[R2 x.key (A8 (v.map Kd.rw)) ags])=rD u++[[.sl (B6 (R2 x.key (A8 (v.map Kd.rw)) ags))]]:=by rw[A2i];rfl
      have hve:(B7 (v.map Kd.rw)).isEmpty=false:=by rw[k3];rfl
      have hRl:u.length+1<=R.length:=by rw[j3,H8,H8];simp only[H9,l9];omega
      have v1:=U8 (v.map Kd.rw)
      rw[D8] at v1
      have v2:=X2 (v.map Kd.rw)
      obtain⟨V,hV⟩:∃z,z=B7 (v.map Kd.rw):=⟨_,rfl⟩
      rw[<- hV] at hO hve v1 v2 ⊢
      rw[hve]
      obtain⟨oz,hoz⟩:∃z,z=R2 x.key (A8 (v.map Kd.rw)) ags:=⟨_,rfl⟩
      rw[<- hoz] at hO j3 hrow
      obtain⟨oe,hoe⟩:∃z,z=B6 oz:=⟨_,rfl⟩
      rw[<- hoe] at hO hrow
      have u1:=p9 u
      have um:=r5 u
      obtain⟨U,hU⟩:∃z,z=rD u:=⟨_,rfl⟩
      rw[<- hU] at u1 um hrow ⊢
      have hbu:(U.length+1)*24<=140737488355328:=by omega
      clear hoz hoe hV k3 k4 hvm j2 zg hR hZo hU hT hDr
      repeat' first|refine st ?_|((with_reducible apply A4);conv=>whnf)|refine⟨λ_=>?_,λ_=>?_⟩|fail
      refine⟨_,_,j0.frz 13 rfl rfl rfl j0.refl,?_⟩
      refine A6X ?_
      repeat' first|refine st ?_|((with_reducible apply A4);conv=>whnf)|refine⟨λ_=>?_,λ_=>?_⟩|fail
      exact⟨k,u++[oz],rfl,rfl,by rw[hrow];simp,by omega,by omega,j3⟩
    |none=>
     have hge2:=E9.1 hk
     have hkl2:(B.length:Int)<=k:=by omega
     have hDr0:=R1 hge2
     have hT:(Z.drop k).takeWhile (R8 x)=[]:=by rw[hDr0];rfl
     have hDr:(Z.drop k).dropWhile (R8 x)=Z.drop k:=by rw[hDr0];rfl
     have hE:True:=trivial
     clear hk
     have k3:v=x::(Z.drop (j+1)).takeWhile (R8 x):=by rw[<- k3,hT,U9]
     have hvp:0<v.length:=by rw[k3];exact Nat.succ_pos _
     have hvm:∀y∈v,y.rw∈L0/\y.key.length<=4294967296:=λy hy=>by
      rw[k3] at hy
      rcases H2.1 hy with rfl|hy
      ·exact hZo _ hxZ
      ·exact hZo y (A2A ((List.takeWhile_prefix (R8 x)).mem hy))
     have hO:=B0m x.key (hZo _ hxZ).2 (.sl (B6 x.key)) (.inr rfl) (v.map Kd.rw) (by rw[D8];omega) (.sl (B7 (v.map Kd.rw))) (.inr rfl) ags (by omega) (λa ha r hr=>by
      obtain⟨y,hy,rfl⟩:=D7.1 hr
      exact⟨har a ha _ (hvm y hy).1,by have:=(ho _ (hvm y hy).1).1;omega⟩) da hda'
     rw[k3] at hO
     rw[<- k3] at hO
     have j3:R=(u++[R2 x.key (A8 (v.map Kd.rw)) ags])++S4 ags (Z.drop k):=by
      rw[j2,<- k4,hDr,k3,S6];rfl
     have hrow:rD (u++[R2 x.key (A8 (v.map Kd.rw)) ags])=rD u++[[.sl (B6 (R2 x.key (A8 (v.map Kd.rw)) ags))]]:=by rw[A2i];rfl
     have hve:(B7 (v.map Kd.rw)).isEmpty=false:=by rw[k3];rfl
     have hRl:u.length+1<=R.length:=by rw[j3,H8,H8];simp only[H9,l9];omega
     have v1:=U8 (v.map Kd.rw)
     rw[D8] at v1
     have v2:=X2 (v.map Kd.rw)
     obtain⟨V,hV⟩:∃z,z=B7 (v.map Kd.rw):=⟨_,rfl⟩
     rw[<- hV] at hO hve v1 v2 ⊢
     rw[hve]
     obtain⟨oz,hoz⟩:∃z,z=R2 x.key (A8 (v.map Kd.rw)) ags:=⟨_,rfl⟩
     rw[<- hoz] at hO j3 hrow
     obtain⟨oe,hoe⟩:∃z,z=B6 oz:=⟨_,rfl⟩
     rw[<- hoe] at hO hrow
     have u1:=p9 u
     have um:=r5 u
     obtain⟨U,hU⟩:∃z,z=rD u:=⟨_,rfl⟩
     rw[<- hU] at u1 um hrow ⊢
     have hbu:(U.length+1)*24<=140737488355328:=by omega
     clear hoz hoe hV k3 k4 hvm j2 zg hR hZo hU hT hDr
     repeat' first|refine st ?_|((with_reducible apply A4);conv=>whnf)|refine⟨λ_=>?_,λ_=>?_⟩|fail
     refine⟨_,_,j0.frz 13 rfl rfl rfl j0.refl,?_⟩
     refine A6X ?_
     repeat' first|refine st ?_|((with_reducible apply A4);conv=>whnf)|refine⟨λ_=>?_,λ_=>?_⟩|fail
     exact⟨k,u++[oz],rfl,rfl,by rw[hrow];simp,by omega,by omega,j3⟩
   |none=>
    have hge2:=E9.1 hj
    have hjl:(B.length:Int)<=j:=by omega
    rw[R1 hge2,S4,U9] at j2
    subst j2
    obtain⟨U,hU⟩:∃z,z=rD R:=⟨_,rfl⟩
    rw[<- hU] at hS ⊢
    obtain⟨b,hb⟩:∃b,b=U.isEmpty:=⟨_,rfl⟩
    rw[<- hb] at hS ⊢
    clear hj zg hU hZo hR
    cases b
    all_goals skip
    all_goals repeat' first|refine st ?_|((with_reducible apply A4);conv=>whnf)|refine⟨λ_=>?_,λ_=>?_⟩|fail
    all_goals rfl
end Go.Proofs
end
section
namespace Go.Proofs
open Go.Bi
def T8(v:Vl)(k:Int):Bool:=O5 v&&(decide (v.k=0)||decide (v.k=k))
def Q1(row:List Vl)(ks:List Int):Bool:=decide (row.length=ks.length)&&(row.zip ks).all λp=>T8 p.1 p.2
theorem A2I{α:Type}{p:α->Bool}{l:List α}{i:Nat}{x:α}(h:l[i]?=some x):(l.take (i+1)).all p=((l.take i).all p&&p x):=by
 rw[L8,h];simp
theorem A1p{α:Type}{p:α->Bool}{l:List α}{i:Nat}{x:α}(h:l[i]?=some x)(hx:p x=false):l.all p=false:=by
 rw[A4G]
 intro e
 have:=L7.1 e x (C3 h)
 rw[hx] at this;cases this
theorem B4i(row:List Vl)(ks:List Int)(hr:row.length<=1073741824)(hk:ks.length<=1073741824)(hrs:∀v∈row,v.s.length<=1073741824)(dr:D)(hdr:A9 dr (B6 row))(dk:D)(hdk:A9 dk (A5 ks)):Pure Tryz.prog B8p [.d dr,.d dk] (.d (.bool (Q1 row ks))):=by
 refine C7f.go A6 rfl ?_
 have h1:=X3 row
 have hm:=T7 row
 have h2:=F9 ks
 have hm2:=I1 ks
 obtain⟨q,hq⟩:∃q,q=Q1 row ks:=⟨_,rfl⟩
 rw[<- hq]
 by_cases hl:row.length=ks.length
 rotate_left
 ·have:q=false:=by rw[hq,Q1,decide_eq_false hl];rfl
  rw[this]
  repeat' first|refine st ?_|refine⟨λ_=>?_,λ_=>?_⟩|fail
  all_goals first|rfl|(exfalso;omega)
 unfold Q1 at hq
 rw[decide_eq_true hl,Q4] at hq
 have hl2:(B6 row).length=(A5 ks).length:=by omega
 repeat' first|refine st ?_|refine⟨λ_=>?_,λ_=>?_⟩|fail
 refine K6 A6 D0o C97 (λ(i:Nat)=>[.d (eI i)]) (λi=>[]) (λi=>i<=row.length/\((row.zip ks).take i).all (λp=>T8 p.1 p.2)=true) (λi=>row.length-i) 0 rfl rfl rfl rfl (λ_ _=>⟨rfl,rfl⟩) rfl ⟨by omega,rfl⟩ ?_
 repeat' first|refine st ?_|refine⟨λ_=>?_,λ_=>?_⟩|fail
 intro i ⟨h4,h5⟩
 cases hx:row[i]? with
 |some v=>
  have hlt:=(B4.1 hx).1
  obtain⟨k,hkx⟩:∃k,ks[i]?=some k:=⟨_,F4 (by omega)⟩
  have hz:(row.zip ks)[i]?=some (v,k):=B0H.2 ⟨hx,hkx⟩
  have hg:=A1A hx
  have hg2:=N2 hkx
  have hV:=A5X v (K4 (hrs v (C3 hx)) (by omega))
  have hs:=A2I (p:=λp=>T8 p.1 p.2) hz
  rw[h5,Q4] at hs
  dsimp only at hs
  cases hv:O5 v with
  |false=>
   rw[hv] at hV
   have hb:T8 v k=false:=by rw[T8,hv];rfl
   have hf:=A1p (p:=λp=>T8 p.1 p.2) hz hb
   rw[hf] at hq
   repeat' first|refine st ?_|refine⟨λ_=>?_,λ_=>?_⟩|fail
   all_goals (rw[hq])
  |true=>
   rw[hv] at hV
   by_cases hk0:v.k=0
   ·have hb:T8 v k=true:=by rw[T8,hv,decide_eq_true hk0];rfl
    repeat' first|refine st ?_|refine⟨λ_=>?_,λ_=>?_⟩|fail
    exact⟨i+1,rfl,rfl,rfl,by omega,by omega,hs.trans hb⟩
   ·by_cases hkk:v.k=k
    ·have hb:T8 v k=true:=by rw[T8,hv,decide_eq_true hkk];simp
     repeat' first|refine st ?_|refine⟨λ_=>?_,λ_=>?_⟩|fail
     exact⟨i+1,rfl,rfl,rfl,by omega,by omega,hs.trans hb⟩
    ·have hb:T8 v k=false:=by rw[T8,hv,decide_eq_false hkk,decide_eq_false hk0];rfl
     have hf:=A1p (p:=λp=>T8 p.1 p.2) hz hb
     rw[hf] at hq
     repeat' first|refine st ?_|refine⟨λ_=>?_,λ_=>?_⟩|fail
     all_goals (rw[hq])
 |none=>
  have hge:=E9.1 hx
  rw[H4 (by rw[A65];omega)] at h5
  rw[h5] at hq
  repeat' first|refine st ?_|refine⟨λ_=>?_,λ_=>?_⟩|fail
  all_goals (rw[hq])
theorem A9U:∀(l:List Int)(k r:Int),Z1 k l=(r,true)->(k=0\/k=r)/\∀x∈l,x=0\/x=r
 |[],k,r,h=>by
  simp only[Z1,Prod.mk.injEq] at h
  exact⟨.inr h.1,by simp⟩
 |y::l,k,r,h=>by
  unfold Z1 at h
  by_cases hy:y=0
  ·rw[if_pos hy] at h
   obtain⟨h1,h2⟩:=A9U l k r h
   exact⟨h1,λx hx=>by rcases H2.1 hx with rfl|hx;exact .inl hy;exact h2 x hx⟩
  ·rw[if_neg hy] at h
   by_cases hk:k≠0/\k≠y
   ·rw[if_pos hk] at h;simp at h
   ·rw[if_neg hk] at h
    obtain⟨h1,h2⟩:=A9U l y r h
    exact⟨by omega,λx hx=>by rcases H2.1 hx with rfl|hx;exact h1;exact h2 x hx⟩
theorem B1Y:∀{l:List (Int×Int)},fe l=0->∀x∈l,x.2=0
 |[],_,x,hx=>by cases hx
 |y::l,h,x,hx=>by
  unfold fe at h
  by_cases hy:y.2=0
  ·rw[if_pos hy] at h
   rcases H2.1 hx with rfl|hx
   ·exact hy
   ·exact B1Y h x hx
  ·rw[if_neg hy] at h;exact absurd h hy
theorem B00(v:Vl):(g8 v).k=v.k\/(g8 v).k=0:=by
 unfold g8
 split
 ·exact .inl rfl
 ·exact .inr rfl
theorem A9Z(t:Int):(r9 t).k=3\/(r9 t).k=0:=by
 unfold r9
 split
 ·exact .inl rfl
 ·split
  ·exact .inl rfl
  ·exact .inr rfl
def Knd(l:List Vl)(ks:List Int):Prop:=l.length=ks.length/\∀i,(h:i<l.length)->(h2:i<ks.length)->l[i].k=ks[i]\/l[i].k=0
theorem Knd.all{l:List Vl}{ks:List Int}(h:Knd l ks){r:Int}(hr:∀x∈ks,x=0\/x=r):∀v∈l,v.k=r\/v.k=0:=by
 intro v hv
 obtain⟨i,hi,rfl⟩:=A1n.1 hv
 have h2:i<ks.length:=by have:=h.1;omega
 have h3:=h.2 i hi h2
 have h4:=hr ks[i] (A2z h2)
 omega
theorem D5r{l:List Vl}{r:Int}(h:∀v∈l,v.k=r\/v.k=0):(w9 l).k=r\/(w9 l).k=0:=by
 induction l with
 |nil=>exact .inr rfl
 |cons v l ih=>
  unfold w9
  split
  ·exact ih λx hx=>h x (by simp[hx])
  ·exact h v (by simp)
theorem D6b{op n:Int}{v:Vl}{l row:List Vl}{ks:List Int}(hop:op≠2)(hK:Knd l ks)(hc:(T1 op l.length).1=true)(h:(N8 op v ks).2=true):(X4 op n v l row).k=(N8 op v ks).1\/(X4 op n v l row).k=0:=by
 have hcnt:=A6E hc
 by_cases h1:op=1
 ·subst h1;exact .inl rfl
 rcases hcnt with ⟨k,e⟩|⟨k,e⟩|⟨k,e⟩|⟨k,e⟩|⟨k,e⟩|⟨k,e⟩|⟨k,e⟩
 ·omega
 ·rcases k with rfl|rfl|rfl|rfl
  ·exact A9Z _
  ·show(A3V 18 l).k=1\/(A3V 18 l).k=0
   unfold A3V vAr A9Y
   repeat' split
   all_goals first|exact B00 _|(exfalso;omega)|exact .inr rfl
  ·show(A0m 20 l).k=1\/(A0m 20 l).k=0
   unfold A0m
   repeat' split
   all_goals first|exact B00 _|exact .inr rfl|(exfalso;omega)
  ·exact .inl rfl
 ·by_cases h19:op=19
  ·subst h19
   show(A0m 19 l).k=2\/(A0m 19 l).k=0
   unfold A0m
   repeat' split
   all_goals first|exact B00 _|exact .inr rfl|(exfalso;omega)
  ·by_cases h13:13<=op
   ·have e1:X4 op n v l row=A3V op l:=by
     unfold X4
     rw[if_neg (by omega),if_neg (by omega),if_neg (by omega),if_neg (by omega),if_neg (by omega),if_neg (by omega),if_neg (by omega),if_neg (by omega),if_neg (by omega),if_pos (by omega)]
    have e2:(N8 op v ks).1=1:=by
     unfold N8
     rw[if_neg (by omega),if_neg (by omega),if_neg (by omega),if_neg (by omega),if_neg (by omega),if_neg (by omega),if_neg (by omega),if_neg (by omega),if_neg (by omega)]
    rw[e1,e2]
    unfold A3V vAr A9Y A4B vPr
    repeat' split
    all_goals first|exact B00 _|exact .inr rfl
   ·have e1:X4 op n v l row=r9 (vCp op (l.getD 0 E6) (l.getD 1 E6)):=by
     unfold X4
     rw[if_neg (by omega),if_neg (by omega),if_neg (by omega),if_neg (by omega),if_neg (by omega),if_neg (by omega),if_neg (by omega),if_neg (by omega),if_neg (by omega),if_neg (by omega)]
    have e2:(N8 op v ks).1=3:=by
     unfold N8
     rw[if_neg (by omega),if_neg (by omega),if_pos (by omega)]
    rw[e1,e2]
    exact A9Z _
 ·rcases k with rfl|rfl
  ·exact A9Z _
  ·exact A9Z _
 ·subst k
  obtain⟨a,b,c,rfl⟩:∃a b c,l=[a,b,c]:=by
   match l,e with
   |[a,b,c],_=>exact⟨a,b,c,rfl⟩
  obtain⟨x,y,z,rfl⟩:∃a b c,ks=[a,b,c]:=by
   match ks,hK.1 with
   |[a,b,c],_=>exact⟨a,b,c,rfl⟩
  have h':((X9 [y,z]).2&&allK [x] 3)=true:=h
  rw[K7] at h'
  obtain⟨⟨r,t⟩,hr⟩:∃q,X9 [y,z]=q:=⟨_,rfl⟩
  rw[hr] at h'
  have ht:t=true:=h'.1
  subst ht
  have hu:=(A9U _ _ _ hr).2
  show(if Q9 a=2 then b else c).k=(X9 [y,z]).1\/(if Q9 a=2 then b else c).k=0
  rw[hr]
  have hb:b.k=y\/b.k=0:=hK.2 1 (by simp) (by simp)
  have hc:c.k=z\/c.k=0:=hK.2 2 (by simp) (by simp)
  have hy:=hu y (by simp)
  have hz:=hu z (by simp)
  dsimp only
  split<;>omega
 ·obtain⟨rfl,_⟩:=k
  obtain⟨⟨r,t⟩,hr⟩:∃q,X9 ks=q:=⟨_,rfl⟩
  have ht:t=true:=by have:(X9 ks).2=true:=h;rw[hr] at this;exact this
  subst ht
  show(w9 l).k=(X9 ks).1\/(w9 l).k=0
  rw[hr]
  exact D5r (hK.all (A9U _ _ _ hr).2)
 ·subst k
  show(A31 n (l.getD 0 E6) (l.getD 1 E6) (l.getD 2 E6) (l.getD 3 E6)).k=3\/(A31 n (l.getD 0 E6) (l.getD 1 E6) (l.getD 2 E6) (l.getD 3 E6)).k=0
  unfold A31
  split
  ·exact .inl rfl
  ·exact .inr rfl
theorem D6e(row:List Vl)(ks:List Int)(hf:Q1 row ks=true):∀e:Ex,(F6 ks e).2=0->(ev row e).k=(F6 ks e).1\/(ev row e).k=0:=by
 unfold Q1 at hf
 rw[K7] at hf
 have hlen:=of_decide_eq_true hf.1
 have hall:=L7.1 hf.2
 refine Ex.ind λop n v name nl args ih h=>?_
 rw[w6] at h ⊢
 rw[x8]
 cases hfm:K3 op n v name args.length with
 |false=>exact .inr rfl
 |true=>
 rw[if_pos rfl]
 by_cases h2:op=2
 ·subst h2
  have hk:(T1 2 args.length).2=true:=rfl
  unfold W7 at h ⊢
  rw[hk,if_neg (by simp),hfm,if_neg (by simp),if_pos rfl] at h ⊢
  by_cases hn:0<=n/\n<ks.length
  ·rw[if_pos hn]
   show(r8 row n).k=ks.getD n.toNat 0\/(r8 row n).k=0
   have hx:n.toNat<row.length:=by omega
   have hy:n.toNat<ks.length:=by omega
   have hz:=hall (row[n.toNat],ks[n.toNat]) (A1n.2 ⟨n.toNat,by rw[A65];omega,by rw[List.getElem_zip]⟩)
   dsimp only[T8] at hz
   rw[K7,A2u,decide_eq_true_eq,decide_eq_true_eq] at hz
   have e1:r8 row n=row[n.toNat]:=by
    unfold r8 T4
    rw[if_neg (by omega),I4,F4 hx]
    show g8 row[n.toNat]=_
    rw[g8,if_pos hz.1]
   have e2:ks.getD n.toNat 0=ks[n.toNat]:=by rw[I4,F4 hy];rfl
   rw[e1,e2]
   exact hz.2.symm
  ·rw[if_neg hn] at h;cases h
 rw[A2L hfm h2] at h ⊢
 by_cases hfe:fe (args.map (F6 ks))=0
 rotate_left
 ·rw[if_neg hfe] at h;exact absurd h hfe
 rw[if_pos hfe] at h ⊢
 cases hr:(N8 op v ((args.map (F6 ks)).map Prod.fst)).2 with
 |false=>rw[hr] at h;simp at h
 |true=>
  rw[if_pos rfl]
  refine D6b h2 ⟨by simp,λi hi hj=>?_⟩ (by rw[D8];exact A4j hfm) hr
  rw[List.getElem_map,List.getElem_map,List.getElem_map]
  exact ih _ (A2z _) (B1Y hfe _ (D7.2 ⟨_,A2z _,rfl⟩))
structure Kw where
 nl:Bool
 ks:List Int
abbrev Kw.d(k:Kw):D:=ng k.nl (A5 k.ks)
def E7(l:List Kw):List (List D):=l.map λk=>[k.d]
theorem A3u(l:List Kw):(E7 l).length=l.length:=by simp[E7]
theorem A3v(l:List Kw):∀e∈E7 l,e.length=1:=by
 intro e he
 obtain⟨x,_,rfl⟩:=D7.1 he
 rfl
theorem A5f{l:List Kw}{i:Nat}{k:Kw}(h:l[i]?=some k):(E7 l)[i]?=some [k.d]:=by simp[E7,h]
abbrev K0:Kw:=⟨true,[]⟩
theorem A2m(l:List (List D)):X8 l.isEmpty l=ng true l:=by
 cases l<;>rfl
def Y9(k:Int):Bool:=decide (k=1\/k=2\/k=3)
theorem C5Q(k:Int):Pure Tryz.prog B8V [.d (eI k)] (.d (.bool (Y9 k))):=by
 obtain⟨q,hq⟩:∃q,q=Y9 k:=⟨_,rfl⟩
 rw[<- hq]
 unfold Y9 at hq
 by_cases h:k=1\/k=2\/k=3
 ·rw[decide_eq_true h] at hq
  subst hq
  rcases h with rfl|rfl|rfl<;>refine B4s.go A6 rfl ?_
  all_goals repeat' first|refine st ?_|((with_reducible apply A4);conv=>whnf)|refine⟨λ_=>?_,λ_=>?_⟩|fail
  all_goals rfl
 ·rw[decide_eq_false h] at hq
  subst hq
  have h1:k≠1:=λe=>h (.inl e)
  have h2:k≠2:=λe=>h (.inr (.inl e))
  have h3:k≠3:=λe=>h (.inr (.inr e))
  refine B4s.go A6 rfl ?_
  repeat' first|refine st ?_|((with_reducible apply A4);conv=>whnf)|refine⟨λ_=>?_,λ_=>?_⟩|fail
  all_goals first|rfl|simp[h3]|(exfalso;omega)
theorem B44(ks:List Int)(hks:ks.length<=4294967296)(dk:D)(hdk:A9 dk (A5 ks)):Pure Tryz.prog B8W [.d dk] (.d (.bool (ks.all Y9))):=by
 have h1:=F9 ks
 have hm:=I1 ks
 have hg0:=λi k=>@N2 ks i k
 obtain⟨q,hq⟩:∃q,q=ks.all Y9:=⟨_,rfl⟩
 rw[<- hq]
 obtain⟨es,hes⟩:∃z,z=A5 ks:=⟨_,rfl⟩
 rw[<- hes] at hdk h1 hm hg0
 clear hes
 refine C7R.go A6 rfl ?_
 repeat' first|refine st ?_|((with_reducible apply A4);conv=>whnf)|refine⟨λ_=>?_,λ_=>?_⟩|fail
 refine K6 A6 D0T C9C (λ(i:Nat)=>[.d (eI i)]) (λi=>[]) (λi=>i<=ks.length/\(ks.take i).all Y9=true) (λi=>ks.length-i) 0 rfl rfl rfl rfl (λ_ _=>⟨rfl,rfl⟩) rfl ⟨by omega,rfl⟩ ?_
 repeat' first|refine st ?_|((with_reducible apply A4);conv=>whnf)|refine⟨λ_=>?_,λ_=>?_⟩|fail
 intro i ⟨h4,h5⟩
 cases hx:ks[i]? with
 |some k=>
  have hlt:=(B4.1 hx).1
  have hilt:(i:Int)<es.length:=by omega
  have hg:=hg0 i k hx
  have hg:es[((i:Nat):Int).toNat]?=some [eI k]:=hg
  have hK:=C5Q k
  have hs:=A2I (p:=Y9) hx
  rw[h5,Q4] at hs
  cases hb:Y9 k with
  |false=>
   rw[hb] at hK
   have hf:=A1p (p:=Y9) hx hb
   rw[hf] at hq
   subst hq
   clear hg0 hx
   repeat' first|refine st ?_|((with_reducible apply A4);conv=>whnf)|refine⟨λ_=>?_,λ_=>?_⟩|fail
   all_goals rfl
  |true=>
   rw[hb] at hK
   clear hg0 hx hq
   repeat' first|refine st ?_|((with_reducible apply A4);conv=>whnf)|refine⟨λ_=>?_,λ_=>?_⟩|fail
   exact⟨i+1,rfl,rfl,rfl,by omega,by omega,hs.trans hb⟩
 |none=>
  have hge:=E9.1 hx
  have hilt:(es.length:Int)<=i:=by omega
  rw[H4 (by omega)] at h5
  rw[h5] at hq
  subst hq
  clear hg0 hx
  repeat' first|refine st ?_|((with_reducible apply A4);conv=>whnf)|refine⟨λ_=>?_,λ_=>?_⟩|fail
  all_goals rfl
theorem C5T(a b:List Int)(ha:a.length<=4294967296)(hb:b.length<=4294967296)(da db:D)(hda:A9 da (A5 a))(hdb:A9 db (A5 b)):Pure Tryz.prog B90 [.d da,.d db] (.d (.bool (decide (a=b)))):=by
 have l1:=F9 a
 have m1:=I1 a
 have g1:=λi k=>@N2 a i k
 have l2:=F9 b
 have m2:=I1 b
 have g2:=λi k=>@N2 b i k
 obtain⟨q,hq⟩:∃q,q=decide (a=b):=⟨_,rfl⟩
 rw[<- hq]
 obtain⟨es,hes⟩:∃z,z=A5 a:=⟨_,rfl⟩
 rw[<- hes] at hda l1 m1 g1
 obtain⟨fs,hfs⟩:∃z,z=A5 b:=⟨_,rfl⟩
 rw[<- hfs] at hdb l2 m2 g2
 clear hes hfs
 by_cases hl:a.length=b.length
 rotate_left
 ·have h0:¬(es.length:Int)=fs.length:=by omega
  rw[decide_eq_false λh=>hl (by rw[h])] at hq
  subst hq
  clear g1 g2
  refine B4t.go A6 rfl ?_
  repeat' first|refine st ?_|((with_reducible apply A4);conv=>whnf)|refine⟨λ_=>?_,λ_=>?_⟩|fail
  all_goals first|rfl|(exfalso;omega)
 have h0:(es.length:Int)=fs.length:=by omega
 refine B4t.go A6 rfl ?_
 repeat' first|refine st ?_|((with_reducible apply A4);conv=>whnf)|refine⟨λ_=>?_,λ_=>?_⟩|fail
 refine K6 A6 D0X C9G (λ(i:Nat)=>[.d (eI i)]) (λi=>[]) (λi=>i<=a.length/\a.take i=b.take i) (λi=>a.length-i) 0 rfl rfl rfl rfl (λ_ _=>⟨rfl,rfl⟩) rfl ⟨by omega,rfl⟩ ?_
 repeat' first|refine st ?_|((with_reducible apply A4);conv=>whnf)|refine⟨λ_=>?_,λ_=>?_⟩|fail
 intro i ⟨h4,h5⟩
 cases hx:a[i]? with
 |some k=>
  have hlt:=(B4.1 hx).1
  obtain⟨k2,hx2⟩:∃k,b[i]?=some k:=⟨_,F4 (by omega)⟩
  have hilt:(i:Int)<es.length:=by omega
  have hilt2:(i:Int)<fs.length:=by omega
  have hg:es[((i:Nat):Int).toNat]?=some [eI k]:=g1 i k hx
  have hg2:fs[((i:Nat):Int).toNat]?=some [eI k2]:=g2 i k2 hx2
  by_cases hk:k=k2
  ·have ht:a.take (i+1)=b.take (i+1):=by rw[L8,L8,hx,hx2,h5,hk]
   subst hk
   clear g1 g2 hx hx2 hq
   repeat' first|refine st ?_|((with_reducible apply A4);conv=>whnf)|refine⟨λ_=>?_,λ_=>?_⟩|fail
   exact⟨i+1,rfl,rfl,rfl,by omega,by omega,ht⟩
  ·rw[decide_eq_false λh=>hk (by rw[h,hx2] at hx;cases hx;rfl)] at hq
   subst hq
   clear g1 g2 hx hx2
   repeat' first|refine st ?_|((with_reducible apply A4);conv=>whnf)|refine⟨λ_=>?_,λ_=>?_⟩|fail
   all_goals first|rfl|(exfalso;omega)
 |none=>
  have hge:=E9.1 hx
  have hilt:(es.length:Int)<=i:=by omega
  rw[H4 hge,H4 (by omega)] at h5
  rw[decide_eq_true h5] at hq
  subst hq
  clear g1 g2 hx
  repeat' first|refine st ?_|((with_reducible apply A4);conv=>whnf)|refine⟨λ_=>?_,λ_=>?_⟩|fail
  all_goals rfl
def J9(op:Int):Int:=if op=1\/op=2 then 0 else if op=3\/op=4\/op=10\/op=11 then 1 else if op=5\/op=6\/op=7\/op=8\/op=9 then 2 else -1
theorem A5q(op:Int):(op=1/\J9 op=0)\/(op=2/\J9 op=0)\/(op=3/\J9 op=1)\/(op=4/\J9 op=1)\/(op=10/\J9 op=1)\/(op=11/\J9 op=1)\/(op=5/\J9 op=2)\/(op=6/\J9 op=2)\/(op=7/\J9 op=2)\/(op=8/\J9 op=2)\/(op=9/\J9 op=2)\/
  ((op≠1/\op≠2/\op≠3/\op≠4/\op≠5/\op≠6/\op≠7/\op≠8/\op≠9/\op≠10/\op≠11)/\J9 op=-1):=by
 by_cases h1:op=1
 ·subst h1;simp[J9]
 by_cases h2:op=2
 ·subst h2;simp[J9]
 by_cases h3:op=3
 ·subst h3;simp[J9]
 by_cases h4:op=4
 ·subst h4;simp[J9]
 by_cases h10:op=10
 ·subst h10;simp[J9]
 by_cases h11:op=11
 ·subst h11;simp[J9]
 by_cases h5:op=5
 ·subst h5;simp[J9]
 by_cases h6:op=6
 ·subst h6;simp[J9]
 by_cases h7:op=7
 ·subst h7;simp[J9]
 by_cases h8:op=8
 ·subst h8;simp[J9]
 by_cases h9:op=9
 ·subst h9;simp[J9]
 refine .inr (.inr (.inr (.inr (.inr (.inr (.inr (.inr (.inr (.inr (.inr ⟨⟨h1,h2,h3,h4,h5,h6,h7,h8,h9,h10,h11⟩,?_⟩))))))))))
 simp[J9,h1,h2,h3,h4,h5,h6,h7,h8,h9,h10,h11]
theorem C5W(op:Int):Pure Tryz.prog B13 [.d (eI op)] (.d (eI (J9 op))):=by
 obtain⟨q,hq⟩:∃q,q=J9 op:=⟨_,rfl⟩
 have h:=A5q op
 rw[<- hq] at h ⊢
 clear hq
 rcases h with ⟨rfl,rfl⟩|⟨rfl,rfl⟩|⟨rfl,rfl⟩|⟨rfl,rfl⟩|⟨rfl,rfl⟩|⟨rfl,rfl⟩|⟨rfl,rfl⟩|⟨rfl,rfl⟩|⟨rfl,rfl⟩|⟨rfl,rfl⟩|⟨rfl,rfl⟩|⟨⟨o1,o2,o3,o4,o5,o6,o7,o8,o9,o10,o11⟩,rfl⟩
 all_goals refine C7Y.go A6 rfl ?_
 all_goals repeat' first|refine st ?_|((with_reducible apply A4);conv=>whnf)|refine⟨λ_=>?_,λ_=>?_⟩|fail
 all_goals first|rfl|(exfalso;omega)
def scF(K:List Kw)(n:Int):Kw×Int:=if n<0\/K.length<=n then (K0,6) else if ((K.getD n.toNat K0).ks).all Y9 then (K.getD n.toNat K0,0) else (K0,7)
theorem C61(K:List Kw)(hK:K.length<=4294967296)(hKb:∀k∈K,k.ks.length<=4294967296)(din:D)(hin:A9 din (E7 K))(op n:Int)(dk dr:D)(xo xn:Int)(xv:Vl)(xm:List UInt8)(xd dx dy da di:D) :
  Pure Tryz.prog A8k [G3 op n dk dr xo xn xv xm xd dx dy da di,.d din] (.tup [.d (scF K n).1.d,.d (eI (scF K n).2)]):=by
 have l1:=A3u K
 have m1:=A3v K
 have g1:=λi k=>@A5f K i k
 obtain⟨es,hes⟩:∃z,z=E7 K:=⟨_,rfl⟩
 rw[<- hes] at hin l1 m1 g1
 clear hes
 obtain⟨q,hq⟩:∃q,q=scF K n:=⟨_,rfl⟩
 rw[<- hq]
 unfold scF at hq
 by_cases h1:n<0
 ·rw[if_pos (.inl h1)] at hq
  subst hq
  clear g1 hKb
  refine A83.go A6 rfl ?_
  repeat' first|refine st ?_|((with_reducible apply A4);conv=>whnf)|refine⟨λ_=>?_,λ_=>?_⟩|fail
  all_goals first|rfl|(exfalso;omega)
 by_cases h2:(K.length:Int)<=n
 ·rw[if_pos (.inr h2)] at hq
  subst hq
  clear g1 hKb
  refine A83.go A6 rfl ?_
  repeat' first|refine st ?_|((with_reducible apply A4);conv=>whnf)|refine⟨λ_=>?_,λ_=>?_⟩|fail
  all_goals first|rfl|(exfalso;omega)
 rw[if_neg (by omega)] at hq
 obtain⟨k,hk⟩:∃k,K[n.toNat]?=some k:=⟨_,F4 (by omega)⟩
 have hg:=g1 _ k hk
 have hkd:K.getD n.toNat K0=k:=by rw[I4,hk];rfl
 rw[hkd] at hq
 have hC:=B44 k.ks (hKb k (C3 hk)) k.d C7
 have h3:n<es.length:=by omega
 obtain⟨d,hd⟩:∃d,d=k.d:=⟨_,rfl⟩
 rw[<- hd] at hg hC
 cases hb:k.ks.all Y9 with
 |false=>
  rw[hb] at hC hq
  rw[if_neg (by simp)] at hq
  subst hq
  clear g1 hKb hkd hk hd
  refine A83.go A6 rfl ?_
  repeat' first|refine st ?_|((with_reducible apply A4);conv=>whnf)|refine⟨λ_=>?_,λ_=>?_⟩|fail
  all_goals rfl
 |true=>
  rw[hb] at hC hq
  rw[if_pos rfl] at hq
  subst hq
  show Bi.Pure Tryz.prog A8k [G3 op n dk dr xo xn xv xm xd dx dy da di,.d din] (.tup [.d k.d,.d (eI 0)])
  rw[<- hd]
  clear g1 hKb hkd hk hd
  refine A83.go A6 rfl ?_
  repeat' first|refine st ?_|((with_reducible apply A4);conv=>whnf)|refine⟨λ_=>?_,λ_=>?_⟩|fail
  all_goals rfl
def vaF(nk:Bool)(ki:List Int)(rows:List Rw):Kw×Int:=if 4096<rows.length then (K0,5) else if ki.all Y9 then (if rows.all (λr=>Q1 r.vs ki) then (⟨nk,ki⟩,0) else (K0,8)) else (K0,7)
theorem C62(nk:Bool)(ki:List Int)(hki:ki.length<=1073741824)(dk:D)(hdk:dk=ng nk (A5 ki))(rows:List Rw)(hrl:rows.length<=1073741824)(hrb:∀r∈rows,r.vs.length<=1073741824/\∀v∈r.vs,v.s.length<=1073741824)(dr:D)(hdr:A9 dr (B7 rows))(op n xo xn:Int)(xv:Vl)(xm:List UInt8)(xd dx dy da di:D) :
  Pure Tryz.prog B16 [G3 op n dk dr xo xn xv xm xd dx dy da di] (.tup [.d (vaF nk ki rows).1.d,.d (eI (vaF nk ki rows).2)]):=by
 have l1:=U8 rows
 have m1:=X2 rows
 have g1:=λi r=>@A0W rows i r
 obtain⟨es,hes⟩:∃z,z=B7 rows:=⟨_,rfl⟩
 rw[<- hes] at hdr l1 m1 g1
 clear hes
 have hsd:A9 dk (A5 ki):=by rw[hdk];exact C7
 obtain⟨q,hq⟩:∃q,q=vaF nk ki rows:=⟨_,rfl⟩
 rw[<- hq]
 unfold vaF at hq
 by_cases h1:4096<rows.length
 ·rw[if_pos h1] at hq
  subst hq
  clear g1 hrb hdk hsd
  refine B0v.go A6 rfl ?_
  repeat' first|refine st ?_|((with_reducible apply A4);conv=>whnf)|refine⟨λ_=>?_,λ_=>?_⟩|fail
  all_goals first|rfl|(exfalso;omega)
 rw[if_neg h1] at hq
 have hC:=B44 ki (by omega) dk hsd
 cases hb:ki.all Y9 with
 |false=>
  rw[hb] at hC hq
  rw[if_neg (by simp)] at hq
  subst hq
  clear g1 hrb hdk hsd
  refine B0v.go A6 rfl ?_
  repeat' first|refine st ?_|((with_reducible apply A4);conv=>whnf)|refine⟨λ_=>?_,λ_=>?_⟩|fail
  all_goals rfl
 |true=>
  rw[hb] at hC hq
  rw[if_pos rfl] at hq
  have hF:=λ(r:Rw) (h:r∈rows)=>B4i r.vs ki (hrb r h).1 hki (hrb r h).2 r.d C7 dk hsd
  obtain⟨b,hbb⟩:∃b,b=rows.all (λr=>Q1 r.vs ki):=⟨_,rfl⟩
  rw[<- hbb] at hq
  refine B0v.go A6 rfl ?_
  repeat' first|refine st ?_|((with_reducible apply A4);conv=>whnf)|refine⟨λ_=>?_,λ_=>?_⟩|fail
  refine K6 A6 D16 C9P (λ(i:Nat)=>[.d (eI i)]) (λi=>[.cells [.d (eI op),.d (eI n),.d dk,.d dr,.d (eI xo),.d (eI xn),.d (eI xv.k),.d (eI xv.n),.d (.str xv.s),.d (.str xm),.d xd,.d dx,.d dy,.d da,.d di]]) (λi=>i<=rows.length/\(rows.take i).all (λr=>Q1 r.vs ki)=true) (λi=>rows.length-i) 0 rfl rfl rfl rfl (λ_ _=>⟨rfl,rfl⟩) rfl ⟨by omega,rfl⟩ ?_
  repeat' first|refine st ?_|((with_reducible apply A4);conv=>whnf)|refine⟨λ_=>?_,λ_=>?_⟩|fail
  intro i ⟨h4,h5⟩
  cases hx:rows[i]? with
  |some r=>
   have hlt:=(B4.1 hx).1
   have hilt:(i:Int)<es.length:=by omega
   have hg:es[((i:Nat):Int).toNat]?=some [r.d]:=g1 i r hx
   have hV:=hF r (C3 hx)
   have hs:=A2I (p:=λr:Rw=>Q1 r.vs ki) hx
   rw[h5,Q4] at hs
   obtain⟨rd,hrd⟩:∃d,d=r.d:=⟨_,rfl⟩
   rw[<- hrd] at hg hV
   cases hv:Q1 r.vs ki with
   |false=>
    rw[hv] at hV
    have hf:=A1p (p:=λr:Rw=>Q1 r.vs ki) hx hv
    rw[hf] at hbb
    subst hbb
    rw[if_neg (by simp)] at hq
    subst hq
    clear g1 hrb hF hx hrd hs
    repeat' first|refine st ?_|((with_reducible apply A4);conv=>whnf)|refine⟨λ_=>?_,λ_=>?_⟩|fail
    all_goals rfl
   |true=>
    rw[hv] at hV
    have hs:=hs.trans hv
    clear g1 hrb hF hx hrd hbb hq
    repeat' first|refine st ?_|((with_reducible apply A4);conv=>whnf)|refine⟨λ_=>?_,λ_=>?_⟩|fail
    exact⟨i+1,rfl,rfl,rfl,by omega,by omega,hs⟩
  |none=>
   have hge:=E9.1 hx
   have hilt:(es.length:Int)<=i:=by omega
   rw[H4 hge] at h5
   rw[h5] at hbb
   subst hbb
   rw[if_pos rfl] at hq
   subst hq
   rw[show(Kw.d (⟨nk,ki⟩,(0:Int)).1)=dk from hdk.symm]
   clear g1 hrb hF hx hdk
   repeat' first|refine st ?_|((with_reducible apply A4);conv=>whnf)|refine⟨λ_=>?_,λ_=>?_⟩|fail
   all_goals rfl
def O4(ks:List Int)(e:Ex):Int:=if (S9 ks e).2=0 then (if (S9 ks e).1=3\/(S9 ks e).1=0 then 0 else 7) else (S9 ks e).2
theorem C5R(ks:List Int)(hks:ks.length<=1073741824)(dk:D)(hdk:A9 dk (A5 ks))(e:Ex)(he:e.bk<=1073741824):Pure Tryz.prog B8X [e.av,.d dk] (.d (eI (O4 ks e))):=by
 have hC:Bi.Pure Tryz.prog A8g [e.av,.d dk] (.tup [.d (eI (S9 ks e).1),.d (eI (S9 ks e).2)]):=B3U ks hks dk hdk e he
 obtain⟨q,hq⟩:∃q,q=O4 ks e:=⟨_,rfl⟩
 rw[<- hq]
 unfold O4 at hq
 obtain⟨⟨k,er⟩,hk⟩:∃z,z=S9 ks e:=⟨_,rfl⟩
 rw[<- hk] at hC hq
 dsimp only at hC hq
 clear hk
 obtain⟨xo,xn,xv,xm,xl,xa⟩:=e
 rw[Ex.av_mk] at hC ⊢
 obtain⟨xd,hxd⟩:∃d,d=ng xl (xL xa):=⟨_,rfl⟩
 rw[<- hxd] at hC ⊢
 clear hxd he
 by_cases h1:er=0
 ·rw[if_pos h1] at hq
  subst h1
  by_cases h2:k=3\/k=0
  ·rw[if_pos h2] at hq
   subst hq
   rcases h2 with rfl|rfl<;>refine B0t.go A6 rfl ?_
   all_goals repeat' first|refine st ?_|((with_reducible apply A4);conv=>whnf)|refine⟨λ_=>?_,λ_=>?_⟩|fail
   all_goals rfl
  ·rw[if_neg h2] at hq
   subst hq
   have h3:k≠3:=λh=>h2 (.inl h)
   have h4:k≠0:=λh=>h2 (.inr h)
   refine B0t.go A6 rfl ?_
   repeat' first|refine st ?_|((with_reducible apply A4);conv=>whnf)|refine⟨λ_=>?_,λ_=>?_⟩|fail
   all_goals first|rfl|(exfalso;omega)
 ·rw[if_neg h1] at hq
  subst hq
  refine B0t.go A6 rfl ?_
  repeat' first|refine st ?_|((with_reducible apply A4);conv=>whnf)|refine⟨λ_=>?_,λ_=>?_⟩|fail
  all_goals first|rfl|(exfalso;omega)
def J4(K:List Kw)(o:Po)(k:List Kw):Kw×Int:=
 if o.op=1 then scF K o.n
 else if o.op=2 then vaF o.nk o.ki o.rows
 else if o.op=4 then (⟨true,(G8 (k.getD 0 K0).ks o.xs).1⟩,(G8 (k.getD 0 K0).ks o.xs).2)
 else if o.op=11 then (⟨true,(Q2 (k.getD 0 K0).ks o.keys o.aggs).1⟩,(Q2 (k.getD 0 K0).ks o.keys o.aggs).2)
 else if o.op=10 then (k.getD 0 K0,0)
 else if o.op=3 then (k.getD 0 K0,O4 (k.getD 0 K0).ks o.pred)
 else if o.op=5\/o.op=6 then (⟨true,(k.getD 0 K0).ks++(k.getD 1 K0).ks⟩,O4 ((k.getD 0 K0).ks++(k.getD 1 K0).ks) o.pred)
 else if (k.getD 0 K0).ks.length=(k.getD 1 K0).ks.length then (if (k.getD 0 K0).ks=(k.getD 1 K0).ks then (k.getD 0 K0,0) else (K0,7)) else (K0,13)
theorem C60(K:List Kw)(hK:K.length<=4294967296)(hKb:∀k∈K,k.ks.length<=4294967296)(din:D)(hin:A9 din (E7 K))(o:Po)(ni:Bool)(ins:List Pl)(hb:(Pl.mk o ni ins).bk<=1073741824)(k:List Kw)(hk:(k.length:Int)=J9 o.op)(hkb:∀x∈k,x.ks.length<=48)(dkk:D)(hdk:A9 dkk (E7 k)) :
  Pure Tryz.prog A0N [(Pl.mk o ni ins).av,.d din,.d dkk] (.tup [.d (J4 K o k).1.d,.d (eI (J4 K o k).2)]):=by
 have hB:=Pl.bd hb
 obtain⟨xo,xn,xv,xm,xd,hav,hpa⟩:=Pl.cuto o ni ins
 rw[hav]
 clear hav hb
 obtain⟨op,n,nk,ki,nr,rows,pred,nx,xs,ny,keys,na,aggs⟩:=o
 have hki:=hB.ki
 have hrl:=hB.nr
 have hrb:=hB.row
 have hpb:=hB.pred
 have hxl:=hB.xs
 have hxb:=hB.xb
 have hyl:=hB.keys
 have hal:=hB.aggs
 clear hB
 dsimp only at hki hrl hrb hpb hxl hxb hyl hal hpa hk
 have hsc:=λdk dr dx dy da di=>C61 K hK hKb din hin op n dk dr xo xn xv xm xd dx dy da di
 have hva:=λdx dy da di=>C62 nk ki hki _ rfl rows hrl hrb (ng nr (B7 rows)) C7 op n xo xn xv xm xd dx dy da di
 have hpj:=λ(ks:List Int) (h:ks.length<=1073741824) dk hdk=>B45 ks h dk hdk xs hxl hxb (ng nx (xL xs)) C7
 have hgr:=λ(ks:List Int) (h:ks.length<=1073741824) dk hdk=>B43 ks h dk hdk keys hyl (ng ny (A5 keys)) C7 aggs hal (ng na (I0 aggs)) C7
 have hpr:=λ(ks:List Int) (h:ks.length<=1073741824) dk hdk=>C5R ks h dk hdk pred hpb
 rw[hpa] at hpr
 show Bi.Pure Tryz.prog A0N [G3 op n (ng nk (A5 ki)) (ng nr (B7 rows)) xo xn xv xm xd (ng nx (xL xs)) (ng ny (A5 keys)) (ng na (I0 aggs)) (ng ni (pL ins)),.d din,.d dkk] _
 obtain⟨q,hq⟩:∃q,q=J4 K ⟨op,n,nk,ki,nr,rows,pred,nx,xs,ny,keys,na,aggs⟩ k:=⟨_,rfl⟩
 rw[<- hq]
 unfold J4 at hq
 dsimp only at hq
 obtain⟨dk,e1⟩:∃d,d=ng nk (A5 ki):=⟨_,rfl⟩
 obtain⟨dr,e2⟩:∃d,d=ng nr (B7 rows):=⟨_,rfl⟩
 obtain⟨dx,e3⟩:∃d,d=ng nx (xL xs):=⟨_,rfl⟩
 obtain⟨dy,e4⟩:∃d,d=ng ny (A5 keys):=⟨_,rfl⟩
 obtain⟨da,e5⟩:∃d,d=ng na (I0 aggs):=⟨_,rfl⟩
 obtain⟨di,e6⟩:∃d,d=ng ni (pL ins):=⟨_,rfl⟩
 rw[<- e1,<- e2] at hva
 rw[<- e3] at hpj
 rw[<- e4,<- e5] at hgr
 rw[<- e1,<- e2,<- e3,<- e4,<- e5,<- e6]
 have hsc:=hsc dk dr dx dy da di
 have hva:=hva dx dy da di
 clear e1 e2 e3 e4 e5 e6 hrl hrb hpb hxl hxb hyl hal hki hpa hKb
 have l1:=A3u k
 have m1:=A3v k
 have hops:=A5q op
 have hg0:0<k.length->∃a,k.getD 0 K0=a/\a.ks.length<=48/\(E7 k)[(0:Int).toNat]?=some [a.d]:=λh=>by
  obtain⟨a,ha⟩:∃a,k[0]?=some a:=⟨_,F4 h⟩
  exact⟨a,by rw[I4,ha];rfl,hkb a (C3 ha),A5f ha⟩
 have hg1:1<k.length->∃a,k.getD 1 K0=a/\a.ks.length<=48/\(E7 k)[(1:Int).toNat]?=some [a.d]:=λh=>by
  obtain⟨a,ha⟩:∃a,k[1]?=some a:=⟨_,F4 h⟩
  exact⟨a,by rw[I4,ha];rfl,hkb a (C3 ha),A5f ha⟩
 obtain⟨es,hes⟩:∃z,z=E7 k:=⟨_,rfl⟩
 rw[<- hes] at hdk l1 m1 hg0 hg1
 clear hes hkb
 rcases hops with ⟨rfl,hn⟩|⟨rfl,hn⟩|⟨rfl,hn⟩|⟨rfl,hn⟩|⟨rfl,hn⟩|⟨rfl,hn⟩|⟨rfl,hn⟩|⟨rfl,hn⟩|⟨rfl,hn⟩|⟨rfl,hn⟩|⟨rfl,hn⟩|⟨⟨o1,o2,o3,o4,o5,o6,o7,o8,o9,o10,o11⟩,hn⟩
 all_goals rw[hn] at hk
 ·have hq:q=scF K n:=hq
  rw[<- hq] at hsc
  clear hq hva hpj hgr hpr hg0 hg1
  obtain⟨⟨qn,qk⟩,qe⟩:=q
  obtain⟨qd,hqd⟩:∃d,d=ng qn (A5 qk):=⟨_,rfl⟩
  have hsc:Bi.Pure Tryz.prog A8k [G3 1 n dk dr xo xn xv xm xd dx dy da di,.d din] (.tup [.d qd,.d (eI qe)]):=by rw[hqd];exact hsc
  show Bi.Pure Tryz.prog A0N [G3 1 n dk dr xo xn xv xm xd dx dy da di,.d din,.d dkk] (.tup [.d (ng qn (A5 qk)),.d (eI qe)])
  rw[<- hqd]
  refine A1W.go A6 rfl ?_
  repeat' first|refine st ?_|((with_reducible apply A4);conv=>whnf)|refine⟨λ_=>?_,λ_=>?_⟩|fail
  all_goals rfl
 ·have hq:q=vaF nk ki rows:=hq
  rw[<- hq] at hva
  clear hq hsc hpj hgr hpr hg0 hg1
  obtain⟨⟨qn,qk⟩,qe⟩:=q
  obtain⟨qd,hqd⟩:∃d,d=ng qn (A5 qk):=⟨_,rfl⟩
  have hva:Bi.Pure Tryz.prog B16 [G3 2 n dk dr xo xn xv xm xd dx dy da di] (.tup [.d qd,.d (eI qe)]):=by rw[hqd];exact hva
  show Bi.Pure Tryz.prog A0N [G3 2 n dk dr xo xn xv xm xd dx dy da di,.d din,.d dkk] (.tup [.d (ng qn (A5 qk)),.d (eI qe)])
  rw[<- hqd]
  refine A1W.go A6 rfl ?_
  repeat' first|refine st ?_|((with_reducible apply A4);conv=>whnf)|refine⟨λ_=>?_,λ_=>?_⟩|fail
  all_goals rfl
 ·obtain⟨a,ha,hal,hg⟩:=hg0 (by omega)
  rw[ha] at hq
  have hq:q=(a,O4 a.ks pred):=hq
  have hP:=hpr a.ks (by omega) a.d C7
  have h0:(0:Int)<es.length:=by omega
  obtain⟨ad,had⟩:∃d,d=a.d:=⟨_,rfl⟩
  rw[<- had] at hP hg
  subst hq
  show Bi.Pure Tryz.prog A0N [G3 3 n dk dr xo xn xv xm xd dx dy da di,.d din,.d dkk] (.tup [.d a.d,.d (eI (O4 a.ks pred))])
  rw[<- had]
  obtain⟨pe,hpe⟩:∃d,d=O4 a.ks pred:=⟨_,rfl⟩
  rw[<- hpe] at hP ⊢
  clear hsc hva hpj hgr hpr hg0 hg1 had hpe ha
  refine A1W.go A6 rfl ?_
  repeat' first|refine st ?_|((with_reducible apply A4);conv=>whnf)|refine⟨λ_=>?_,λ_=>?_⟩|fail
  all_goals rfl
 ·obtain⟨a,ha,hal,hg⟩:=hg0 (by omega)
  rw[ha] at hq
  have hq:q=(⟨true,(G8 a.ks xs).1⟩,(G8 a.ks xs).2):=hq
  have hP:=hpj a.ks (by omega) a.d C7
  have h0:(0:Int)<es.length:=by omega
  obtain⟨ad,had⟩:∃d,d=a.d:=⟨_,rfl⟩
  rw[<- had,A2m] at hP
  rw[<- had] at hg
  subst hq
  show Bi.Pure Tryz.prog A0N [G3 4 n dk dr xo xn xv xm xd dx dy da di,.d din,.d dkk] (.tup [.d (ng true (A5 (G8 a.ks xs).1)),.d (eI (G8 a.ks xs).2)])
  obtain⟨qd,hqd⟩:∃d,d=ng true (A5 (G8 a.ks xs).1):=⟨_,rfl⟩
  obtain⟨qe,hqe⟩:∃d,d=(G8 a.ks xs).2:=⟨_,rfl⟩
  rw[<- hqd,<- hqe] at hP ⊢
  clear hsc hva hpj hgr hpr hg0 hg1 had hqd hqe ha
  refine A1W.go A6 rfl ?_
  repeat' first|refine st ?_|((with_reducible apply A4);conv=>whnf)|refine⟨λ_=>?_,λ_=>?_⟩|fail
  all_goals rfl
 ·obtain⟨a,ha,hal,hg⟩:=hg0 (by omega)
  rw[ha] at hq
  have hq:q=(a,0):=hq
  have h0:(0:Int)<es.length:=by omega
  obtain⟨ad,had⟩:∃d,d=a.d:=⟨_,rfl⟩
  rw[<- had] at hg
  subst hq
  show Bi.Pure Tryz.prog A0N [G3 10 n dk dr xo xn xv xm xd dx dy da di,.d din,.d dkk] (.tup [.d a.d,.d (eI 0)])
  rw[<- had]
  clear hsc hva hpj hgr hpr hg0 hg1 had ha
  refine A1W.go A6 rfl ?_
  repeat' first|refine st ?_|((with_reducible apply A4);conv=>whnf)|refine⟨λ_=>?_,λ_=>?_⟩|fail
  all_goals rfl
 ·obtain⟨a,ha,hal,hg⟩:=hg0 (by omega)
  rw[ha] at hq
  have hq:q=(⟨true,(Q2 a.ks keys aggs).1⟩,(Q2 a.ks keys aggs).2):=hq
  have hP:=hgr a.ks (by omega) a.d C7
  have h0:(0:Int)<es.length:=by omega
  obtain⟨ad,had⟩:∃d,d=a.d:=⟨_,rfl⟩
  rw[<- had,A2m] at hP
  rw[<- had] at hg
  subst hq
  show Bi.Pure Tryz.prog A0N [G3 11 n dk dr xo xn xv xm xd dx dy da di,.d din,.d dkk] (.tup [.d (ng true (A5 (Q2 a.ks keys aggs).1)),.d (eI (Q2 a.ks keys aggs).2)])
  obtain⟨qd,hqd⟩:∃d,d=ng true (A5 (Q2 a.ks keys aggs).1):=⟨_,rfl⟩
  obtain⟨qe,hqe⟩:∃d,d=(Q2 a.ks keys aggs).2:=⟨_,rfl⟩
  rw[<- hqd,<- hqe] at hP ⊢
  clear hsc hva hpj hgr hpr hg0 hg1 had hqd hqe ha
  refine A1W.go A6 rfl ?_
  repeat' first|refine st ?_|((with_reducible apply A4);conv=>whnf)|refine⟨λ_=>?_,λ_=>?_⟩|fail
  all_goals rfl
 iterate 2
  ·obtain⟨a,ha,hal,hg⟩:=hg0 (by omega)
   obtain⟨b,hb,hbl,hgb⟩:=hg1 (by omega)
   rw[ha,hb] at hq
   have hq:q=(⟨true,a.ks++b.ks⟩,O4 (a.ks++b.ks) pred):=hq
   have hJ:=B48 a.ks b.ks (by omega) a.d b.d C7 C7
   have hP:=hpr (a.ks++b.ks) (by rw[H8];omega) (ng true (A5 (a.ks++b.ks))) C7
   have h0:(0:Int)<es.length:=by omega
   have h1:(1:Int)<es.length:=by omega
   obtain⟨ad,had⟩:∃d,d=a.d:=⟨_,rfl⟩
   obtain⟨bd,hbd⟩:∃d,d=b.d:=⟨_,rfl⟩
   rw[<- had,<- hbd,A2m] at hJ
   rw[<- had] at hg
   rw[<- hbd] at hgb
   subst hq
   obtain⟨qd,hqd⟩:∃d,d=ng true (A5 (a.ks++b.ks)):=⟨_,rfl⟩
   rw[<- hqd] at hJ hP
   obtain⟨pe,hpe⟩:∃d,d=O4 (a.ks++b.ks) pred:=⟨_,rfl⟩
   rw[<- hpe] at hP
   show Bi.Pure Tryz.prog A0N [G3 _ n dk dr xo xn xv xm xd dx dy da di,.d din,.d dkk] (.tup [.d (ng true (A5 (a.ks++b.ks))),.d (eI (O4 (a.ks++b.ks) pred))])
   rw[<- hqd,<- hpe]
   clear hsc hva hpj hgr hpr hg0 hg1 had hbd hqd hpe ha hb
   refine A1W.go A6 rfl ?_
   repeat' first|refine st ?_|((with_reducible apply A4);conv=>whnf)|refine⟨λ_=>?_,λ_=>?_⟩|fail
   all_goals rfl
 iterate 3
  ·obtain⟨a,ha,hal,hg⟩:=hg0 (by omega)
   obtain⟨b,hb,hbl,hgb⟩:=hg1 (by omega)
   rw[ha,hb] at hq
   have hq:q=if a.ks.length=b.ks.length then (if a.ks=b.ks then (a,0) else (K0,7)) else (K0,13):=hq
   have hS:=C5T a.ks b.ks (by omega) (by omega) a.d b.d C7 C7
   have h0:(0:Int)<es.length:=by omega
   have h1:(1:Int)<es.length:=by omega
   have hsa:A9 a.d (A5 a.ks):=C7
   have hsb:A9 b.d (A5 b.ks):=C7
   have ka:=F9 a.ks
   have kb:=F9 b.ks
   obtain⟨ad,had⟩:∃d,d=a.d:=⟨_,rfl⟩
   obtain⟨bd,hbd⟩:∃d,d=b.d:=⟨_,rfl⟩
   rw[<- had,<- hbd] at hS
   rw[<- had] at hg hsa
   rw[<- hbd] at hgb hsb
   clear hsc hva hpj hgr hpr hg0 hg1 hbd ha hb
   by_cases hl:a.ks.length=b.ks.length
   ·rw[if_pos hl] at hq
    by_cases he:a.ks=b.ks
    ·rw[if_pos he] at hq
     rw[decide_eq_true he] at hS
     subst hq
     show Bi.Pure Tryz.prog A0N [G3 _ n dk dr xo xn xv xm xd dx dy da di,.d din,.d dkk] (.tup [.d a.d,.d (eI 0)])
     rw[<- had]
     clear had he
     obtain⟨ea,hea⟩:∃z,z=A5 a.ks:=⟨_,rfl⟩
     obtain⟨eb,heb⟩:∃z,z=A5 b.ks:=⟨_,rfl⟩
     rw[<- hea] at hsa ka
     rw[<- heb] at hsb kb
     have hll:(ea.length:Int)=eb.length:=by omega
     clear hea heb
     refine A1W.go A6 rfl ?_
     repeat' first|refine st ?_|((with_reducible apply A4);conv=>whnf)|refine⟨λ_=>?_,λ_=>?_⟩|fail
     all_goals rfl
    ·rw[if_neg he] at hq
     rw[decide_eq_false he] at hS
     subst hq
     clear had he
     obtain⟨ea,hea⟩:∃z,z=A5 a.ks:=⟨_,rfl⟩
     obtain⟨eb,heb⟩:∃z,z=A5 b.ks:=⟨_,rfl⟩
     rw[<- hea] at hsa ka
     rw[<- heb] at hsb kb
     have hll:(ea.length:Int)=eb.length:=by omega
     clear hea heb
     refine A1W.go A6 rfl ?_
     repeat' first|refine st ?_|((with_reducible apply A4);conv=>whnf)|refine⟨λ_=>?_,λ_=>?_⟩|fail
     all_goals rfl
   ·rw[if_neg hl] at hq
    subst hq
    clear had hS
    obtain⟨ea,hea⟩:∃z,z=A5 a.ks:=⟨_,rfl⟩
    obtain⟨eb,heb⟩:∃z,z=A5 b.ks:=⟨_,rfl⟩
    rw[<- hea] at hsa ka
    rw[<- heb] at hsb kb
    have hll:¬(ea.length:Int)=eb.length:=by omega
    clear hea heb
    refine A1W.go A6 rfl ?_
    repeat' first|refine st ?_|((with_reducible apply A4);conv=>whnf)|refine⟨λ_=>?_,λ_=>?_⟩|fail
    all_goals first|rfl|(exfalso;omega)
 ·exfalso;omega
end Go.Proofs
end
section
namespace Go.Proofs
open Go.Bi
def n0:List (Kw×Int)->Int
 |[]=>0
 |r::rs=>if r.2=0 then n0 rs else r.2
theorem C1u{l:List (Kw×Int)}{i:Nat}{x:Kw×Int}(h:l[i]?=some x):n0 (l.drop i)=if x.2=0 then n0 (l.drop (i+1)) else x.2:=by
 obtain⟨hlt,he⟩:=B4.1 h
 rw[S1 hlt,he];rfl
def ndR(r:Kw×Int):Kw×Int:=if r.2=0 then (if r.1.ks.length=0\/48<r.1.ks.length then (K0,13) else (r.1,0)) else (K0,r.2)
def ndN(K:List Kw)(o:Po)(n:Nat)(rs:List (Kw×Int)):Kw×Int:=
 if J9 o.op<0 then (K0,7) else if (n:Int)=J9 o.op then (if n0 rs=0 then ndR (J4 K o (rs.map Prod.fst)) else (K0,n0 rs)) else (K0,8)
mutual
/-- A plan's kinds, or its error. -/
def C2(K:List Kw):Pl->Kw×Int
 |.mk o _ ins=>ndN K o ins.length (A7a K ins)
def A7a(K:List Kw):List Pl->List (Kw×Int)
 |[]=>[]
 |p::r=>C2 K p::A7a K r
end
theorem C2E(K:List Kw):∀l,A7a K l=l.map (C2 K)
 |[]=>by simp[A7a]
 |e::es=>by simp[A7a,C2E K es]
theorem A5z(K:List Kw)(o:Po)(ni:Bool)(ins:List Pl):C2 K (.mk o ni ins)=ndN K o ins.length (ins.map (C2 K)):=by rw[C2,C2E]
theorem D7C(r:Kw×Int):(ndR r).1.ks.length<=48:=by
 unfold ndR
 split
 ·split
  ·exact N1 _
  ·show r.1.ks.length<=48
   omega
 ·exact N1 _
theorem Z8(K:List Kw)(p:Pl):(C2 K p).1.ks.length<=48:=by
 obtain⟨o,ni,ins⟩:=p
 rw[A5z,ndN]
 split
 ·exact N1 _
 split
 ·split
  ·exact D7C _
  ·exact N1 _
 ·exact N1 _
theorem C5X(K:List Kw)(hK:K.length<=4294967296)(hKb:∀k∈K,k.ks.length<=4294967296)(din:D)(hin:A9 din (E7 K)):∀p:Pl,p.bk<=1073741824->
  Pure Tryz.prog B14 [p.av,.d din] (.tup [.d (C2 K p).1.d,.d (eI (C2 K p).2)]):=by
 refine Pl.ind λo ni ins ih hb=>?_
 have hB:=Pl.bd hb
 have hI:=C5W o.op
 have hR:=λk hk hkb dkk hdk=>C60 K hK hKb din hin o ni ins hb k hk hkb dkk hdk
 have hq:=A5z K o ni ins
 obtain⟨q,hqq⟩:∃q,q=C2 K (.mk o ni ins):=⟨_,rfl⟩
 rw[<- hqq] at hq ⊢
 clear hqq
 obtain⟨xo,xn,xv,xm,xd,hav,_⟩:=Pl.cuto o ni ins
 rw[hav] at hR ⊢
 clear hav
 have hil:=hB.il
 have hsub:=hB.sub
 clear hB hb
 obtain⟨op,n,nk,ki,nr,rows,pred,nx,xs,ny,keys,na,aggs⟩:=o
 have hdi:A9 (ng ni (pL ins)) (pL ins):=C7
 obtain⟨dk,e1⟩:∃d,d=ng nk (A5 ki):=⟨_,rfl⟩
 obtain⟨dr,e2⟩:∃d,d=ng nr (B7 rows):=⟨_,rfl⟩
 obtain⟨dx,e3⟩:∃d,d=ng nx (xL xs):=⟨_,rfl⟩
 obtain⟨dy,e4⟩:∃d,d=ng ny (A5 keys):=⟨_,rfl⟩
 obtain⟨da,e5⟩:∃d,d=ng na (I0 aggs):=⟨_,rfl⟩
 obtain⟨di,e6⟩:∃d,d=ng ni (pL ins):=⟨_,rfl⟩
 have hR:∀(k:List Kw),(k.length:Int)=J9 op->(∀x∈k,x.ks.length<=48)->∀dkk,A9 dkk (E7 k)->Bi.Pure Tryz.prog A0N [G3 op n dk dr xo xn xv xm xd dx dy da di,.d din,.d dkk] (.tup [.d (J4 K ⟨op,n,nk,ki,nr,rows,pred,nx,xs,ny,keys,na,aggs⟩ k).1.d,.d (eI (J4 K ⟨op,n,nk,ki,nr,rows,pred,nx,xs,ny,keys,na,aggs⟩ k).2)]):=by
  rw[e1,e2,e3,e4,e5,e6];exact hR
 show Bi.Pure Tryz.prog B14 [G3 op n (ng nk (A5 ki)) (ng nr (B7 rows)) xo xn xv xm xd (ng nx (xL xs)) (ng ny (A5 keys)) (ng na (I0 aggs)) (ng ni (pL ins)),.d din] _
 rw[<- e1,<- e2,<- e3,<- e4,<- e5,<- e6]
 rw[<- e6] at hdi
 obtain⟨o,ho⟩:∃o:Po,o=⟨op,n,nk,ki,nr,rows,pred,nx,xs,ny,keys,na,aggs⟩:=⟨_,rfl⟩
 rw[<- ho] at hR hq
 have hoo:o.op=op:=by rw[ho]
 clear e1 e2 e3 e4 e5 e6 ho
 unfold ndN at hq
 rw[hoo] at hq
 have hI:Bi.Pure Tryz.prog B13 [.d (eI op)] (.d (eI (J9 op))):=hI
 obtain⟨m,hm⟩:∃m,m=J9 op:=⟨_,rfl⟩
 rw[<- hm] at hI hR hq
 clear hm hoo
 have l1:=b5 ins
 have m1:=e9 ins
 have g1:=λi p=>@j6 ins i p
 obtain⟨es,hes⟩:∃z,z=pL ins:=⟨_,rfl⟩
 rw[<- hes] at hdi l1 m1 g1
 clear hes
 by_cases h1:m<0
 ·rw[if_pos h1] at hq
  subst hq
  clear hR g1 ih
  refine B0u.go A6 rfl ?_
  repeat' first|refine st ?_|((with_reducible apply A4);conv=>whnf)|refine⟨λ_=>?_,λ_=>?_⟩|fail
  all_goals rfl
 rw[if_neg h1] at hq
 by_cases h2:(ins.length:Int)=m
 rotate_left
 ·rw[if_neg h2] at hq
  subst hq
  have h3:¬(es.length:Int)=m:=by omega
  clear hR g1 ih
  refine B0u.go A6 rfl ?_
  repeat' first|refine st ?_|((with_reducible apply A4);conv=>whnf)|refine⟨λ_=>?_,λ_=>?_⟩|fail
  all_goals first|rfl|(exfalso;omega)
 rw[if_pos h2] at hq
 have h3:(es.length:Int)=m:=by omega
 obtain⟨rs,hrs⟩:∃z,z=ins.map (C2 K):=⟨_,rfl⟩
 have hrl:rs.length=ins.length:=by rw[hrs,D8]
 have hrg:∀i p,ins[i]?=some p->rs[i]?=some (C2 K p):=λi p h=>by rw[hrs,J1,h];rfl
 have hrb:∀x∈rs.map Prod.fst,x.ks.length<=48:=λx hx=>by
  obtain⟨y,hy,rfl⟩:=D7.1 hx
  rw[hrs] at hy
  obtain⟨p,_,rfl⟩:=D7.1 hy
  exact Z8 K p
 rw[<- hrs] at hq
 clear hrs
 refine B0u.go A6 rfl ?_
 repeat' first|refine st ?_|((with_reducible apply A4);conv=>whnf)|refine⟨λ_=>?_,λ_=>?_⟩|fail
 refine U7 7 1 rfl rfl ?_
 refine L6 A6 D10 C9J (λ(i:Nat) (w:List Kw)=>[.arr 1 (E7 w).length,.d (eI i)]) (λi w=>[.cells [.d (eI op),.d (eI n),.d dk,.d dr,.d (eI xo),.d (eI xn),.d (eI xv.k),.d (eI xv.n),.d (.str xv.s),.d (.str xm),.d xd,.d dx,.d dy,.d da,.d di],.arr (E7 w) 1 0 (E7 w).isEmpty]) (λi w=>i<=ins.length/\w=(rs.take i).map Prod.fst/\n0 (rs.drop i)=n0 rs) (λi w=>ins.length-i) 0 [] rfl rfl rfl rfl (λ_ _ _=>⟨rfl,rfl⟩) rfl ⟨by omega,rfl,rfl⟩ ?_
 repeat' first|refine st ?_|((with_reducible apply A4);conv=>whnf)|refine⟨λ_=>?_,λ_=>?_⟩|fail
 intro i w ⟨i1,i2,i3⟩
 have hw1:=A3u w
 have hwm:=A3v w
 have hwl:w.length<=i:=by rw[i2];simp;omega
 have hbd:((E7 w).length+1)*24<=140737488355328:=by omega
 have happ:=λk:Kw=>show E7 (w++[k])=E7 w++[[k.d]] by simp[E7]
 have hne:=λk:Kw=>show(E7 (w++[k])).isEmpty=false by simp[E7]
 obtain⟨A,hA⟩:∃z,z=E7 w:=⟨_,rfl⟩
 rw[<- hA] at hw1 hwm hbd ⊢
 cases hi:ins[i]? with
 |some p=>
  have hlt:=(B4.1 hi).1
  have hil2:(i:Int)<m:=by omega
  have hil3:(i:Int)<es.length:=by omega
  have hg:=g1 i p hi
  have hC:=ih p (C3 hi) (hsub p (C3 hi))
  have hrx:=hrg i p hi
  have hfd:=C1u hrx
  have htk:(rs.take (i+1)).map Prod.fst=w++[(C2 K p).1]:=by rw[L8,hrx,A44,<- i2];rfl
  rw[i3] at hfd
  obtain⟨op',n',dk',dr',xo',xn',xv',xm',xd',dx',dy',da',di',c1,c2⟩:=Pl.cut p
  have hg:es[((i:Nat):Int).toNat]?=some (K1 op' n' dk' dr' xo' xn' xv' xm' xd' dx' dy' da' di'):=by rw[<- c1];exact hg
  rw[c2] at hC
  obtain⟨⟨k,er⟩,hk⟩:∃z,z=C2 K p:=⟨_,rfl⟩
  rw[<- hk] at hC hfd htk
  dsimp only at hC hfd htk
  have happ:=happ k
  have hne:=hne k
  rw[<- hA] at happ
  obtain⟨kd,hkd⟩:∃d,d=k.d:=⟨_,rfl⟩
  rw[<- hkd] at hC happ
  clear hkd hA c1 c2 hi g1 ih hk hrg hR hrx
  by_cases hr:er=0
  ·subst hr
   rw[if_pos rfl] at hfd
   repeat' first|refine st ?_|((with_reducible apply A4);conv=>whnf)|refine⟨λ_=>?_,λ_=>?_⟩|fail
   exact⟨i+1,w++[k],by rw[happ];simp,rfl,by rw[hne,happ];simp,by omega,by omega,htk.symm,hfd.symm⟩
  ·rw[if_neg hr] at hfd
   rw[hfd,if_neg hr] at hq
   subst hq
   clear happ hne
   repeat' first|refine st ?_|((with_reducible apply A4);conv=>whnf)|refine⟨λ_=>?_,λ_=>?_⟩|fail
   all_goals first|rfl|(exfalso;omega)
 |none=>
  have hge:=E9.1 hi
  have hil2:m<=(i:Int):=by omega
  rw[List.drop_of_length_le (by omega)] at i3
  have i3:n0 rs=0:=i3.symm
  rw[H4 (by omega)] at i2
  rw[if_pos i3,<- i2] at hq
  have hRR:=hR w (by rw[i2,D8];omega) (by rw[i2];exact hrb) (u7 (E7 w).isEmpty .nil (.sl (E7 w))) (by rw[show(u7 (E7 w).isEmpty .nil (.sl (E7 w)):D)=ng true (E7 w) by cases E7 w<;>rfl];exact C7)
  rw[<- hA] at hRR
  obtain⟨⟨k,er⟩,hk⟩:∃z,z=J4 K o w:=⟨_,rfl⟩
  rw[<- hk] at hRR hq
  unfold ndR at hq
  dsimp only at hRR hq
  have hsk:A9 k.d (A5 k.ks):=C7
  have hkl:=F9 k.ks
  obtain⟨ek,hek⟩:∃z,z=A5 k.ks:=⟨_,rfl⟩
  rw[<- hek] at hsk hkl
  obtain⟨kd,hkd⟩:∃d,d=k.d:=⟨_,rfl⟩
  rw[<- hkd] at hRR hsk
  clear hek hk hi g1 ih hrg hR happ hne hA hrb
  by_cases hr:er=0
  ·subst hr
   rw[if_pos rfl] at hq
   by_cases hz:k.ks.length=0
   ·rw[if_pos (.inl hz)] at hq
    subst hq
    have hz2:(ek.length:Int)=0:=by omega
    clear hkd
    repeat' first|refine st ?_|((with_reducible apply A4);conv=>whnf)|refine⟨λ_=>?_,λ_=>?_⟩|fail
    all_goals rfl
   ·by_cases hz2:48<k.ks.length
    ·rw[if_pos (.inr hz2)] at hq
     subst hq
     have hz3:¬(ek.length:Int)=0:=by omega
     have hz4:(48:Int)<(ek.length:Int):=by omega
     clear hkd
     repeat' first|refine st ?_|((with_reducible apply A4);conv=>whnf)|refine⟨λ_=>?_,λ_=>?_⟩|fail
     all_goals first|rfl|(exfalso;omega)
    ·rw[if_neg (by omega)] at hq
     subst hq
     have hz3:¬(ek.length:Int)=0:=by omega
     have hz4:(ek.length:Int)<=48:=by omega
     rw[show Kw.d (k,(0:Int)).1=kd from hkd.symm]
     clear hkd
     repeat' first|refine st ?_|((with_reducible apply A4);conv=>whnf)|refine⟨λ_=>?_,λ_=>?_⟩|fail
     all_goals first|rfl|(exfalso;omega)
  ·rw[if_neg hr] at hq
   subst hq
   clear hkd
   repeat' first|refine st ?_|((with_reducible apply A4);conv=>whnf)|refine⟨λ_=>?_,λ_=>?_⟩|fail
   all_goals first|rfl|(exfalso;omega)
def C4(K:List Kw)(p:Pl):Kw×Int:=if 24<F5 p then (K0,26) else C2 K p
theorem A5W(K:List Kw)(hK:K.length<=4294967296)(hKb:∀k∈K,k.ks.length<=4294967296)(din:D)(hin:A9 din (E7 K))(p:Pl)(hb:p.bk<=1073741824) :
  Pure Tryz.prog B8M [p.av,.d din] (.tup [.d (C4 K p).1.d,.d (eI (C4 K p).2)]):=by
 have hD:=C5I p hb
 have hN:=C5X K hK hKb din hin p hb
 obtain⟨q,hq⟩:∃q,q=C4 K p:=⟨_,rfl⟩
 rw[<- hq]
 unfold C4 at hq
 obtain⟨op',n',dk',dr',xo',xn',xv',xm',xd',dx',dy',da',di',c1,c2⟩:=Pl.cut p
 rw[c2] at hD hN ⊢
 obtain⟨t,ht⟩:∃t,t=F5 p:=⟨_,rfl⟩
 rw[<- ht] at hD hq
 obtain⟨⟨k,er⟩,hk⟩:∃z,z=C2 K p:=⟨_,rfl⟩
 rw[<- hk] at hN hq
 dsimp only at hN
 obtain⟨kd,hkd⟩:∃d,d=k.d:=⟨_,rfl⟩
 rw[<- hkd] at hN
 clear hk c1 c2 ht
 by_cases h:24<t
 ·rw[if_pos h] at hq
  subst hq
  refine B4r.go A6 rfl ?_
  repeat' first|refine st ?_|((with_reducible apply A4);conv=>whnf)|refine⟨λ_=>?_,λ_=>?_⟩|fail
  all_goals rfl
 ·rw[if_neg h] at hq
  subst hq
  rw[show Kw.d (k,er).1=kd from hkd.symm]
  clear hkd
  refine B4r.go A6 rfl ?_
  repeat' first|refine st ?_|((with_reducible apply A4);conv=>whnf)|refine⟨λ_=>?_,λ_=>?_⟩|fail
  all_goals rfl
end Go.Proofs
end
section
namespace Go.Proofs
open Go.Bi
structure A3h{α:Type}(f:α->α->Int):Prop where
 eq:∀a b,f a b=0↔a=b
 sw:∀a b,f b a=- f a b
 tr:∀a b c,f a b<0->f b c<0->f a c<0
theorem A3h.lex{α:Type}{f:α->α->Int}{g:List α->List α->Int}(hf:A3h f)(h0:g [] []=0)(h1:∀b y,g [] (b::y)=-1)(h2:∀a x,g (a::x) []=1)(h3:∀a x b y,g (a::x) (b::y)=if f a b=0 then g x y else f a b):A3h g:=by
 have e:∀a b,g a b=0↔a=b:=by
  intro a
  induction a with
  |nil=>intro b;cases b with
   |nil=>simp[h0]
   |cons b y=>simp[h1]
  |cons a x ih=>intro b;cases b with
   |nil=>simp[h2]
   |cons b y=>
    rw[h3]
    by_cases h:f a b=0
    ·rw[if_pos h,ih,(hf.eq _ _).1 h];simp
    ·rw[if_neg h]
     constructor
     ·intro k;exact absurd k h
     ·intro k;cases k;exact absurd ((hf.eq _ _).2 rfl) h
 refine⟨e,?_,?_⟩
 ·intro a
  induction a with
  |nil=>intro b;cases b with
   |nil=>rw[h0];rfl
   |cons b y=>rw[h1,h2];rfl
  |cons a x ih=>intro b;cases b with
   |nil=>rw[h1,h2]
   |cons b y=>
    have:=hf.sw a b
    rw[h3,h3,ih y]
    by_cases h:f a b=0
    ·rw[if_pos h,if_pos (by omega)]
    ·rw[if_neg h,if_neg (by omega),this]
 ·intro a
  induction a with
  |nil=>intro b c k1 k2;cases c with
   |nil=>cases b with
    |nil=>exact k1
    |cons b y=>rw[h2] at k2;omega
   |cons c z=>rw[h1];decide
  |cons a x ih=>intro b c k1 k2;cases b with
   |nil=>rw[h2] at k1;omega
   |cons b y=>cases c with
    |nil=>rw[h2] at k2;omega
    |cons c z=>
     rw[h3] at k1 k2 ⊢
     by_cases k3:f a b=0
     ·have k4:=(hf.eq _ _).1 k3
      subst k4
      rw[if_pos k3] at k1
      by_cases k5:f a c=0
      ·rw[if_pos k5] at k2 ⊢;exact ih _ _ k1 k2
      ·rw[if_neg k5] at k2 ⊢;exact k2
     ·rw[if_neg k3] at k1
      by_cases k5:f b c=0
      ·have k6:=(hf.eq _ _).1 k5
       subst k6
       rw[if_neg k3];exact k1
      ·rw[if_neg k5] at k2
       have k7:=hf.tr _ _ _ k1 k2
       rw[if_neg (by omega)];exact k7
theorem A24:A3h W9:=by
 refine⟨λa b=>A1x,λa b=>?_,λa b c=>?_⟩
 ·unfold W9;repeat' split
  all_goals omega
 ·unfold W9;repeat' split
  all_goals omega
def A8K(a b:UInt8):Int:=if a<b then -1 else if b<a then 1 else 0
theorem A57(a b:UInt8):A8K a b=W9 a.toNat b.toNat:=by
 unfold A8K W9
 simp only[UInt8.lt_iff_toNat_lt,Int.ofNat_lt]
theorem D5i:A3h A8K:=by
 refine⟨λa b=>?_,λa b=>?_,λa b c=>?_⟩
 ·rw[A57,A1x,Int.ofNat_inj];exact UInt8.toNat_inj
 ·rw[A57,A57];exact A24.sw _ _
 ·rw[A57,A57,A57];exact A24.tr _ _ _
theorem C0I:A3h w7:=by
 refine D5i.lex rfl (λ_ _=>rfl) (λ_ _=>rfl) λa x b y=>?_
 show(if a<b then (-1:Int) else if b<a then 1 else w7 x y)=_
 unfold A8K
 by_cases h1:a<b
 ·rw[if_pos h1,if_pos h1,if_neg (by decide)]
 ·by_cases h2:b<a
  ·rw[if_neg h1,if_pos h2,if_neg h1,if_pos h2,if_neg (by decide)]
  ·rw[if_neg h1,if_neg h2,if_neg h1,if_neg h2,if_pos rfl]
theorem D9S:A3h b6:=by
 refine⟨λa b=>B3l,λa b=>?_,λa b c h1 h2=>?_⟩
 ·have h1:=A24.sw a.k b.k
  have h2:=A24.sw a.n b.n
  have h3:=C0I.sw a.s b.s
  unfold b6 or3
  rw[h1,h2,h3]
  by_cases k1:W9 a.k b.k=0
  ·by_cases k2:W9 a.n b.n=0
   ·simp[k1,k2]
   ·simp[k1,k2]
  ·simp[k1]
 ·have i1:=A24.tr a.k b.k c.k
  have i2:=A24.tr a.n b.n c.n
  have i3:=C0I.tr a.s b.s c.s
  unfold b6 or3 at *
  have e1:=A24.eq a.k b.k
  have e2:=A24.eq b.k c.k
  have e3:=A24.eq a.n b.n
  have e4:=A24.eq b.n c.n
  by_cases k1:W9 a.k b.k=0
  ·have e1:=e1.1 k1
   rw[<- e1] at h2
   by_cases k2:W9 a.k c.k=0
   ·simp only[k1,k2,ne_eq,not_true_eq_false,if_false] at h1 h2 ⊢
    by_cases k3:W9 a.n b.n=0
    ·have e3:=e3.1 k3
     rw[<- e3] at h2
     by_cases k4:W9 a.n c.n=0
     ·simp only[k3,k4,ne_eq,not_true_eq_false,if_false] at h1 h2 ⊢
      exact i3 h1 h2
     ·simp only[k4,ne_eq,not_false_eq_true,if_true] at h2 ⊢
      exact h2
    ·simp only[k3,ne_eq,not_false_eq_true,if_true] at h1
     by_cases k4:W9 b.n c.n=0
     ·have e4:=e4.1 k4
      rw[<- e4]
      simp only[k3,ne_eq,not_false_eq_true,if_true]
      exact h1
     ·simp only[k4,ne_eq,not_false_eq_true,if_true] at h2
      have:=i2 h1 h2
      rw[if_pos (by omega)];exact this
   ·simp only[k2,ne_eq,not_false_eq_true,if_true] at h2 ⊢
    exact h2
  ·simp only[k1,ne_eq,not_false_eq_true,if_true] at h1
   by_cases k2:W9 b.k c.k=0
   ·have e2:=e2.1 k2
    rw[<- e2]
    simp only[k1,ne_eq,not_false_eq_true,if_true]
    exact h1
   ·simp only[k2,ne_eq,not_false_eq_true,if_true] at h2
    have:=i1 h1 h2
    rw[if_pos (by omega)];exact this
theorem A0w:A3h K5:=
 D9S.lex rfl (λ_ _=>rfl) (λ_ _=>rfl) λ_ _ _ _=>rfl
theorem C0J{a b c:B5}(h1:K5 a b<=0)(h2:K5 b c<=0):K5 a c<=0:=by
 by_cases k1:K5 a b=0
 ·rw[(A0w.eq _ _).1 k1];exact h2
 by_cases k2:K5 b c=0
 ·rw[<- (A0w.eq _ _).1 k2];exact h1
 have:=A0w.tr a b c (by omega) (by omega)
 omega
def Y8(l:List B5):Prop:=l.Pairwise λa b=>K5 a b<=0
theorem B2u:∀(n:Nat)(a b:List B5),a.length+b.length<=n->Y8 a->Y8 b->Y8 (P7 a b)
 |_,[],b,_,_,hb=>by rw[P7];exact hb
 |_,y::a,[],_,ha,_=>by rw[A5y];exact ha
 |0,y::a,z::b,h,_,_=>by simp at h
 |n+1,y::a,z::b,h,ha,hb=>by
  simp only[H9] at h
  have ha':=s7.1 ha
  have hb':=s7.1 hb
  rw[P7]
  split
  ·rename_i hlt
   refine s7.2 ⟨λx hx=>?_,B2u n _ _ (by simp only[H9];omega) ha hb'.2⟩
   rcases A79 _ _ _ (D3 _) x hx with h1|h1
   ·rcases H2.1 h1 with rfl|h2
    ·omega
    ·exact C0J (b:=y) (by omega) (ha'.1 x h2)
   ·exact hb'.1 x h1
  ·rename_i hlt
   have hyz:K5 y z<=0:=by have:=A0w.sw y z;omega
   refine s7.2 ⟨λx hx=>?_,B2u n _ _ (by simp only[H9];omega) ha'.2 hb⟩
   rcases A79 _ _ _ (D3 _) x hx with h1|h1
   ·exact ha'.1 x h1
   ·rcases H2.1 h1 with rfl|h2
    ·exact hyz
    ·exact C0J (b:=z) hyz (hb'.1 x h2)
theorem A4q:∀(n:Nat)(l:List B5),l.length<=n->Y8 (D1 l)
 |0,l,h=>by
  rw[D1,dif_pos (by omega)]
  cases l with
  |nil=>exact List.Pairwise.nil
  |cons a r=>simp at h
 |n+1,l,h=>by
  rw[D1]
  split
  ·rename_i h1
   match l,h1 with
   |[],_=>exact List.Pairwise.nil
   |[a],_=>exact B0I _ _
  ·exact B2u _ _ _ (D3 _) (A4q n _ (by rw[M4];omega)) (A4q n _ (by rw[Y2];omega))
theorem C0O{w:List (B5×Nat)}{x:B5}:∀p∈X0 w x,p.1=x\/∃p'∈w,p'.1=p.1:=by
 rcases List.eq_nil_or_concat w with rfl|⟨u,⟨p,n⟩,rfl⟩
 ·intro q hq
  exact .inl (by rw[M7.1 hq])
 ·intro q hq
  rw[List.concat_eq_append,B1I] at hq
  split at hq
  ·rcases K8.1 hq with h|h
   ·exact .inr ⟨q,by simp[h],rfl⟩
   ·exact .inr ⟨(p,n),by simp,by rw[M7.1 h]⟩
  ·rcases K8.1 hq with h|h
   ·exact .inr ⟨q,by simpa using h,rfl⟩
   ·exact .inl (by rw[M7.1 h])
def A4Y(w:List (B5×Nat)):Prop:=w.Pairwise λp q=>K5 p.1 q.1<0
theorem D5n{w:List (B5×Nat)}{x:B5}(hw:A4Y w)(hx:∀p∈w,K5 p.1 x<=0):A4Y (X0 w x):=by
 rcases List.eq_nil_or_concat w with rfl|⟨u,⟨p,n⟩,rfl⟩
 ·exact B0I _ _
 ·rw[List.concat_eq_append] at hw hx ⊢
  rw[B1I]
  have h1:=A66.1 hw
  split
  ·refine A66.2 ⟨h1.1,B0I _ _,λa ha b hb=>?_⟩
   rw[M7.1 hb]
   exact h1.2.2 a ha (p,n) (by simp)
  ·rename_i hne
   have hpx:K5 p x<0:=by
    have:=hx (p,n) (by simp)
    dsimp only at this
    omega
   refine A66.2 ⟨hw,B0I _ _,λa ha b hb=>?_⟩
   rw[M7.1 hb]
   rcases K8.1 ha with h|h
   ·exact A0w.tr _ p _ (h1.2.2 a h (p,n) (by simp)) hpx
   ·rw[M7.1 h];exact hpx
theorem C0Q:∀(l:List B5)(w:List (B5×Nat)),Y8 l->A4Y w->(∀p∈w,∀x∈l,K5 p.1 x<=0)->A4Y (l.foldl X0 w)
 |[],w,_,hw,_=>hw
 |x::r,w,hl,hw,h=>by
  have hl':=s7.1 hl
  refine C0Q r _ hl'.2 (D5n hw λp hp=>h p hp x (by simp)) λp hp y hy=>?_
  rcases C0O p hp with h1|⟨p',h1,h2⟩
  ·rw[h1];exact hl'.1 y hy
  ·rw[<- h2];exact h p' h1 y (by simp[hy])
theorem C0S(l:List B5):A4Y (O3 (D1 l)):=
 C0Q _ [] (A4q _ l (D3 _)) List.Pairwise.nil (by simp)
theorem C3L(l:List B5):Z0 (O3 (D1 l))=l.length:=by
 unfold O3
 rw[B3a,A14 _ _ (D3 _)]
 simp[Z0]
theorem C18(x:B5):∀o:List (B5×Nat),Z0 (t6 x o)<=Z0 o
 |[]=>D3 _
 |p::o=>by
  have:Z0 (List.dropWhile (λp=>decide (K5 p.1 x<0)) o)<=Z0 o:=C18 x o
  rw[t6,A62]
  split
  ·simp only[Z0,H5,List.sum_cons] at *;omega
  ·exact D3 _
theorem A9q:∀(l:List B5)(o:List (B5×Nat)),(l.Pairwise λa b=>K5 a b<0)->(U5 l o).sum<=Z0 o
 |[],o,_=>by simp[U5]
 |x::r,o,h=>by
  have h':=s7.1 h
  have h1:=C18 x o
  rw[U5,List.sum_cons]
  cases ho:t6 x o with
  |nil=>
   have h3:=A9q r [] h'.2
   have h2:hdR x []=0:=rfl
   rw[ho] at h1
   omega
  |cons p t=>
   rw[ho] at h1
   by_cases he:K5 p.1 x=0
   ·have h2:hdR x (p::t)=p.2:=if_pos he
    have h3:U5 r (p::t)=U5 r t:=by
     cases r with
     |nil=>rfl
     |cons y r'=>
      have hy:K5 p.1 y<0:=by rw[(A0w.eq _ _).1 he];exact h'.1 y (by simp)
      have:t6 y (p::t)=t6 y t:=by
       rw[t6,A62,if_pos (by rw[decide_eq_true hy])]
      rw[U5,U5,this]
    have h4:=A9q r t h'.2
    rw[h2,h3]
    simp only[Z0,H5,List.sum_cons] at *
    omega
   ·have h2:hdR x (p::t)=0:=if_neg he
    have h4:=A9q r (p::t) h'.2
    omega
theorem C3p(f:Nat->Nat->Int)(hf:∀n m,(f n m).toNat<=m):∀(w:List (B5×Nat))(ms:List Nat),(W2 f w ms).length<=ms.sum
 |[],ms=>by simp[W2]
 |p::r,[]=>by simp[W2]
 |p::r,m::ms=>by
  have h1:=C3p f hf r ms
  have h2:=hf p.2 m
  simp only[W2,H8,A38,List.sum_cons] at *
  omega
theorem C3E(f:Nat->Nat->Int)(hf:∀n m,(f n m).toNat<=n)(a b:List B5):(I6 f a b).length<=a.length:=by
 have:=A9y f hf (O3 (D1 a)) (U5 ((O3 (D1 a)).map Prod.fst) (O3 (D1 b)))
 rw[C3L] at this
 exact this
theorem D9m(f:Nat->Nat->Int)(hf:∀n m,(f n m).toNat<=m)(a b:List B5):(I6 f a b).length<=b.length:=by
 have h1:=C3p f hf (O3 (D1 a)) (U5 ((O3 (D1 a)).map Prod.fst) (O3 (D1 b)))
 have h2:=A9q ((O3 (D1 a)).map Prod.fst) (O3 (D1 b)) (List.pairwise_map.2 (C0S a))
 rw[C3L] at h2
 exact K4 h1 h2
theorem B2V(f:Nat->Nat->Int):∀(w:List (B5×Nat))(ms:List Nat),∀r∈W2 f w ms,∃p∈w,p.1=r
 |[],ms,r,h=>by simp[W2] at h
 |p::w,[],r,h=>by simp[W2] at h
 |p::w,m::ms,r,h=>by
  rw[W2] at h
  rcases K8.1 h with h|h
  ·exact⟨p,by simp,(A8b.1 h).2.symm⟩
  ·obtain⟨q,h1,h2⟩:=B2V f w ms r h
   exact⟨q,by simp[h1],h2⟩
theorem C0P:∀(l:List B5)(w:List (B5×Nat)),∀p∈l.foldl X0 w,p.1∈l\/∃p'∈w,p'.1=p.1
 |[],w,p,h=>.inr ⟨p,h,rfl⟩
 |x::l,w,p,h=>by
  rcases C0P l _ p h with h1|⟨p',h1,h2⟩
  ·exact .inl (by simp[h1])
  ·rcases C0O p' h1 with h3|⟨p2,h3,h4⟩
   ·exact .inl (by rw[<- h2,h3];simp)
   ·exact .inr ⟨p2,h3,h4.trans h2⟩
theorem C3F(f:Nat->Nat->Int)(a b:List B5):∀r∈I6 f a b,r∈a:=by
 intro r h
 obtain⟨p,h1,rfl⟩:=B2V f _ _ r h
 rcases C0P _ _ p h1 with h2|⟨p',h2,_⟩
 ·exact A1I _ _ (D3 _) _ h2
 ·cases h2
end Go.Proofs
end
