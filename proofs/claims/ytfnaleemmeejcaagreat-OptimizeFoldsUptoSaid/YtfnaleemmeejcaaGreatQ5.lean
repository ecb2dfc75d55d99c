/- Texts of this claim, joined. No condition. -/
import Derived.Test.YtfnaleemmeejcaaGreatQ4
set_option linter.unusedSimpArgs false
set_option linter.unusedVariables false
set_option maxRecDepth 10000
set_option maxHeartbeats 4000000
section
namespace Go.Bi
structure WeakL(n nb:Nat)(L:Sl)(os:List AO)(L2:Sl)(os2:List AO):Prop where
 un:Weak n nb (ofL L) os (ofL L2) os2
theorem WeakL.keep{n nb:Nat}{L:Sl}{os:List AO}{ts ks:List Nat}{vs ws vs':List AV}{os2:List AO}(h0:valsOf L ts=vs')(h1:vs=vs')(h2:ws=valsOf L ks)(m:Nat)(hm:Nat.ble nb m=true)(ho:os.take m=os2)
  (hb:vs.all (λv=>v.bndB m)=true) (hb2:ws.all (λv=>v.bndB m)=true) (hb3:os2.all (λo=>o.bndB m)=true):WeakL n nb L os (zipS ts vs++zipS ks ws) os2:=
 ⟨weak_sel (h1.trans h0.symm) h2 m (Nat.le_of_ble_eq_true hm) ho hb hb2 hb3⟩
theorem WeakL.frz{n nb:Nat}{L L2:Sl}{os os2:List AO}(t:Nat){id len sz frz:Nat}{nl:Bool}{es:List (List D)}(ht:ofL L t=.arr id len)(ho:os[id]?=some (.arr es sz frz nl))(hl:len=es.length)
  (k:WeakL n nb ((t,.d (if nl then .nil else .sl es))::L) (os.set id (.arr es sz es.length nl)) L2 os2):WeakL n nb L os L2 os2:=by
 have hw:=weak_frz (n:=n) (nb:=nb) (ρ:=ofL L) (os:=os) t ht ho hl
 rw[ofL_cons] at hw
 exact⟨hw.trans k.un⟩
theorem WeakL.refl{n nb:Nat}{L:Sl}{os:List AO}:WeakL n nb L os L os:=⟨λc M G w a h=>⟨M,G,h⟩⟩
theorem x_exitW{P:Program}{n nb:Nat}{cd:IC}{N:Sl->List AO->Prop}{E0:Nat->Sl->List AO->Prop}{R:Sl->List AO->Prop}{L:Sl}{os:List AO}
  (h:LoopX P n nb cd N (λi L os=>∃L2 os2,WeakL n nb L os L2 os2/\E0 i L2 os2) R L os):LoopX P n nb cd N E0 R L os:=by
 refine⟨λcode hc c M G w a hR=>wp_mono (h.h code hc c M G w a hR) λe a' w' hp=>?_⟩
 cases e with
 |exit id=>
  obtain⟨M',G',os',ρ',hR',L1,rfl,L2,os2,hw,he⟩:=hp
  obtain⟨M2,G2,hR2⟩:=hw.un c M' G' w' a' hR'
  exact⟨M2,G2,os2,_,hR2,L2,rfl,he⟩
 |normal=>exact hp
 |ret=>exact hp
 |_=>exact hp.elim
end Go.Bi
namespace Go.Proofs
open Go.Bi
def sameK(x y:Kd):Bool:=decide (cmpR y.key x.key=0)
def gsK(ags:List Ag):List Kd->List Row
 |[]=>[]
 |x::r=>oneR x.key (vsR ((x::r.takeWhile (sameK x)).map Kd.rw)) ags::gsK ags (r.dropWhile (sameK x))
termination_by l=>l.length
decreasing_by
 simp only[List.length_cons]
 have:=(List.dropWhile_suffix (l:=r) (sameK x)).length_le
 omega
def kdL(keys:List Int)(l:List Rw):List Kd:=l.map λr=>⟨pick r.vs keys,r⟩
def grpR(keys:List Int)(ags:List Ag)(l:List Rw):List Row:=
 if l.isEmpty&&keys.isEmpty then [oneR [] [] ags] else gsK ags (ordK (kdL keys l))
theorem gsK_len(ags:List Ag):∀(n:Nat)(l:List Kd),l.length<=n->(gsK ags l).length<=l.length
 |_,[],_=>by rw[gsK];exact Nat.le_refl _
 |0,x::r,h=>by simp at h
 |n+1,x::r,h=>by
  rw[gsK]
  simp only[List.length_cons] at h ⊢
  have:=(List.dropWhile_suffix (l:=r) (sameK x)).length_le
  have:=gsK_len ags n (r.dropWhile (sameK x)) (by omega)
  omega
theorem gsK_mem(ags:List Ag):∀(n:Nat)(l:List Kd),l.length<=n->∀r∈gsK ags l,∃x∈l,∃rs:List Row,r=oneR x.key rs ags
 |_,[],_,r,h=>by rw[gsK] at h;cases h
 |0,x::r,h,_,_=>by simp at h
 |n+1,x::t,h,r,hr=>by
  rw[gsK] at hr
  simp only[List.length_cons] at h
  have:=(List.dropWhile_suffix (l:=t) (sameK x)).length_le
  rcases List.mem_cons.1 hr with rfl|hr
  ·exact⟨x,by simp,_,rfl⟩
  ·obtain⟨y,hy,rs,h2⟩:=gsK_mem ags n (t.dropWhile (sameK x)) (by omega) r hr
   exact⟨y,List.mem_cons_of_mem _ ((List.dropWhile_suffix (l:=t) (sameK x)).mem hy),rs,h2⟩
theorem cmpR_refl(a:Row):cmpR a a=0:=cmpR_eq.2 rfl
theorem sameK_tw{x y:Kd}{l:List Kd}(h:cmpR y.key x.key=0):(y::l).takeWhile (sameK x)=y::l.takeWhile (sameK x)/\(y::l).dropWhile (sameK x)=l.dropWhile (sameK x):=by
 have:sameK x y=true:=decide_eq_true h
 rw[List.takeWhile_cons,this,List.dropWhile_cons,this]
 exact⟨rfl,rfl⟩
theorem sameK_tn{x y:Kd}{l:List Kd}(h:¬cmpR y.key x.key=0):(y::l).takeWhile (sameK x)=[]/\(y::l).dropWhile (sameK x)=y::l:=by
 have:sameK x y=false:=decide_eq_false h
 rw[List.takeWhile_cons,this,List.dropWhile_cons,this]
 exact⟨rfl,rfl⟩
theorem oneR_len(key:Row)(rs:List Row)(ags:List Ag):(oneR key rs ags).length=key.length+ags.length:=by unfold oneR;rw[List.length_append,List.length_map]
theorem C.r21_Group(ks:List Int)(hks:ks.length<=1048576)(dk:D)(hdk:SlD dk (eIs ks))(l:List Rw)(hl:l.length<=4194304)(ho:∀r∈l,RwOk r.vs)(dr:D)(hd:SlD dr (eRs l))(keys:List Int)(hkl:keys.length<=1048576)(dy:D)(hdy:SlD dy (eIs keys))(ags:List Ag)(hal:ags.length<=1048576)(har:∀a∈ags,∀r∈l,a.arg<r.vs.length)(da:D)(hda:SlD da (eAs ags)) :
  Pure Tryz.prog N.bt_ref21_Group [eBag dk dr,.d dy,.d da] (eBag (slD (eIs (grpF ks keys ags).1).isEmpty (eIs (grpF ks keys ags).1)) (.sl (rD (ordR (grpR keys ags l))))):=by
 have hG:=C.r21_Grouped ks hks dk hdk keys hkl dy hdy ags hal da hda
 obtain⟨kd,hkd⟩:∃z,z=slD (eIs (grpF ks keys ags).1).isEmpty (eIs (grpF ks keys ags).1):=⟨_,rfl⟩
 rw[<- hkd] at hG ⊢
 obtain⟨ke,hke⟩:∃z,z=(grpF ks keys ags).2:=⟨_,rfl⟩
 rw[<- hke] at hG
 clear hkd hke hdk hks
 have hP:=λ(r:Rw) (h:r∈l)=>C.r8_Pick r.vs (ho r h).1 r.d sld_ng keys hkl dy hdy
 have l1:=eRs_len l
 have m1:=eRs_mem l
 have g1:=λi r=>@eRs_get l i r
 obtain⟨es,hes⟩:∃z,z=eRs l:=⟨_,rfl⟩
 rw[<- hes] at hd l1 m1 g1
 have l2:=eIs_len keys
 have m2:=eIs_mem keys
 have hOrd:l=[]\/(Bi.Pure Tryz.prog N.bt_ref21_ordered [.d (.sl (eKs (kdL keys l)))] (.d (.sl (eKs (ordK (kdL keys l)))))):=.inr (C.r21_ordered _ _ (Nat.le_refl _) (by unfold kdL;rw[List.length_map];exact hl) (λr h=>by
  obtain⟨x,_,rfl⟩:=List.mem_map.1 h
  show(keys.map _).length<=_
  rw[List.length_map];omega))
 have hsz:(kdL keys l).length=l.length:=by unfold kdL;rw[List.length_map]
 obtain⟨fs,hfs⟩:∃z,z=eIs keys:=⟨_,rfl⟩
 rw[<- hfs] at hdy l2 m2
 clear hes hfs
 refine F.bt_ref21_Group.go mixed rfl ?_
 repeat' first|refine st ?_|((with_reducible apply go_i);conv=>whnf)|refine⟨λ_=>?_,λ_=>?_⟩|fail
 refine x_nil 10 2 rfl rfl ?_
 refine x_nilcc 2 1 1 rfl rfl rfl ?_
 refine x_loop2 mixed Lt.bt_ref21_Group_l0 Lk.bt_ref21_Group_l0 (λ(i:Nat) (w:List Kd)=>[.arr 3 (eKs w).length,.d (eI i)]) (λi w=>[.cells [.d dk,.d dr],.cells [.d .nil,.d .nil],.cells [.d kd,.arr 4 0],.arr (eKs w) 2 0 (eKs w).isEmpty,.arr [] 1 0 true]) (λi w=>i<=l.length/\w=kdL keys (l.take i)) (λi w=>l.length-i) 0 [] rfl rfl rfl rfl (λ_ _ _=>⟨rfl,rfl⟩) rfl ⟨by omega,rfl⟩ ?_
 repeat' first|refine st ?_|((with_reducible apply go_i);conv=>whnf)|refine⟨λ_=>?_,λ_=>?_⟩|fail
 intro i w ⟨i1,i2⟩
 have hwl:w.length=i:=by rw[i2];unfold kdL;rw[List.length_map,List.length_take];omega
 have hw1:=eKs_len w
 have hwm:=eKs_mem w
 have hbd:((eKs w).length+1)*48<=140737488355328:=by omega
 cases hx:l[i]? with
 |some r=>
  have hlt:=(List.getElem?_eq_some_iff.1 hx).1
  have hil:(i:Int)<es.length:=by omega
  have e1:es[((i:Nat):Int).toNat]?=some [r.d]:=g1 i r hx
  have hP:=hP r (List.mem_of_getElem? hx)
  have hft:kdL keys (l.take (i+1))=w++[⟨pick r.vs keys,r⟩]:=by
   rw[i2,List.take_add_one,hx];simp[kdL]
  have happ:eKs (w++[⟨pick r.vs keys,r⟩])=eKs w++[[.sl (eVs (pick r.vs keys)),r.d]]:=by rw[eKs_app];rfl
  obtain⟨A,hA⟩:∃z,z=eKs w:=⟨_,rfl⟩
  rw[<- hA] at hw1 hwm hbd happ ⊢
  obtain⟨kk,hkk⟩:∃z,z=eVs (pick r.vs keys):=⟨_,rfl⟩
  rw[<- hkk] at hP happ
  obtain⟨rd,hrd⟩:∃z,z=r.d:=⟨_,rfl⟩
  rw[<- hrd] at hP happ e1
  clear hrd hkk i2 hx g1 hOrd har ho
  repeat' first|refine st ?_|((with_reducible apply go_i);conv=>whnf)|refine⟨λ_=>?_,λ_=>?_⟩|fail
  exact⟨i+1,w++[⟨pick r.vs keys,r⟩],by rw[happ];simp,rfl,by rw[happ];simp,by omega,by omega,hft.symm⟩
 |none=>
  have hge:=List.getElem?_eq_none_iff.1 hx
  have hil:(es.length:Int)<=i:=by omega
  rw[List.take_of_length_le hge] at i2
  cases l with
  |nil=>
   have hw0:w=[]:=i2
   subst hw0
   have hN:=C.r21_ordered0
   have hAe:eKs []=[]:=rfl
   rw[hAe]
   clear i2 hP hOrd hbd hwm hw1 g1 hx hwl
   by_cases hk:keys=[]
   ·have hq:grpR keys ags []=[oneR [] [] ags]:=by unfold grpR;rw[hk];rfl
    rw[hq]
    have hO:=C.r21_one [] (by decide) .nil (.inl ⟨rfl,rfl⟩) [] (by decide) .nil (.inl ⟨rfl,rfl⟩) ags (by omega) (λa _ r hr=>by cases hr) da hda
    have hO:Bi.Pure Tryz.prog N.bt_ref21_one [.d .nil,.d .nil,.d da] (.d (.sl (eVs (oneR [] [] ags)))):=hO
    have hS:=C.r8_Sort (rw0 [oneR [] [] ags]) (by unfold rw0;simp) (λr h=>by
     obtain⟨x,hx,rfl⟩:=List.mem_map.1 h
     rw[List.mem_singleton.1 hx]
     show(oneR [] [] ags).length<=_
     rw[oneR_len];simp;omega) (.sl [[.sl (eVs (oneR [] [] ags))]]) (.inr rfl)
    rw[vsR_rw0] at hS
    obtain⟨S,hSS⟩:∃z,z=rD (ordR [oneR [] [] ags]):=⟨_,rfl⟩
    rw[<- hSS] at hS ⊢
    obtain⟨oe,hoe⟩:∃z,z=eVs (oneR [] [] ags):=⟨_,rfl⟩
    rw[<- hoe] at hO hS
    have hf0:fs.length=0:=by rw[l2,hk];rfl
    have hf1:(fs.length:Int)=0:=by omega
    clear hSS hoe hq
    repeat' first|refine st ?_|((with_reducible apply go_i);conv=>whnf)|refine⟨λ_=>?_,λ_=>?_⟩|fail
    refine x_loop1 mixed Lt.bt_ref21_Group_l2 Lk.bt_ref21_Group_l2 (λ(j:Nat)=>[.d (eI 0)]) (λj=>[.cells [.d dk,.d dr],.cells [.d .nil,.d .nil],.cells [.d kd,.arr 4 1],.arr [] 2 0 true,.arr [[.sl oe]] 1 0 false]) (λj=>j=0) (λj=>0) 0 rfl rfl rfl rfl (λ_ _=>⟨rfl,rfl⟩) rfl rfl ?_
    repeat' first|refine st ?_|((with_reducible apply go_i);conv=>whnf)|refine⟨λ_=>?_,λ_=>?_⟩|fail
    intro j hj
    repeat' first|refine st ?_|((with_reducible apply go_i);conv=>whnf)|refine⟨λ_=>?_,λ_=>?_⟩|fail
    all_goals rfl
   ·have hq:grpR keys ags []=[]:=by
     unfold grpR
     rw[show([]:List Rw).isEmpty=true from rfl,Bool.true_and,if_neg (by rw[List.isEmpty_iff];exact hk)]
     show gsK ags (ordK [])=[]
     rw[ordK,dif_pos (by decide),gsK]
    rw[hq]
    have hS:=C.r8_Sort [] (by decide) (λr h=>by cases h) .nil (.inl ⟨rfl,rfl⟩)
    rw[show vsR []=[] from rfl] at hS
    obtain⟨S,hSS⟩:∃z,z=rD (ordR []):=⟨_,rfl⟩
    rw[<- hSS] at hS ⊢
    have hf1:¬(fs.length:Int)=0:=by
     have:=List.length_pos_iff.2 hk
     omega
    clear hSS hq
    repeat' first|refine st ?_|((with_reducible apply go_i);conv=>whnf)|refine⟨λ_=>?_,λ_=>?_⟩|fail
    refine x_loop1 mixed Lt.bt_ref21_Group_l2 Lk.bt_ref21_Group_l2 (λ(j:Nat)=>[.d (eI 0)]) (λj=>[.cells [.d dk,.d dr],.cells [.d .nil,.d .nil],.cells [.d kd,.arr 4 0],.arr [] 2 0 true,.arr [] 1 0 true]) (λj=>j=0) (λj=>0) 0 rfl rfl rfl rfl (λ_ _=>⟨rfl,rfl⟩) rfl rfl ?_
    repeat' first|refine st ?_|((with_reducible apply go_i);conv=>whnf)|refine⟨λ_=>?_,λ_=>?_⟩|fail
    intro j hj
    repeat' first|refine st ?_|((with_reducible apply go_i);conv=>whnf)|refine⟨λ_=>?_,λ_=>?_⟩|fail
    all_goals rfl
  |cons a t=>
   have hOrd:=hOrd.resolve_left (by simp)
   rw[<- i2] at hOrd
   have hAe:(eKs w).isEmpty=false:=by rw[i2];rfl
   obtain⟨A,hA⟩:∃z,z=eKs w:=⟨_,rfl⟩
   rw[<- hA] at hw1 hwm hbd hOrd hAe ⊢
   rw[hAe]
   have z1:=eKs_len (ordK w)
   rw[ordK_len _ _ (Nat.le_refl _)] at z1
   have zm:=eKs_mem (ordK w)
   have zg:=λi x=>@eKs_get (ordK w) i x
   obtain⟨B,hB⟩:∃z,z=eKs (ordK w):=⟨_,rfl⟩
   rw[<- hB] at hOrd z1 zm zg
   have hBp:¬B.length=0:=by simp only[List.length_cons] at hge;omega
   have hBp:¬(B.length:Int)=0:=by omega
   have hda':=hda
   have hRl:(gsK ags (ordK w)).length<=4194304:=by
    have:=gsK_len ags _ (ordK w) (Nat.le_refl _)
    rw[ordK_len _ _ (Nat.le_refl _)] at this
    have:=hwl
    omega
   obtain⟨L0,hL0⟩:∃z,z=a::t:=⟨_,rfl⟩
   have hq:grpR keys ags (a::t)=gsK ags (ordK w):=by unfold grpR;rw[i2];rfl
   rw[hq]
   rw[<- hL0] at har ho i2
   have hZo:∀x∈ordK w,x.rw∈L0/\x.key.length<=4194304:=λx hx=>by
    have:=ordK_mem _ _ (Nat.le_refl _) x hx
    rw[i2] at this
    obtain⟨y,hy,rfl⟩:=List.mem_map.1 this
    exact⟨hy,by show(keys.map _).length<=_;rw[List.length_map];omega⟩
   have hRm:∀r∈gsK ags (ordK w),r.length<=4194304:=λr hr=>by
    obtain⟨x,hx,rs,rfl⟩:=gsK_mem ags _ _ (Nat.le_refl _) r hr
    have:=ordK_mem _ _ (Nat.le_refl _) x hx
    rw[i2] at this
    obtain⟨y,hy,rfl⟩:=List.mem_map.1 this
    rw[oneR_len]
    show(keys.map _).length+_<=_
    rw[List.length_map];omega
   have hS:=C.r8_Sort (rw0 (gsK ags (ordK w))) (by unfold rw0;rw[List.length_map];exact hRl) (λr h=>by
    obtain⟨x,hx,rfl⟩:=List.mem_map.1 h
    exact hRm x hx) (if (rD (gsK ags (ordK w))).isEmpty then .nil else .sl (rD (gsK ags (ordK w)))) (by rw[eRs_rw0];exact nl_D rfl)
   rw[vsR_rw0] at hS
   obtain⟨S,hSS⟩:∃z,z=rD (ordR (gsK ags (ordK w))):=⟨_,rfl⟩
   rw[<- hSS] at hS ⊢
   clear hSS hRm hP g1 hx hq
   repeat' first|refine st ?_|((with_reducible apply go_i);conv=>whnf)|refine⟨λ_=>?_,λ_=>?_⟩|fail
   rw[<- hw1] at hwl
   have hzl:=ordK_len _ w (Nat.le_refl _)
   obtain⟨Z,hZ⟩:∃z,z=ordK w:=⟨_,rfl⟩
   rw[<- hZ] at hS hRl hZo zg hzl
   obtain⟨R,hR⟩:∃z,z=gsK ags Z:=⟨_,rfl⟩
   rw[<- hR] at hS hRl
   clear hZ hB i2 hL0
   refine x_loop2 mixed Lt.bt_ref21_Group_l2 Lk.bt_ref21_Group_l2 (λ(j:Nat) (u:List Row)=>[.d (eI j)]) (λj u=>[.cells [.d dk,.d dr],.cells [.d .nil,.d .nil],.cells [.d kd,.arr 4 (rD u).length],.arr A 2 A.length false,.arr (rD u) 1 0 (rD u).isEmpty]) (λj u=>j<=Z.length/\R=u++gsK ags (Z.drop j)) (λj u=>Z.length-j) 0 [] rfl rfl rfl rfl (λ_ _ _=>⟨rfl,rfl⟩) rfl ⟨by omega,hR⟩ ?_
   repeat' first|refine st ?_|((with_reducible apply go_i);conv=>whnf)|refine⟨λ_=>?_,λ_=>?_⟩|fail
   intro j u ⟨j1,j2⟩
   clear hil
   cases hj:Z[j]? with
   |some x=>
    have hlt:=(List.getElem?_eq_some_iff.1 hj).1
    have hjl:(j:Int)<B.length:=by omega
    have e1:B[((j:Nat):Int).toNat]?=some [.sl (eVs x.key),x.rw.d]:=zg j x hj
    have hxZ:x∈Z:=List.mem_of_getElem? hj
    have dx:Z.drop j=x::Z.drop (j+1):=by rw[List.drop_eq_getElem_cons hlt,(List.getElem?_eq_some_iff.1 hj).2]
    rw[dx,gsK] at j2
    clear hj
    repeat' first|refine st ?_|((with_reducible apply go_i);conv=>whnf)|refine⟨λ_=>?_,λ_=>?_⟩|fail
    refine x_nil 13 1 rfl rfl ?_
    refine x_exitW ?_
    refine x_loop2 mixed Lt.bt_ref21_Group_l1 Lk.bt_ref21_Group_l1 (λ(k:Nat) (v:List Kd)=>[.arr 5 (eRs (v.map Kd.rw)).length,.d (eI k)]) (λk v=>[.cells [.d dk,.d dr],.cells [.d .nil,.d .nil],.cells [.d kd,.arr 4 (rD u).length],.arr A 2 A.length false,.arr (rD u) 1 0 (rD u).isEmpty,.arr (eRs (v.map Kd.rw)) 1 0 (eRs (v.map Kd.rw)).isEmpty]) (λk v=>k<=Z.length/\k=j+v.length/\v++(Z.drop k).takeWhile (sameK x)=x::(Z.drop (j+1)).takeWhile (sameK x)/\(Z.drop k).dropWhile (sameK x)=(Z.drop (j+1)).dropWhile (sameK x)) (λk v=>Z.length-k) j [] rfl rfl rfl rfl (λ_ _ _=>⟨rfl,rfl⟩) rfl ⟨by omega,rfl,by rw[dx];exact(sameK_tw (cmpR_refl _)).1,by rw[dx];exact(sameK_tw (cmpR_refl _)).2⟩ ?_
    repeat' first|refine st ?_|((with_reducible apply go_i);conv=>whnf)|refine⟨λ_=>?_,λ_=>?_⟩|fail
    intro k v ⟨k1,k2,k3,k4⟩
    cases hk:Z[k]? with
    |some y=>
     have hlt2:=(List.getElem?_eq_some_iff.1 hk).1
     have hkl2:(k:Int)<B.length:=by omega
     have e2:B[((k:Nat):Int).toNat]?=some [.sl (eVs y.key),y.rw.d]:=zg k y hk
     have hyZ:y∈Z:=List.mem_of_getElem? hk
     have dy':Z.drop k=y::Z.drop (k+1):=by rw[List.drop_eq_getElem_cons hlt2,(List.getElem?_eq_some_iff.1 hk).2]
     have hE:=C.r8_Equal y.key x.key (hZo _ hyZ).2 (hZo _ hxZ).2 (.sl (eVs y.key)) (.sl (eVs x.key)) (.inr rfl) (.inr rfl)
     rw[dy'] at k3 k4
     clear hk
     by_cases h0:cmpR y.key x.key=0
     ·rw[decide_eq_true h0] at hE
      rw[(sameK_tw h0).1] at k3
      rw[(sameK_tw h0).2] at k4
      have v1:=eRs_len (v.map Kd.rw)
      rw[List.length_map] at v1
      have v2:=eRs_mem (v.map Kd.rw)
      have hva:eRs ((v++[y]).map Kd.rw)=eRs (v.map Kd.rw)++[[y.rw.d]]:=by rw[List.map_append,eRs_app];rfl
      have hbv:((eRs (v.map Kd.rw)).length+1)*24<=140737488355328:=by omega
      obtain⟨V,hV⟩:∃z,z=eRs (v.map Kd.rw):=⟨_,rfl⟩
      rw[<- hV] at v1 v2 hva hbv ⊢
      obtain⟨yk,hyk⟩:∃z,z=eVs y.key:=⟨_,rfl⟩
      obtain⟨xk,hxk⟩:∃z,z=eVs x.key:=⟨_,rfl⟩
      obtain⟨yd,hyd⟩:∃z,z=y.rw.d:=⟨_,rfl⟩
      obtain⟨xd,hxd⟩:∃z,z=x.rw.d:=⟨_,rfl⟩
      rw[<- hyk] at hE e2
      rw[<- hxk] at hE e1
      rw[<- hxd] at e1
      rw[<- hyd] at e2 hva
      repeat' first|refine st ?_|((with_reducible apply go_i);conv=>whnf)|refine⟨λ_=>?_,λ_=>?_⟩|fail
      exact⟨k+1,v++[y],by rw[hva];simp,rfl,by rw[hva];simp,by omega,by omega,by simp;omega,by rw[<- k3,List.append_assoc];rfl,k4⟩
     ·rw[decide_eq_false h0] at hE
      rw[(sameK_tn h0).1,List.append_nil] at k3
      rw[(sameK_tn h0).2] at k4
      have hT:([]:List Kd)=[]:=rfl
      have k3:v++[]=x::(Z.drop (j+1)).takeWhile (sameK x):=by rw[k3];exact List.append_nil _
      have hDr:y::Z.drop (k+1)=Z.drop k:=dy'.symm
      have k3:v=x::(Z.drop (j+1)).takeWhile (sameK x):=by rw[<- k3,hT,List.append_nil]
      have hvp:0<v.length:=by rw[k3];exact Nat.succ_pos _
      have hvm:∀y∈v,y.rw∈L0/\y.key.length<=4194304:=λy hy=>by
       rw[k3] at hy
       rcases List.mem_cons.1 hy with rfl|hy
       ·exact hZo _ hxZ
       ·exact hZo y (List.mem_of_mem_drop ((List.takeWhile_prefix (sameK x)).mem hy))
      have hO:=C.r21_one x.key (hZo _ hxZ).2 (.sl (eVs x.key)) (.inr rfl) (v.map Kd.rw) (by rw[List.length_map];omega) (.sl (eRs (v.map Kd.rw))) (.inr rfl) ags (by omega) (λa ha r hr=>by
       obtain⟨y,hy,rfl⟩:=List.mem_map.1 hr
       exact⟨har a ha _ (hvm y hy).1,by have:=(ho _ (hvm y hy).1).1;omega⟩) da hda'
      rw[k3] at hO
      rw[<- k3] at hO
      have j3:R=(u++[oneR x.key (vsR (v.map Kd.rw)) ags])++gsK ags (Z.drop k):=by
       rw[j2,<- k4,hDr,k3,List.append_assoc];rfl
      have hrow:rD (u++[oneR x.key (vsR (v.map Kd.rw)) ags])=rD u++[[.sl (eVs (oneR x.key (vsR (v.map Kd.rw)) ags))]]:=by rw[rD_app];rfl
      have hve:(eRs (v.map Kd.rw)).isEmpty=false:=by rw[k3];rfl
      have hRl:u.length+1<=R.length:=by rw[j3,List.length_append,List.length_append];simp only[List.length_cons,List.length_nil];omega
      have v1:=eRs_len (v.map Kd.rw)
      rw[List.length_map] at v1
      have v2:=eRs_mem (v.map Kd.rw)
      obtain⟨V,hV⟩:∃z,z=eRs (v.map Kd.rw):=⟨_,rfl⟩
      rw[<- hV] at hO hve v1 v2 ⊢
      rw[hve]
      obtain⟨oz,hoz⟩:∃z,z=oneR x.key (vsR (v.map Kd.rw)) ags:=⟨_,rfl⟩
      rw[<- hoz] at hO j3 hrow
      obtain⟨oe,hoe⟩:∃z,z=eVs oz:=⟨_,rfl⟩
      rw[<- hoe] at hO hrow
      have u1:=rD_len u
      have um:=rD_mem u
      obtain⟨U,hU⟩:∃z,z=rD u:=⟨_,rfl⟩
      rw[<- hU] at u1 um hrow ⊢
      have hbu:(U.length+1)*24<=140737488355328:=by omega
      clear hoz hoe hV k3 k4 hvm j2 zg hR hZo hU hT hDr
      repeat' first|refine st ?_|((with_reducible apply go_i);conv=>whnf)|refine⟨λ_=>?_,λ_=>?_⟩|fail
      refine⟨_,_,WeakL.frz 13 rfl rfl rfl WeakL.refl,?_⟩
      refine go_o ?_
      repeat' first|refine st ?_|((with_reducible apply go_i);conv=>whnf)|refine⟨λ_=>?_,λ_=>?_⟩|fail
      exact⟨k,u++[oz],rfl,rfl,by rw[hrow];simp,by omega,by omega,j3⟩
    |none=>
     have hge2:=List.getElem?_eq_none_iff.1 hk
     have hkl2:(B.length:Int)<=k:=by omega
     have hDr0:=List.drop_eq_nil_of_le hge2
     have hT:(Z.drop k).takeWhile (sameK x)=[]:=by rw[hDr0];rfl
     have hDr:(Z.drop k).dropWhile (sameK x)=Z.drop k:=by rw[hDr0];rfl
     have hE:True:=trivial
     clear hk
     have k3:v=x::(Z.drop (j+1)).takeWhile (sameK x):=by rw[<- k3,hT,List.append_nil]
     have hvp:0<v.length:=by rw[k3];exact Nat.succ_pos _
     have hvm:∀y∈v,y.rw∈L0/\y.key.length<=4194304:=λy hy=>by
      rw[k3] at hy
      rcases List.mem_cons.1 hy with rfl|hy
      ·exact hZo _ hxZ
      ·exact hZo y (List.mem_of_mem_drop ((List.takeWhile_prefix (sameK x)).mem hy))
     have hO:=C.r21_one x.key (hZo _ hxZ).2 (.sl (eVs x.key)) (.inr rfl) (v.map Kd.rw) (by rw[List.length_map];omega) (.sl (eRs (v.map Kd.rw))) (.inr rfl) ags (by omega) (λa ha r hr=>by
      obtain⟨y,hy,rfl⟩:=List.mem_map.1 hr
      exact⟨har a ha _ (hvm y hy).1,by have:=(ho _ (hvm y hy).1).1;omega⟩) da hda'
     rw[k3] at hO
     rw[<- k3] at hO
     have j3:R=(u++[oneR x.key (vsR (v.map Kd.rw)) ags])++gsK ags (Z.drop k):=by
      rw[j2,<- k4,hDr,k3,List.append_assoc];rfl
     have hrow:rD (u++[oneR x.key (vsR (v.map Kd.rw)) ags])=rD u++[[.sl (eVs (oneR x.key (vsR (v.map Kd.rw)) ags))]]:=by rw[rD_app];rfl
     have hve:(eRs (v.map Kd.rw)).isEmpty=false:=by rw[k3];rfl
     have hRl:u.length+1<=R.length:=by rw[j3,List.length_append,List.length_append];simp only[List.length_cons,List.length_nil];omega
     have v1:=eRs_len (v.map Kd.rw)
     rw[List.length_map] at v1
     have v2:=eRs_mem (v.map Kd.rw)
     obtain⟨V,hV⟩:∃z,z=eRs (v.map Kd.rw):=⟨_,rfl⟩
     rw[<- hV] at hO hve v1 v2 ⊢
     rw[hve]
     obtain⟨oz,hoz⟩:∃z,z=oneR x.key (vsR (v.map Kd.rw)) ags:=⟨_,rfl⟩
     rw[<- hoz] at hO j3 hrow
     obtain⟨oe,hoe⟩:∃z,z=eVs oz:=⟨_,rfl⟩
     rw[<- hoe] at hO hrow
     have u1:=rD_len u
     have um:=rD_mem u
     obtain⟨U,hU⟩:∃z,z=rD u:=⟨_,rfl⟩
     rw[<- hU] at u1 um hrow ⊢
     have hbu:(U.length+1)*24<=140737488355328:=by omega
     clear hoz hoe hV k3 k4 hvm j2 zg hR hZo hU hT hDr
     repeat' first|refine st ?_|((with_reducible apply go_i);conv=>whnf)|refine⟨λ_=>?_,λ_=>?_⟩|fail
     refine⟨_,_,WeakL.frz 13 rfl rfl rfl WeakL.refl,?_⟩
     refine go_o ?_
     repeat' first|refine st ?_|((with_reducible apply go_i);conv=>whnf)|refine⟨λ_=>?_,λ_=>?_⟩|fail
     exact⟨k,u++[oz],rfl,rfl,by rw[hrow];simp,by omega,by omega,j3⟩
   |none=>
    have hge2:=List.getElem?_eq_none_iff.1 hj
    have hjl:(B.length:Int)<=j:=by omega
    rw[List.drop_eq_nil_of_le hge2,gsK,List.append_nil] at j2
    subst j2
    obtain⟨U,hU⟩:∃z,z=rD R:=⟨_,rfl⟩
    rw[<- hU] at hS ⊢
    obtain⟨b,hb⟩:∃b,b=U.isEmpty:=⟨_,rfl⟩
    rw[<- hb] at hS ⊢
    clear hj zg hU hZo hR
    cases b
    all_goals skip
    all_goals repeat' first|refine st ?_|((with_reducible apply go_i);conv=>whnf)|refine⟨λ_=>?_,λ_=>?_⟩|fail
    all_goals rfl
end Go.Proofs
end
section
namespace Go.Proofs
open Go.Bi
def fitB(v:Vl)(k:Int):Bool:=vValid v&&(decide (v.k=0)||decide (v.k=k))
def fits(row:List Vl)(ks:List Int):Bool:=decide (row.length=ks.length)&&(row.zip ks).all λp=>fitB p.1 p.2
theorem all_take_succ2{α:Type}{p:α->Bool}{l:List α}{i:Nat}{x:α}(h:l[i]?=some x):(l.take (i+1)).all p=((l.take i).all p&&p x):=by
 rw[List.take_add_one,h];simp
theorem all_none2{α:Type}{p:α->Bool}{l:List α}{i:Nat}{x:α}(h:l[i]?=some x)(hx:p x=false):l.all p=false:=by
 rw[Bool.eq_false_iff]
 intro e
 have:=List.all_eq_true.1 e x (List.mem_of_getElem? h)
 rw[hx] at this;cases this
theorem C.r8_Fits(row:List Vl)(ks:List Int)(hr:row.length<=1048576)(hk:ks.length<=1048576)(hrs:∀v∈row,v.s.length<=1048576)(dr:D)(hdr:SlD dr (eVs row))(dk:D)(hdk:SlD dk (eIs ks)):Pure Tryz.prog N.bt_ref08_Fits [.d dr,.d dk] (.d (.bool (fits row ks))):=by
 refine F.bt_ref08_Fits.go mixed rfl ?_
 have h1:=eVs_len row
 have hm:=eVs_mem row
 have h2:=eIs_len ks
 have hm2:=eIs_mem ks
 obtain⟨q,hq⟩:∃q,q=fits row ks:=⟨_,rfl⟩
 rw[<- hq]
 by_cases hl:row.length=ks.length
 rotate_left
 ·have:q=false:=by rw[hq,fits,decide_eq_false hl];rfl
  rw[this]
  repeat' first|refine st ?_|refine⟨λ_=>?_,λ_=>?_⟩|fail
  all_goals first|rfl|(exfalso;omega)
 unfold fits at hq
 rw[decide_eq_true hl,Bool.true_and] at hq
 have hl2:(eVs row).length=(eIs ks).length:=by omega
 repeat' first|refine st ?_|refine⟨λ_=>?_,λ_=>?_⟩|fail
 refine x_loop1 mixed Lt.bt_ref08_Fits_l0 Lk.bt_ref08_Fits_l0 (λ(i:Nat)=>[.d (eI i)]) (λi=>[]) (λi=>i<=row.length/\((row.zip ks).take i).all (λp=>fitB p.1 p.2)=true) (λi=>row.length-i) 0 rfl rfl rfl rfl (λ_ _=>⟨rfl,rfl⟩) rfl ⟨by omega,rfl⟩ ?_
 repeat' first|refine st ?_|refine⟨λ_=>?_,λ_=>?_⟩|fail
 intro i ⟨h4,h5⟩
 cases hx:row[i]? with
 |some v=>
  have hlt:=(List.getElem?_eq_some_iff.1 hx).1
  obtain⟨k,hkx⟩:∃k,ks[i]?=some k:=⟨_,List.getElem?_eq_getElem (by omega)⟩
  have hz:(row.zip ks)[i]?=some (v,k):=List.getElem?_zip_eq_some.2 ⟨hx,hkx⟩
  have hg:=eVs_get hx
  have hg2:=eIs_get hkx
  have hV:=C.r7_Valid v (Nat.le_trans (hrs v (List.mem_of_getElem? hx)) (by omega))
  have hs:=all_take_succ2 (p:=λp=>fitB p.1 p.2) hz
  rw[h5,Bool.true_and] at hs
  dsimp only at hs
  cases hv:vValid v with
  |false=>
   rw[hv] at hV
   have hb:fitB v k=false:=by rw[fitB,hv];rfl
   have hf:=all_none2 (p:=λp=>fitB p.1 p.2) hz hb
   rw[hf] at hq
   repeat' first|refine st ?_|refine⟨λ_=>?_,λ_=>?_⟩|fail
   all_goals (rw[hq])
  |true=>
   rw[hv] at hV
   by_cases hk0:v.k=0
   ·have hb:fitB v k=true:=by rw[fitB,hv,decide_eq_true hk0];rfl
    repeat' first|refine st ?_|refine⟨λ_=>?_,λ_=>?_⟩|fail
    exact⟨i+1,rfl,rfl,rfl,by omega,by omega,hs.trans hb⟩
   ·by_cases hkk:v.k=k
    ·have hb:fitB v k=true:=by rw[fitB,hv,decide_eq_true hkk];simp
     repeat' first|refine st ?_|refine⟨λ_=>?_,λ_=>?_⟩|fail
     exact⟨i+1,rfl,rfl,rfl,by omega,by omega,hs.trans hb⟩
    ·have hb:fitB v k=false:=by rw[fitB,hv,decide_eq_false hkk,decide_eq_false hk0];rfl
     have hf:=all_none2 (p:=λp=>fitB p.1 p.2) hz hb
     rw[hf] at hq
     repeat' first|refine st ?_|refine⟨λ_=>?_,λ_=>?_⟩|fail
     all_goals (rw[hq])
 |none=>
  have hge:=List.getElem?_eq_none_iff.1 hx
  rw[List.take_of_length_le (by rw[List.length_zip];omega)] at h5
  rw[h5] at hq
  repeat' first|refine st ?_|refine⟨λ_=>?_,λ_=>?_⟩|fail
  all_goals (rw[hq])
theorem uniF_mem:∀(l:List Int)(k r:Int),uniF k l=(r,true)->(k=0\/k=r)/\∀x∈l,x=0\/x=r
 |[],k,r,h=>by
  simp only[uniF,Prod.mk.injEq] at h
  exact⟨.inr h.1,by simp⟩
 |y::l,k,r,h=>by
  unfold uniF at h
  by_cases hy:y=0
  ·rw[if_pos hy] at h
   obtain⟨h1,h2⟩:=uniF_mem l k r h
   exact⟨h1,λx hx=>by rcases List.mem_cons.1 hx with rfl|hx;exact .inl hy;exact h2 x hx⟩
  ·rw[if_neg hy] at h
   by_cases hk:k≠0/\k≠y
   ·rw[if_pos hk] at h;simp at h
   ·rw[if_neg hk] at h
    obtain⟨h1,h2⟩:=uniF_mem l y r h
    exact⟨by omega,λx hx=>by rcases List.mem_cons.1 hx with rfl|hx;exact h1;exact h2 x hx⟩
theorem fe_zero:∀{l:List (Int×Int)},fe l=0->∀x∈l,x.2=0
 |[],_,x,hx=>by cases hx
 |y::l,h,x,hx=>by
  unfold fe at h
  by_cases hy:y.2=0
  ·rw[if_pos hy] at h
   rcases List.mem_cons.1 hx with rfl|hx
   ·exact hy
   ·exact fe_zero h x hx
  ·rw[if_neg hy] at h;exact absurd h hy
theorem vOrN_k(v:Vl):(vOrN v).k=v.k\/(vOrN v).k=0:=by
 unfold vOrN
 split
 ·exact .inl rfl
 ·exact .inr rfl
theorem vOf_k(t:Int):(vOf t).k=3\/(vOf t).k=0:=by
 unfold vOf
 split
 ·exact .inl rfl
 ·split
  ·exact .inl rfl
  ·exact .inr rfl
def Knd(l:List Vl)(ks:List Int):Prop:=l.length=ks.length/\∀i,(h:i<l.length)->(h2:i<ks.length)->l[i].k=ks[i]\/l[i].k=0
theorem Knd.all{l:List Vl}{ks:List Int}(h:Knd l ks){r:Int}(hr:∀x∈ks,x=0\/x=r):∀v∈l,v.k=r\/v.k=0:=by
 intro v hv
 obtain⟨i,hi,rfl⟩:=List.mem_iff_getElem.1 hv
 have h2:i<ks.length:=by have:=h.1;omega
 have h3:=h.2 i hi h2
 have h4:=hr ks[i] (List.getElem_mem h2)
 omega
theorem coa_k{l:List Vl}{r:Int}(h:∀v∈l,v.k=r\/v.k=0):(coa l).k=r\/(coa l).k=0:=by
 induction l with
 |nil=>exact .inr rfl
 |cons v l ih=>
  unfold coa
  split
  ·exact ih λx hx=>h x (by simp[hx])
  ·exact h v (by simp)
theorem evOp_k{op n:Int}{v:Vl}{l row:List Vl}{ks:List Int}(hop:op≠2)(hK:Knd l ks)(hc:(cnt op l.length).1=true)(h:(res op v ks).2=true):(evOp op n v l row).k=(res op v ks).1\/(evOp op n v l row).k=0:=by
 have hcnt:=cnt_case hc
 by_cases h1:op=1
 ·subst h1;exact .inl rfl
 rcases hcnt with ⟨k,e⟩|⟨k,e⟩|⟨k,e⟩|⟨k,e⟩|⟨k,e⟩|⟨k,e⟩|⟨k,e⟩
 ·omega
 ·rcases k with rfl|rfl|rfl|rfl
  ·exact vOf_k _
  ·show(vAri 18 l).k=1\/(vAri 18 l).k=0
   unfold vAri vAr vNeg
   repeat' split
   all_goals first|exact vOrN_k _|(exfalso;omega)|exact .inr rfl
  ·show(vTxt 20 l).k=1\/(vTxt 20 l).k=0
   unfold vTxt
   repeat' split
   all_goals first|exact vOrN_k _|exact .inr rfl|(exfalso;omega)
  ·exact .inl rfl
 ·by_cases h19:op=19
  ·subst h19
   show(vTxt 19 l).k=2\/(vTxt 19 l).k=0
   unfold vTxt
   repeat' split
   all_goals first|exact vOrN_k _|exact .inr rfl|(exfalso;omega)
  ·by_cases h13:13<=op
   ·have e1:evOp op n v l row=vAri op l:=by
     unfold evOp
     rw[if_neg (by omega),if_neg (by omega),if_neg (by omega),if_neg (by omega),if_neg (by omega),if_neg (by omega),if_neg (by omega),if_neg (by omega),if_neg (by omega),if_pos (by omega)]
    have e2:(res op v ks).1=1:=by
     unfold res
     rw[if_neg (by omega),if_neg (by omega),if_neg (by omega),if_neg (by omega),if_neg (by omega),if_neg (by omega),if_neg (by omega),if_neg (by omega),if_neg (by omega)]
    rw[e1,e2]
    unfold vAri vAr vNeg vBin vPr
    repeat' split
    all_goals first|exact vOrN_k _|exact .inr rfl
   ·have e1:evOp op n v l row=vOf (vCp op (l.getD 0 vNull) (l.getD 1 vNull)):=by
     unfold evOp
     rw[if_neg (by omega),if_neg (by omega),if_neg (by omega),if_neg (by omega),if_neg (by omega),if_neg (by omega),if_neg (by omega),if_neg (by omega),if_neg (by omega),if_neg (by omega)]
    have e2:(res op v ks).1=3:=by
     unfold res
     rw[if_neg (by omega),if_neg (by omega),if_pos (by omega)]
    rw[e1,e2]
    exact vOf_k _
 ·rcases k with rfl|rfl
  ·exact vOf_k _
  ·exact vOf_k _
 ·subst k
  obtain⟨a,b,c,rfl⟩:∃a b c,l=[a,b,c]:=by
   match l,e with
   |[a,b,c],_=>exact⟨a,b,c,rfl⟩
  obtain⟨x,y,z,rfl⟩:∃a b c,ks=[a,b,c]:=by
   match ks,hK.1 with
   |[a,b,c],_=>exact⟨a,b,c,rfl⟩
  have h':((uni [y,z]).2&&allK [x] 3)=true:=h
  rw[Bool.and_eq_true] at h'
  obtain⟨⟨r,t⟩,hr⟩:∃q,uni [y,z]=q:=⟨_,rfl⟩
  rw[hr] at h'
  have ht:t=true:=h'.1
  subst ht
  have hu:=(uniF_mem _ _ _ hr).2
  show(if vTruth a=2 then b else c).k=(uni [y,z]).1\/(if vTruth a=2 then b else c).k=0
  rw[hr]
  have hb:b.k=y\/b.k=0:=hK.2 1 (by simp) (by simp)
  have hc:c.k=z\/c.k=0:=hK.2 2 (by simp) (by simp)
  have hy:=hu y (by simp)
  have hz:=hu z (by simp)
  dsimp only
  split<;>omega
 ·obtain⟨rfl,_⟩:=k
  obtain⟨⟨r,t⟩,hr⟩:∃q,uni ks=q:=⟨_,rfl⟩
  have ht:t=true:=by have:(uni ks).2=true:=h;rw[hr] at this;exact this
  subst ht
  show(coa l).k=(uni ks).1\/(coa l).k=0
  rw[hr]
  exact coa_k (hK.all (uniF_mem _ _ _ hr).2)
 ·subst k
  show(vRel n (l.getD 0 vNull) (l.getD 1 vNull) (l.getD 2 vNull) (l.getD 3 vNull)).k=3\/(vRel n (l.getD 0 vNull) (l.getD 1 vNull) (l.getD 2 vNull) (l.getD 3 vNull)).k=0
  unfold vRel
  split
  ·exact .inl rfl
  ·exact .inr rfl
theorem ev_kind(row:List Vl)(ks:List Int)(hf:fits row ks=true):∀e:Ex,(chk ks e).2=0->(ev row e).k=(chk ks e).1\/(ev row e).k=0:=by
 unfold fits at hf
 rw[Bool.and_eq_true] at hf
 have hlen:=of_decide_eq_true hf.1
 have hall:=List.all_eq_true.1 hf.2
 refine Ex.ind λop n v name nl args ih h=>?_
 rw[chk_mk] at h ⊢
 rw[ev_mk]
 cases hfm:fmd op n v name args.length with
 |false=>exact .inr rfl
 |true=>
 rw[if_pos rfl]
 by_cases h2:op=2
 ·subst h2
  have hk:(cnt 2 args.length).2=true:=rfl
  unfold ckF at h ⊢
  rw[hk,if_neg (by simp),hfm,if_neg (by simp),if_pos rfl] at h ⊢
  by_cases hn:0<=n/\n<ks.length
  ·rw[if_pos hn]
   show(vCol row n).k=ks.getD n.toNat 0\/(vCol row n).k=0
   have hx:n.toNat<row.length:=by omega
   have hy:n.toNat<ks.length:=by omega
   have hz:=hall (row[n.toNat],ks[n.toNat]) (List.mem_iff_getElem.2 ⟨n.toNat,by rw[List.length_zip];omega,by rw[List.getElem_zip]⟩)
   dsimp only[fitB] at hz
   rw[Bool.and_eq_true,Bool.or_eq_true,decide_eq_true_eq,decide_eq_true_eq] at hz
   have e1:vCol row n=row[n.toNat]:=by
    unfold vCol vAt
    rw[if_neg (by omega),List.getD_eq_getElem?_getD,List.getElem?_eq_getElem hx]
    show vOrN row[n.toNat]=_
    rw[vOrN,if_pos hz.1]
   have e2:ks.getD n.toNat 0=ks[n.toNat]:=by rw[List.getD_eq_getElem?_getD,List.getElem?_eq_getElem hy];rfl
   rw[e1,e2]
   exact hz.2.symm
  ·rw[if_neg hn] at h;cases h
 rw[ckF_known hfm h2] at h ⊢
 by_cases hfe:fe (args.map (chk ks))=0
 rotate_left
 ·rw[if_neg hfe] at h;exact absurd h hfe
 rw[if_pos hfe] at h ⊢
 cases hr:(res op v ((args.map (chk ks)).map Prod.fst)).2 with
 |false=>rw[hr] at h;simp at h
 |true=>
  rw[if_pos rfl]
  refine evOp_k h2 ⟨by simp,λi hi hj=>?_⟩ (by rw[List.length_map];exact fmd_cnt hfm) hr
  rw[List.getElem_map,List.getElem_map,List.getElem_map]
  exact ih _ (List.getElem_mem _) (fe_zero hfe _ (List.mem_map.2 ⟨_,List.getElem_mem _,rfl⟩))
end Go.Proofs
end
section
namespace Go.Proofs
open Go.Bi
structure Kw where
 nl:Bool
 ks:List Int
abbrev Kw.d(k:Kw):D:=ng k.nl (eIs k.ks)
def eKw(l:List Kw):List (List D):=l.map λk=>[k.d]
theorem eKw_len(l:List Kw):(eKw l).length=l.length:=by simp[eKw]
theorem eKw_mem(l:List Kw):∀e∈eKw l,e.length=1:=by
 intro e he
 obtain⟨x,_,rfl⟩:=List.mem_map.1 he
 rfl
theorem eKw_get{l:List Kw}{i:Nat}{k:Kw}(h:l[i]?=some k):(eKw l)[i]?=some [k.d]:=by simp[eKw,h]
abbrev kw0:Kw:=⟨true,[]⟩
theorem slD_ng(l:List (List D)):slD l.isEmpty l=ng true l:=by
 cases l<;>rfl
def kdB(k:Int):Bool:=decide (k=1\/k=2\/k=3)
theorem C.r21_Kind(k:Int):Pure Tryz.prog N.bt_ref21_Kind [.d (eI k)] (.d (.bool (kdB k))):=by
 obtain⟨q,hq⟩:∃q,q=kdB k:=⟨_,rfl⟩
 rw[<- hq]
 unfold kdB at hq
 by_cases h:k=1\/k=2\/k=3
 ·rw[decide_eq_true h] at hq
  subst hq
  rcases h with rfl|rfl|rfl<;>refine F.bt_ref21_Kind.go mixed rfl ?_
  all_goals repeat' first|refine st ?_|((with_reducible apply go_i);conv=>whnf)|refine⟨λ_=>?_,λ_=>?_⟩|fail
  all_goals rfl
 ·rw[decide_eq_false h] at hq
  subst hq
  have h1:k≠1:=λe=>h (.inl e)
  have h2:k≠2:=λe=>h (.inr (.inl e))
  have h3:k≠3:=λe=>h (.inr (.inr e))
  refine F.bt_ref21_Kind.go mixed rfl ?_
  repeat' first|refine st ?_|((with_reducible apply go_i);conv=>whnf)|refine⟨λ_=>?_,λ_=>?_⟩|fail
  all_goals first|rfl|simp[h3]|(exfalso;omega)
theorem C.r21_Kinds(ks:List Int)(hks:ks.length<=4194304)(dk:D)(hdk:SlD dk (eIs ks)):Pure Tryz.prog N.bt_ref21_Kinds [.d dk] (.d (.bool (ks.all kdB))):=by
 have h1:=eIs_len ks
 have hm:=eIs_mem ks
 have hg0:=λi k=>@eIs_get ks i k
 obtain⟨q,hq⟩:∃q,q=ks.all kdB:=⟨_,rfl⟩
 rw[<- hq]
 obtain⟨es,hes⟩:∃z,z=eIs ks:=⟨_,rfl⟩
 rw[<- hes] at hdk h1 hm hg0
 clear hes
 refine F.bt_ref21_Kinds.go mixed rfl ?_
 repeat' first|refine st ?_|((with_reducible apply go_i);conv=>whnf)|refine⟨λ_=>?_,λ_=>?_⟩|fail
 refine x_loop1 mixed Lt.bt_ref21_Kinds_l0 Lk.bt_ref21_Kinds_l0 (λ(i:Nat)=>[.d (eI i)]) (λi=>[]) (λi=>i<=ks.length/\(ks.take i).all kdB=true) (λi=>ks.length-i) 0 rfl rfl rfl rfl (λ_ _=>⟨rfl,rfl⟩) rfl ⟨by omega,rfl⟩ ?_
 repeat' first|refine st ?_|((with_reducible apply go_i);conv=>whnf)|refine⟨λ_=>?_,λ_=>?_⟩|fail
 intro i ⟨h4,h5⟩
 cases hx:ks[i]? with
 |some k=>
  have hlt:=(List.getElem?_eq_some_iff.1 hx).1
  have hilt:(i:Int)<es.length:=by omega
  have hg:=hg0 i k hx
  have hg:es[((i:Nat):Int).toNat]?=some [eI k]:=hg
  have hK:=C.r21_Kind k
  have hs:=all_take_succ2 (p:=kdB) hx
  rw[h5,Bool.true_and] at hs
  cases hb:kdB k with
  |false=>
   rw[hb] at hK
   have hf:=all_none2 (p:=kdB) hx hb
   rw[hf] at hq
   subst hq
   clear hg0 hx
   repeat' first|refine st ?_|((with_reducible apply go_i);conv=>whnf)|refine⟨λ_=>?_,λ_=>?_⟩|fail
   all_goals rfl
  |true=>
   rw[hb] at hK
   clear hg0 hx hq
   repeat' first|refine st ?_|((with_reducible apply go_i);conv=>whnf)|refine⟨λ_=>?_,λ_=>?_⟩|fail
   exact⟨i+1,rfl,rfl,rfl,by omega,by omega,hs.trans hb⟩
 |none=>
  have hge:=List.getElem?_eq_none_iff.1 hx
  have hilt:(es.length:Int)<=i:=by omega
  rw[List.take_of_length_le (by omega)] at h5
  rw[h5] at hq
  subst hq
  clear hg0 hx
  repeat' first|refine st ?_|((with_reducible apply go_i);conv=>whnf)|refine⟨λ_=>?_,λ_=>?_⟩|fail
  all_goals rfl
theorem C.r21_SameKinds(a b:List Int)(ha:a.length<=4194304)(hb:b.length<=4194304)(da db:D)(hda:SlD da (eIs a))(hdb:SlD db (eIs b)):Pure Tryz.prog N.bt_ref21_SameKinds [.d da,.d db] (.d (.bool (decide (a=b)))):=by
 have l1:=eIs_len a
 have m1:=eIs_mem a
 have g1:=λi k=>@eIs_get a i k
 have l2:=eIs_len b
 have m2:=eIs_mem b
 have g2:=λi k=>@eIs_get b i k
 obtain⟨q,hq⟩:∃q,q=decide (a=b):=⟨_,rfl⟩
 rw[<- hq]
 obtain⟨es,hes⟩:∃z,z=eIs a:=⟨_,rfl⟩
 rw[<- hes] at hda l1 m1 g1
 obtain⟨fs,hfs⟩:∃z,z=eIs b:=⟨_,rfl⟩
 rw[<- hfs] at hdb l2 m2 g2
 clear hes hfs
 by_cases hl:a.length=b.length
 rotate_left
 ·have h0:¬(es.length:Int)=fs.length:=by omega
  rw[decide_eq_false λh=>hl (by rw[h])] at hq
  subst hq
  clear g1 g2
  refine F.bt_ref21_SameKinds.go mixed rfl ?_
  repeat' first|refine st ?_|((with_reducible apply go_i);conv=>whnf)|refine⟨λ_=>?_,λ_=>?_⟩|fail
  all_goals first|rfl|(exfalso;omega)
 have h0:(es.length:Int)=fs.length:=by omega
 refine F.bt_ref21_SameKinds.go mixed rfl ?_
 repeat' first|refine st ?_|((with_reducible apply go_i);conv=>whnf)|refine⟨λ_=>?_,λ_=>?_⟩|fail
 refine x_loop1 mixed Lt.bt_ref21_SameKinds_l0 Lk.bt_ref21_SameKinds_l0 (λ(i:Nat)=>[.d (eI i)]) (λi=>[]) (λi=>i<=a.length/\a.take i=b.take i) (λi=>a.length-i) 0 rfl rfl rfl rfl (λ_ _=>⟨rfl,rfl⟩) rfl ⟨by omega,rfl⟩ ?_
 repeat' first|refine st ?_|((with_reducible apply go_i);conv=>whnf)|refine⟨λ_=>?_,λ_=>?_⟩|fail
 intro i ⟨h4,h5⟩
 cases hx:a[i]? with
 |some k=>
  have hlt:=(List.getElem?_eq_some_iff.1 hx).1
  obtain⟨k2,hx2⟩:∃k,b[i]?=some k:=⟨_,List.getElem?_eq_getElem (by omega)⟩
  have hilt:(i:Int)<es.length:=by omega
  have hilt2:(i:Int)<fs.length:=by omega
  have hg:es[((i:Nat):Int).toNat]?=some [eI k]:=g1 i k hx
  have hg2:fs[((i:Nat):Int).toNat]?=some [eI k2]:=g2 i k2 hx2
  by_cases hk:k=k2
  ·have ht:a.take (i+1)=b.take (i+1):=by rw[List.take_add_one,List.take_add_one,hx,hx2,h5,hk]
   subst hk
   clear g1 g2 hx hx2 hq
   repeat' first|refine st ?_|((with_reducible apply go_i);conv=>whnf)|refine⟨λ_=>?_,λ_=>?_⟩|fail
   exact⟨i+1,rfl,rfl,rfl,by omega,by omega,ht⟩
  ·rw[decide_eq_false λh=>hk (by rw[h,hx2] at hx;cases hx;rfl)] at hq
   subst hq
   clear g1 g2 hx hx2
   repeat' first|refine st ?_|((with_reducible apply go_i);conv=>whnf)|refine⟨λ_=>?_,λ_=>?_⟩|fail
   all_goals first|rfl|(exfalso;omega)
 |none=>
  have hge:=List.getElem?_eq_none_iff.1 hx
  have hilt:(es.length:Int)<=i:=by omega
  rw[List.take_of_length_le hge,List.take_of_length_le (by omega)] at h5
  rw[decide_eq_true h5] at hq
  subst hq
  clear g1 g2 hx
  repeat' first|refine st ?_|((with_reducible apply go_i);conv=>whnf)|refine⟨λ_=>?_,λ_=>?_⟩|fail
  all_goals rfl
def inN(op:Int):Int:=if op=1\/op=2 then 0 else if op=3\/op=4\/op=10\/op=11 then 1 else if op=5\/op=6\/op=7\/op=8\/op=9 then 2 else -1
theorem inN_case(op:Int):(op=1/\inN op=0)\/(op=2/\inN op=0)\/(op=3/\inN op=1)\/(op=4/\inN op=1)\/(op=10/\inN op=1)\/(op=11/\inN op=1)\/(op=5/\inN op=2)\/(op=6/\inN op=2)\/(op=7/\inN op=2)\/(op=8/\inN op=2)\/(op=9/\inN op=2)\/
  ((op≠1/\op≠2/\op≠3/\op≠4/\op≠5/\op≠6/\op≠7/\op≠8/\op≠9/\op≠10/\op≠11)/\inN op=-1):=by
 by_cases h1:op=1
 ·subst h1;simp[inN]
 by_cases h2:op=2
 ·subst h2;simp[inN]
 by_cases h3:op=3
 ·subst h3;simp[inN]
 by_cases h4:op=4
 ·subst h4;simp[inN]
 by_cases h10:op=10
 ·subst h10;simp[inN]
 by_cases h11:op=11
 ·subst h11;simp[inN]
 by_cases h5:op=5
 ·subst h5;simp[inN]
 by_cases h6:op=6
 ·subst h6;simp[inN]
 by_cases h7:op=7
 ·subst h7;simp[inN]
 by_cases h8:op=8
 ·subst h8;simp[inN]
 by_cases h9:op=9
 ·subst h9;simp[inN]
 refine .inr (.inr (.inr (.inr (.inr (.inr (.inr (.inr (.inr (.inr (.inr ⟨⟨h1,h2,h3,h4,h5,h6,h7,h8,h9,h10,h11⟩,?_⟩))))))))))
 simp[inN,h1,h2,h3,h4,h5,h6,h7,h8,h9,h10,h11]
theorem C.r21_inputs(op:Int):Pure Tryz.prog N.bt_ref21_inputs [.d (eI op)] (.d (eI (inN op))):=by
 obtain⟨q,hq⟩:∃q,q=inN op:=⟨_,rfl⟩
 have h:=inN_case op
 rw[<- hq] at h ⊢
 clear hq
 rcases h with ⟨rfl,rfl⟩|⟨rfl,rfl⟩|⟨rfl,rfl⟩|⟨rfl,rfl⟩|⟨rfl,rfl⟩|⟨rfl,rfl⟩|⟨rfl,rfl⟩|⟨rfl,rfl⟩|⟨rfl,rfl⟩|⟨rfl,rfl⟩|⟨rfl,rfl⟩|⟨⟨o1,o2,o3,o4,o5,o6,o7,o8,o9,o10,o11⟩,rfl⟩
 all_goals refine F.bt_ref21_inputs.go mixed rfl ?_
 all_goals repeat' first|refine st ?_|((with_reducible apply go_i);conv=>whnf)|refine⟨λ_=>?_,λ_=>?_⟩|fail
 all_goals first|rfl|(exfalso;omega)
def scF(K:List Kw)(n:Int):Kw×Int:=if n<0\/K.length<=n then (kw0,6) else if ((K.getD n.toNat kw0).ks).all kdB then (K.getD n.toNat kw0,0) else (kw0,7)
theorem C.r21_scan(K:List Kw)(hK:K.length<=4194304)(hKb:∀k∈K,k.ks.length<=4194304)(din:D)(hin:SlD din (eKw K))(op n:Int)(dk dr:D)(xo xn:Int)(xv:Vl)(xm:List UInt8)(xd dx dy da di:D) :
  Pure Tryz.prog N.bt_ref21_scan [ePl op n dk dr xo xn xv xm xd dx dy da di,.d din] (.tup [.d (scF K n).1.d,.d (eI (scF K n).2)]):=by
 have l1:=eKw_len K
 have m1:=eKw_mem K
 have g1:=λi k=>@eKw_get K i k
 obtain⟨es,hes⟩:∃z,z=eKw K:=⟨_,rfl⟩
 rw[<- hes] at hin l1 m1 g1
 clear hes
 obtain⟨q,hq⟩:∃q,q=scF K n:=⟨_,rfl⟩
 rw[<- hq]
 unfold scF at hq
 by_cases h1:n<0
 ·rw[if_pos (.inl h1)] at hq
  subst hq
  clear g1 hKb
  refine F.bt_ref21_scan.go mixed rfl ?_
  repeat' first|refine st ?_|((with_reducible apply go_i);conv=>whnf)|refine⟨λ_=>?_,λ_=>?_⟩|fail
  all_goals first|rfl|(exfalso;omega)
 by_cases h2:(K.length:Int)<=n
 ·rw[if_pos (.inr h2)] at hq
  subst hq
  clear g1 hKb
  refine F.bt_ref21_scan.go mixed rfl ?_
  repeat' first|refine st ?_|((with_reducible apply go_i);conv=>whnf)|refine⟨λ_=>?_,λ_=>?_⟩|fail
  all_goals first|rfl|(exfalso;omega)
 rw[if_neg (by omega)] at hq
 obtain⟨k,hk⟩:∃k,K[n.toNat]?=some k:=⟨_,List.getElem?_eq_getElem (by omega)⟩
 have hg:=g1 _ k hk
 have hkd:K.getD n.toNat kw0=k:=by rw[List.getD_eq_getElem?_getD,hk];rfl
 rw[hkd] at hq
 have hC:=C.r21_Kinds k.ks (hKb k (List.mem_of_getElem? hk)) k.d sld_ng
 have h3:n<es.length:=by omega
 obtain⟨d,hd⟩:∃d,d=k.d:=⟨_,rfl⟩
 rw[<- hd] at hg hC
 cases hb:k.ks.all kdB with
 |false=>
  rw[hb] at hC hq
  rw[if_neg (by simp)] at hq
  subst hq
  clear g1 hKb hkd hk hd
  refine F.bt_ref21_scan.go mixed rfl ?_
  repeat' first|refine st ?_|((with_reducible apply go_i);conv=>whnf)|refine⟨λ_=>?_,λ_=>?_⟩|fail
  all_goals rfl
 |true=>
  rw[hb] at hC hq
  rw[if_pos rfl] at hq
  subst hq
  show Bi.Pure Tryz.prog N.bt_ref21_scan [ePl op n dk dr xo xn xv xm xd dx dy da di,.d din] (.tup [.d k.d,.d (eI 0)])
  rw[<- hd]
  clear g1 hKb hkd hk hd
  refine F.bt_ref21_scan.go mixed rfl ?_
  repeat' first|refine st ?_|((with_reducible apply go_i);conv=>whnf)|refine⟨λ_=>?_,λ_=>?_⟩|fail
  all_goals rfl
def vaF(nk:Bool)(ki:List Int)(rows:List Rw):Kw×Int:=if 4096<rows.length then (kw0,5) else if ki.all kdB then (if rows.all (λr=>fits r.vs ki) then (⟨nk,ki⟩,0) else (kw0,8)) else (kw0,7)
theorem C.r21_values(nk:Bool)(ki:List Int)(hki:ki.length<=1048576)(dk:D)(hdk:dk=ng nk (eIs ki))(rows:List Rw)(hrl:rows.length<=1048576)(hrb:∀r∈rows,r.vs.length<=1048576/\∀v∈r.vs,v.s.length<=1048576)(dr:D)(hdr:SlD dr (eRs rows))(op n xo xn:Int)(xv:Vl)(xm:List UInt8)(xd dx dy da di:D) :
  Pure Tryz.prog N.bt_ref21_values [ePl op n dk dr xo xn xv xm xd dx dy da di] (.tup [.d (vaF nk ki rows).1.d,.d (eI (vaF nk ki rows).2)]):=by
 have l1:=eRs_len rows
 have m1:=eRs_mem rows
 have g1:=λi r=>@eRs_get rows i r
 obtain⟨es,hes⟩:∃z,z=eRs rows:=⟨_,rfl⟩
 rw[<- hes] at hdr l1 m1 g1
 clear hes
 have hsd:SlD dk (eIs ki):=by rw[hdk];exact sld_ng
 obtain⟨q,hq⟩:∃q,q=vaF nk ki rows:=⟨_,rfl⟩
 rw[<- hq]
 unfold vaF at hq
 by_cases h1:4096<rows.length
 ·rw[if_pos h1] at hq
  subst hq
  clear g1 hrb hdk hsd
  refine F.bt_ref21_values.go mixed rfl ?_
  repeat' first|refine st ?_|((with_reducible apply go_i);conv=>whnf)|refine⟨λ_=>?_,λ_=>?_⟩|fail
  all_goals first|rfl|(exfalso;omega)
 rw[if_neg h1] at hq
 have hC:=C.r21_Kinds ki (by omega) dk hsd
 cases hb:ki.all kdB with
 |false=>
  rw[hb] at hC hq
  rw[if_neg (by simp)] at hq
  subst hq
  clear g1 hrb hdk hsd
  refine F.bt_ref21_values.go mixed rfl ?_
  repeat' first|refine st ?_|((with_reducible apply go_i);conv=>whnf)|refine⟨λ_=>?_,λ_=>?_⟩|fail
  all_goals rfl
 |true=>
  rw[hb] at hC hq
  rw[if_pos rfl] at hq
  have hF:=λ(r:Rw) (h:r∈rows)=>C.r8_Fits r.vs ki (hrb r h).1 hki (hrb r h).2 r.d sld_ng dk hsd
  obtain⟨b,hbb⟩:∃b,b=rows.all (λr=>fits r.vs ki):=⟨_,rfl⟩
  rw[<- hbb] at hq
  refine F.bt_ref21_values.go mixed rfl ?_
  repeat' first|refine st ?_|((with_reducible apply go_i);conv=>whnf)|refine⟨λ_=>?_,λ_=>?_⟩|fail
  refine x_loop1 mixed Lt.bt_ref21_values_l0 Lk.bt_ref21_values_l0 (λ(i:Nat)=>[.d (eI i)]) (λi=>[.cells [.d (eI op),.d (eI n),.d dk,.d dr,.d (eI xo),.d (eI xn),.d (eI xv.k),.d (eI xv.n),.d (.str xv.s),.d (.str xm),.d xd,.d dx,.d dy,.d da,.d di]]) (λi=>i<=rows.length/\(rows.take i).all (λr=>fits r.vs ki)=true) (λi=>rows.length-i) 0 rfl rfl rfl rfl (λ_ _=>⟨rfl,rfl⟩) rfl ⟨by omega,rfl⟩ ?_
  repeat' first|refine st ?_|((with_reducible apply go_i);conv=>whnf)|refine⟨λ_=>?_,λ_=>?_⟩|fail
  intro i ⟨h4,h5⟩
  cases hx:rows[i]? with
  |some r=>
   have hlt:=(List.getElem?_eq_some_iff.1 hx).1
   have hilt:(i:Int)<es.length:=by omega
   have hg:es[((i:Nat):Int).toNat]?=some [r.d]:=g1 i r hx
   have hV:=hF r (List.mem_of_getElem? hx)
   have hs:=all_take_succ2 (p:=λr:Rw=>fits r.vs ki) hx
   rw[h5,Bool.true_and] at hs
   obtain⟨rd,hrd⟩:∃d,d=r.d:=⟨_,rfl⟩
   rw[<- hrd] at hg hV
   cases hv:fits r.vs ki with
   |false=>
    rw[hv] at hV
    have hf:=all_none2 (p:=λr:Rw=>fits r.vs ki) hx hv
    rw[hf] at hbb
    subst hbb
    rw[if_neg (by simp)] at hq
    subst hq
    clear g1 hrb hF hx hrd hs
    repeat' first|refine st ?_|((with_reducible apply go_i);conv=>whnf)|refine⟨λ_=>?_,λ_=>?_⟩|fail
    all_goals rfl
   |true=>
    rw[hv] at hV
    have hs:=hs.trans hv
    clear g1 hrb hF hx hrd hbb hq
    repeat' first|refine st ?_|((with_reducible apply go_i);conv=>whnf)|refine⟨λ_=>?_,λ_=>?_⟩|fail
    exact⟨i+1,rfl,rfl,rfl,by omega,by omega,hs⟩
  |none=>
   have hge:=List.getElem?_eq_none_iff.1 hx
   have hilt:(es.length:Int)<=i:=by omega
   rw[List.take_of_length_le hge] at h5
   rw[h5] at hbb
   subst hbb
   rw[if_pos rfl] at hq
   subst hq
   rw[show(Kw.d (⟨nk,ki⟩,(0:Int)).1)=dk from hdk.symm]
   clear g1 hrb hF hx hdk
   repeat' first|refine st ?_|((with_reducible apply go_i);conv=>whnf)|refine⟨λ_=>?_,λ_=>?_⟩|fail
   all_goals rfl
def prE(ks:List Int)(e:Ex):Int:=if (ckT ks e).2=0 then (if (ckT ks e).1=3\/(ckT ks e).1=0 then 0 else 7) else (ckT ks e).2
theorem C.r21_Predicate(ks:List Int)(hks:ks.length<=1048576)(dk:D)(hdk:SlD dk (eIs ks))(e:Ex)(he:e.bk<=1048576):Pure Tryz.prog N.bt_ref21_Predicate [e.av,.d dk] (.d (eI (prE ks e))):=by
 have hC:Bi.Pure Tryz.prog N.bt_ref11_Check [e.av,.d dk] (.tup [.d (eI (ckT ks e).1),.d (eI (ckT ks e).2)]):=C.r11_Check ks hks dk hdk e he
 obtain⟨q,hq⟩:∃q,q=prE ks e:=⟨_,rfl⟩
 rw[<- hq]
 unfold prE at hq
 obtain⟨⟨k,er⟩,hk⟩:∃z,z=ckT ks e:=⟨_,rfl⟩
 rw[<- hk] at hC hq
 dsimp only at hC hq
 clear hk
 obtain⟨xo,xn,xv,xm,xl,xa⟩:=e
 rw[Ex.av_mk] at hC ⊢
 obtain⟨xd,hxd⟩:∃d,d=ng xl (xL xa):=⟨_,rfl⟩
 rw[<- hxd] at hC ⊢
 clear hxd he
 by_cases h1:er=0
 ·rw[if_pos h1] at hq
  subst h1
  by_cases h2:k=3\/k=0
  ·rw[if_pos h2] at hq
   subst hq
   rcases h2 with rfl|rfl<;>refine F.bt_ref21_Predicate.go mixed rfl ?_
   all_goals repeat' first|refine st ?_|((with_reducible apply go_i);conv=>whnf)|refine⟨λ_=>?_,λ_=>?_⟩|fail
   all_goals rfl
  ·rw[if_neg h2] at hq
   subst hq
   have h3:k≠3:=λh=>h2 (.inl h)
   have h4:k≠0:=λh=>h2 (.inr h)
   refine F.bt_ref21_Predicate.go mixed rfl ?_
   repeat' first|refine st ?_|((with_reducible apply go_i);conv=>whnf)|refine⟨λ_=>?_,λ_=>?_⟩|fail
   all_goals first|rfl|(exfalso;omega)
 ·rw[if_neg h1] at hq
  subst hq
  refine F.bt_ref21_Predicate.go mixed rfl ?_
  repeat' first|refine st ?_|((with_reducible apply go_i);conv=>whnf)|refine⟨λ_=>?_,λ_=>?_⟩|fail
  all_goals first|rfl|(exfalso;omega)
end Go.Proofs
end
section
namespace Go.Proofs
open Go.Bi
def resF(K:List Kw)(o:Po)(k:List Kw):Kw×Int:=
 if o.op=1 then scF K o.n
 else if o.op=2 then vaF o.nk o.ki o.rows
 else if o.op=4 then (⟨true,(prjF (k.getD 0 kw0).ks o.xs).1⟩,(prjF (k.getD 0 kw0).ks o.xs).2)
 else if o.op=11 then (⟨true,(grpF (k.getD 0 kw0).ks o.keys o.aggs).1⟩,(grpF (k.getD 0 kw0).ks o.keys o.aggs).2)
 else if o.op=10 then (k.getD 0 kw0,0)
 else if o.op=3 then (k.getD 0 kw0,prE (k.getD 0 kw0).ks o.pred)
 else if o.op=5\/o.op=6 then (⟨true,(k.getD 0 kw0).ks++(k.getD 1 kw0).ks⟩,prE ((k.getD 0 kw0).ks++(k.getD 1 kw0).ks) o.pred)
 else if (k.getD 0 kw0).ks.length=(k.getD 1 kw0).ks.length then (if (k.getD 0 kw0).ks=(k.getD 1 kw0).ks then (k.getD 0 kw0,0) else (kw0,7)) else (kw0,13)
theorem C.r21_result(K:List Kw)(hK:K.length<=4194304)(hKb:∀k∈K,k.ks.length<=4194304)(din:D)(hin:SlD din (eKw K))(o:Po)(ni:Bool)(ins:List Pl)(hb:(Pl.mk o ni ins).bk<=1048576)(k:List Kw)(hk:(k.length:Int)=inN o.op)(hkb:∀x∈k,x.ks.length<=48)(dkk:D)(hdk:SlD dkk (eKw k)) :
  Pure Tryz.prog N.bt_ref21_result [(Pl.mk o ni ins).av,.d din,.d dkk] (.tup [.d (resF K o k).1.d,.d (eI (resF K o k).2)]):=by
 have hB:=Pl.bd hb
 obtain⟨xo,xn,xv,xm,xd,hav,hpa⟩:=Pl.cuto o ni ins
 rw[hav]
 clear hav hb
 obtain⟨op,n,nk,ki,nr,rows,pred,nx,xs,ny,keys,na,aggs⟩:=o
 have hki:=hB.ki
 have hrl:=hB.nr
 have hrb:=hB.row
 have hpb:=hB.pred
 have hxl:=hB.xs
 have hxb:=hB.xb
 have hyl:=hB.keys
 have hal:=hB.aggs
 clear hB
 dsimp only at hki hrl hrb hpb hxl hxb hyl hal hpa hk
 have hsc:=λdk dr dx dy da di=>C.r21_scan K hK hKb din hin op n dk dr xo xn xv xm xd dx dy da di
 have hva:=λdx dy da di=>C.r21_values nk ki hki _ rfl rows hrl hrb (ng nr (eRs rows)) sld_ng op n xo xn xv xm xd dx dy da di
 have hpj:=λ(ks:List Int) (h:ks.length<=1048576) dk hdk=>C.r21_Projected ks h dk hdk xs hxl hxb (ng nx (xL xs)) sld_ng
 have hgr:=λ(ks:List Int) (h:ks.length<=1048576) dk hdk=>C.r21_Grouped ks h dk hdk keys hyl (ng ny (eIs keys)) sld_ng aggs hal (ng na (eAs aggs)) sld_ng
 have hpr:=λ(ks:List Int) (h:ks.length<=1048576) dk hdk=>C.r21_Predicate ks h dk hdk pred hpb
 rw[hpa] at hpr
 show Bi.Pure Tryz.prog N.bt_ref21_result [ePl op n (ng nk (eIs ki)) (ng nr (eRs rows)) xo xn xv xm xd (ng nx (xL xs)) (ng ny (eIs keys)) (ng na (eAs aggs)) (ng ni (pL ins)),.d din,.d dkk] _
 obtain⟨q,hq⟩:∃q,q=resF K ⟨op,n,nk,ki,nr,rows,pred,nx,xs,ny,keys,na,aggs⟩ k:=⟨_,rfl⟩
 rw[<- hq]
 unfold resF at hq
 dsimp only at hq
 obtain⟨dk,e1⟩:∃d,d=ng nk (eIs ki):=⟨_,rfl⟩
 obtain⟨dr,e2⟩:∃d,d=ng nr (eRs rows):=⟨_,rfl⟩
 obtain⟨dx,e3⟩:∃d,d=ng nx (xL xs):=⟨_,rfl⟩
 obtain⟨dy,e4⟩:∃d,d=ng ny (eIs keys):=⟨_,rfl⟩
 obtain⟨da,e5⟩:∃d,d=ng na (eAs aggs):=⟨_,rfl⟩
 obtain⟨di,e6⟩:∃d,d=ng ni (pL ins):=⟨_,rfl⟩
 rw[<- e1,<- e2] at hva
 rw[<- e3] at hpj
 rw[<- e4,<- e5] at hgr
 rw[<- e1,<- e2,<- e3,<- e4,<- e5,<- e6]
 have hsc:=hsc dk dr dx dy da di
 have hva:=hva dx dy da di
 clear e1 e2 e3 e4 e5 e6 hrl hrb hpb hxl hxb hyl hal hki hpa hKb
 have l1:=eKw_len k
 have m1:=eKw_mem k
 have hops:=inN_case op
 have hg0:0<k.length->∃a,k.getD 0 kw0=a/\a.ks.length<=48/\(eKw k)[(0:Int).toNat]?=some [a.d]:=λh=>by
  obtain⟨a,ha⟩:∃a,k[0]?=some a:=⟨_,List.getElem?_eq_getElem h⟩
  exact⟨a,by rw[List.getD_eq_getElem?_getD,ha];rfl,hkb a (List.mem_of_getElem? ha),eKw_get ha⟩
 have hg1:1<k.length->∃a,k.getD 1 kw0=a/\a.ks.length<=48/\(eKw k)[(1:Int).toNat]?=some [a.d]:=λh=>by
  obtain⟨a,ha⟩:∃a,k[1]?=some a:=⟨_,List.getElem?_eq_getElem h⟩
  exact⟨a,by rw[List.getD_eq_getElem?_getD,ha];rfl,hkb a (List.mem_of_getElem? ha),eKw_get ha⟩
 obtain⟨es,hes⟩:∃z,z=eKw k:=⟨_,rfl⟩
 rw[<- hes] at hdk l1 m1 hg0 hg1
 clear hes hkb
 rcases hops with ⟨rfl,hn⟩|⟨rfl,hn⟩|⟨rfl,hn⟩|⟨rfl,hn⟩|⟨rfl,hn⟩|⟨rfl,hn⟩|⟨rfl,hn⟩|⟨rfl,hn⟩|⟨rfl,hn⟩|⟨rfl,hn⟩|⟨rfl,hn⟩|⟨⟨o1,o2,o3,o4,o5,o6,o7,o8,o9,o10,o11⟩,hn⟩
 all_goals rw[hn] at hk
 ·have hq:q=scF K n:=hq
  rw[<- hq] at hsc
  clear hq hva hpj hgr hpr hg0 hg1
  obtain⟨⟨qn,qk⟩,qe⟩:=q
  obtain⟨qd,hqd⟩:∃d,d=ng qn (eIs qk):=⟨_,rfl⟩
  have hsc:Bi.Pure Tryz.prog N.bt_ref21_scan [ePl 1 n dk dr xo xn xv xm xd dx dy da di,.d din] (.tup [.d qd,.d (eI qe)]):=by rw[hqd];exact hsc
  show Bi.Pure Tryz.prog N.bt_ref21_result [ePl 1 n dk dr xo xn xv xm xd dx dy da di,.d din,.d dkk] (.tup [.d (ng qn (eIs qk)),.d (eI qe)])
  rw[<- hqd]
  refine F.bt_ref21_result.go mixed rfl ?_
  repeat' first|refine st ?_|((with_reducible apply go_i);conv=>whnf)|refine⟨λ_=>?_,λ_=>?_⟩|fail
  all_goals rfl
 ·have hq:q=vaF nk ki rows:=hq
  rw[<- hq] at hva
  clear hq hsc hpj hgr hpr hg0 hg1
  obtain⟨⟨qn,qk⟩,qe⟩:=q
  obtain⟨qd,hqd⟩:∃d,d=ng qn (eIs qk):=⟨_,rfl⟩
  have hva:Bi.Pure Tryz.prog N.bt_ref21_values [ePl 2 n dk dr xo xn xv xm xd dx dy da di] (.tup [.d qd,.d (eI qe)]):=by rw[hqd];exact hva
  show Bi.Pure Tryz.prog N.bt_ref21_result [ePl 2 n dk dr xo xn xv xm xd dx dy da di,.d din,.d dkk] (.tup [.d (ng qn (eIs qk)),.d (eI qe)])
  rw[<- hqd]
  refine F.bt_ref21_result.go mixed rfl ?_
  repeat' first|refine st ?_|((with_reducible apply go_i);conv=>whnf)|refine⟨λ_=>?_,λ_=>?_⟩|fail
  all_goals rfl
 ·obtain⟨a,ha,hal,hg⟩:=hg0 (by omega)
  rw[ha] at hq
  have hq:q=(a,prE a.ks pred):=hq
  have hP:=hpr a.ks (by omega) a.d sld_ng
  have h0:(0:Int)<es.length:=by omega
  obtain⟨ad,had⟩:∃d,d=a.d:=⟨_,rfl⟩
  rw[<- had] at hP hg
  subst hq
  show Bi.Pure Tryz.prog N.bt_ref21_result [ePl 3 n dk dr xo xn xv xm xd dx dy da di,.d din,.d dkk] (.tup [.d a.d,.d (eI (prE a.ks pred))])
  rw[<- had]
  obtain⟨pe,hpe⟩:∃d,d=prE a.ks pred:=⟨_,rfl⟩
  rw[<- hpe] at hP ⊢
  clear hsc hva hpj hgr hpr hg0 hg1 had hpe ha
  refine F.bt_ref21_result.go mixed rfl ?_
  repeat' first|refine st ?_|((with_reducible apply go_i);conv=>whnf)|refine⟨λ_=>?_,λ_=>?_⟩|fail
  all_goals rfl
 ·obtain⟨a,ha,hal,hg⟩:=hg0 (by omega)
  rw[ha] at hq
  have hq:q=(⟨true,(prjF a.ks xs).1⟩,(prjF a.ks xs).2):=hq
  have hP:=hpj a.ks (by omega) a.d sld_ng
  have h0:(0:Int)<es.length:=by omega
  obtain⟨ad,had⟩:∃d,d=a.d:=⟨_,rfl⟩
  rw[<- had,slD_ng] at hP
  rw[<- had] at hg
  subst hq
  show Bi.Pure Tryz.prog N.bt_ref21_result [ePl 4 n dk dr xo xn xv xm xd dx dy da di,.d din,.d dkk] (.tup [.d (ng true (eIs (prjF a.ks xs).1)),.d (eI (prjF a.ks xs).2)])
  obtain⟨qd,hqd⟩:∃d,d=ng true (eIs (prjF a.ks xs).1):=⟨_,rfl⟩
  obtain⟨qe,hqe⟩:∃d,d=(prjF a.ks xs).2:=⟨_,rfl⟩
  rw[<- hqd,<- hqe] at hP ⊢
  clear hsc hva hpj hgr hpr hg0 hg1 had hqd hqe ha
  refine F.bt_ref21_result.go mixed rfl ?_
  repeat' first|refine st ?_|((with_reducible apply go_i);conv=>whnf)|refine⟨λ_=>?_,λ_=>?_⟩|fail
  all_goals rfl
 ·obtain⟨a,ha,hal,hg⟩:=hg0 (by omega)
  rw[ha] at hq
  have hq:q=(a,0):=hq
  have h0:(0:Int)<es.length:=by omega
  obtain⟨ad,had⟩:∃d,d=a.d:=⟨_,rfl⟩
  rw[<- had] at hg
  subst hq
  show Bi.Pure Tryz.prog N.bt_ref21_result [ePl 10 n dk dr xo xn xv xm xd dx dy da di,.d din,.d dkk] (.tup [.d a.d,.d (eI 0)])
  rw[<- had]
  clear hsc hva hpj hgr hpr hg0 hg1 had ha
  refine F.bt_ref21_result.go mixed rfl ?_
  repeat' first|refine st ?_|((with_reducible apply go_i);conv=>whnf)|refine⟨λ_=>?_,λ_=>?_⟩|fail
  all_goals rfl
 ·obtain⟨a,ha,hal,hg⟩:=hg0 (by omega)
  rw[ha] at hq
  have hq:q=(⟨true,(grpF a.ks keys aggs).1⟩,(grpF a.ks keys aggs).2):=hq
  have hP:=hgr a.ks (by omega) a.d sld_ng
  have h0:(0:Int)<es.length:=by omega
  obtain⟨ad,had⟩:∃d,d=a.d:=⟨_,rfl⟩
  rw[<- had,slD_ng] at hP
  rw[<- had] at hg
  subst hq
  show Bi.Pure Tryz.prog N.bt_ref21_result [ePl 11 n dk dr xo xn xv xm xd dx dy da di,.d din,.d dkk] (.tup [.d (ng true (eIs (grpF a.ks keys aggs).1)),.d (eI (grpF a.ks keys aggs).2)])
  obtain⟨qd,hqd⟩:∃d,d=ng true (eIs (grpF a.ks keys aggs).1):=⟨_,rfl⟩
  obtain⟨qe,hqe⟩:∃d,d=(grpF a.ks keys aggs).2:=⟨_,rfl⟩
  rw[<- hqd,<- hqe] at hP ⊢
  clear hsc hva hpj hgr hpr hg0 hg1 had hqd hqe ha
  refine F.bt_ref21_result.go mixed rfl ?_
  repeat' first|refine st ?_|((with_reducible apply go_i);conv=>whnf)|refine⟨λ_=>?_,λ_=>?_⟩|fail
  all_goals rfl
 iterate 2
  ·obtain⟨a,ha,hal,hg⟩:=hg0 (by omega)
   obtain⟨b,hb,hbl,hgb⟩:=hg1 (by omega)
   rw[ha,hb] at hq
   have hq:q=(⟨true,a.ks++b.ks⟩,prE (a.ks++b.ks) pred):=hq
   have hJ:=C.r21_joined a.ks b.ks (by omega) a.d b.d sld_ng sld_ng
   have hP:=hpr (a.ks++b.ks) (by rw[List.length_append];omega) (ng true (eIs (a.ks++b.ks))) sld_ng
   have h0:(0:Int)<es.length:=by omega
   have h1:(1:Int)<es.length:=by omega
   obtain⟨ad,had⟩:∃d,d=a.d:=⟨_,rfl⟩
   obtain⟨bd,hbd⟩:∃d,d=b.d:=⟨_,rfl⟩
   rw[<- had,<- hbd,slD_ng] at hJ
   rw[<- had] at hg
   rw[<- hbd] at hgb
   subst hq
   obtain⟨qd,hqd⟩:∃d,d=ng true (eIs (a.ks++b.ks)):=⟨_,rfl⟩
   rw[<- hqd] at hJ hP
   obtain⟨pe,hpe⟩:∃d,d=prE (a.ks++b.ks) pred:=⟨_,rfl⟩
   rw[<- hpe] at hP
   show Bi.Pure Tryz.prog N.bt_ref21_result [ePl _ n dk dr xo xn xv xm xd dx dy da di,.d din,.d dkk] (.tup [.d (ng true (eIs (a.ks++b.ks))),.d (eI (prE (a.ks++b.ks) pred))])
   rw[<- hqd,<- hpe]
   clear hsc hva hpj hgr hpr hg0 hg1 had hbd hqd hpe ha hb
   refine F.bt_ref21_result.go mixed rfl ?_
   repeat' first|refine st ?_|((with_reducible apply go_i);conv=>whnf)|refine⟨λ_=>?_,λ_=>?_⟩|fail
   all_goals rfl
 iterate 3
  ·obtain⟨a,ha,hal,hg⟩:=hg0 (by omega)
   obtain⟨b,hb,hbl,hgb⟩:=hg1 (by omega)
   rw[ha,hb] at hq
   have hq:q=if a.ks.length=b.ks.length then (if a.ks=b.ks then (a,0) else (kw0,7)) else (kw0,13):=hq
   have hS:=C.r21_SameKinds a.ks b.ks (by omega) (by omega) a.d b.d sld_ng sld_ng
   have h0:(0:Int)<es.length:=by omega
   have h1:(1:Int)<es.length:=by omega
   have hsa:SlD a.d (eIs a.ks):=sld_ng
   have hsb:SlD b.d (eIs b.ks):=sld_ng
   have ka:=eIs_len a.ks
   have kb:=eIs_len b.ks
   obtain⟨ad,had⟩:∃d,d=a.d:=⟨_,rfl⟩
   obtain⟨bd,hbd⟩:∃d,d=b.d:=⟨_,rfl⟩
   rw[<- had,<- hbd] at hS
   rw[<- had] at hg hsa
   rw[<- hbd] at hgb hsb
   clear hsc hva hpj hgr hpr hg0 hg1 hbd ha hb
   by_cases hl:a.ks.length=b.ks.length
   ·rw[if_pos hl] at hq
    by_cases he:a.ks=b.ks
    ·rw[if_pos he] at hq
     rw[decide_eq_true he] at hS
     subst hq
     show Bi.Pure Tryz.prog N.bt_ref21_result [ePl _ n dk dr xo xn xv xm xd dx dy da di,.d din,.d dkk] (.tup [.d a.d,.d (eI 0)])
     rw[<- had]
     clear had he
     obtain⟨ea,hea⟩:∃z,z=eIs a.ks:=⟨_,rfl⟩
     obtain⟨eb,heb⟩:∃z,z=eIs b.ks:=⟨_,rfl⟩
     rw[<- hea] at hsa ka
     rw[<- heb] at hsb kb
     have hll:(ea.length:Int)=eb.length:=by omega
     clear hea heb
     refine F.bt_ref21_result.go mixed rfl ?_
     repeat' first|refine st ?_|((with_reducible apply go_i);conv=>whnf)|refine⟨λ_=>?_,λ_=>?_⟩|fail
     all_goals rfl
    ·rw[if_neg he] at hq
     rw[decide_eq_false he] at hS
     subst hq
     clear had he
     obtain⟨ea,hea⟩:∃z,z=eIs a.ks:=⟨_,rfl⟩
     obtain⟨eb,heb⟩:∃z,z=eIs b.ks:=⟨_,rfl⟩
     rw[<- hea] at hsa ka
     rw[<- heb] at hsb kb
     have hll:(ea.length:Int)=eb.length:=by omega
     clear hea heb
     refine F.bt_ref21_result.go mixed rfl ?_
     repeat' first|refine st ?_|((with_reducible apply go_i);conv=>whnf)|refine⟨λ_=>?_,λ_=>?_⟩|fail
     all_goals rfl
   ·rw[if_neg hl] at hq
    subst hq
    clear had hS
    obtain⟨ea,hea⟩:∃z,z=eIs a.ks:=⟨_,rfl⟩
    obtain⟨eb,heb⟩:∃z,z=eIs b.ks:=⟨_,rfl⟩
    rw[<- hea] at hsa ka
    rw[<- heb] at hsb kb
    have hll:¬(ea.length:Int)=eb.length:=by omega
    clear hea heb
    refine F.bt_ref21_result.go mixed rfl ?_
    repeat' first|refine st ?_|((with_reducible apply go_i);conv=>whnf)|refine⟨λ_=>?_,λ_=>?_⟩|fail
    all_goals first|rfl|(exfalso;omega)
 ·exfalso;omega
end Go.Proofs
end
section
namespace Go.Proofs
open Go.Bi
def feK:List (Kw×Int)->Int
 |[]=>0
 |r::rs=>if r.2=0 then feK rs else r.2
theorem feK_drop{l:List (Kw×Int)}{i:Nat}{x:Kw×Int}(h:l[i]?=some x):feK (l.drop i)=if x.2=0 then feK (l.drop (i+1)) else x.2:=by
 obtain⟨hlt,he⟩:=List.getElem?_eq_some_iff.1 h
 rw[List.drop_eq_getElem_cons hlt,he];rfl
def ndR(r:Kw×Int):Kw×Int:=if r.2=0 then (if r.1.ks.length=0\/48<r.1.ks.length then (kw0,13) else (r.1,0)) else (kw0,r.2)
def ndN(K:List Kw)(o:Po)(n:Nat)(rs:List (Kw×Int)):Kw×Int:=
 if inN o.op<0 then (kw0,7) else if (n:Int)=inN o.op then (if feK rs=0 then ndR (resF K o (rs.map Prod.fst)) else (kw0,feK rs)) else (kw0,8)
mutual
/-- A plan's kinds, or its error. -/
def ndF(K:List Kw):Pl->Kw×Int
 |.mk o _ ins=>ndN K o ins.length (ndFs K ins)
def ndFs(K:List Kw):List Pl->List (Kw×Int)
 |[]=>[]
 |p::r=>ndF K p::ndFs K r
end
theorem ndFs_eq(K:List Kw):∀l,ndFs K l=l.map (ndF K)
 |[]=>by simp[ndFs]
 |e::es=>by simp[ndFs,ndFs_eq K es]
theorem ndF_mk(K:List Kw)(o:Po)(ni:Bool)(ins:List Pl):ndF K (.mk o ni ins)=ndN K o ins.length (ins.map (ndF K)):=by rw[ndF,ndFs_eq]
theorem ndR_len(r:Kw×Int):(ndR r).1.ks.length<=48:=by
 unfold ndR
 split
 ·split
  ·exact Nat.zero_le _
  ·show r.1.ks.length<=48
   omega
 ·exact Nat.zero_le _
theorem ndF_len(K:List Kw)(p:Pl):(ndF K p).1.ks.length<=48:=by
 obtain⟨o,ni,ins⟩:=p
 rw[ndF_mk,ndN]
 split
 ·exact Nat.zero_le _
 split
 ·split
  ·exact ndR_len _
  ·exact Nat.zero_le _
 ·exact Nat.zero_le _
theorem C.r21_node(K:List Kw)(hK:K.length<=4194304)(hKb:∀k∈K,k.ks.length<=4194304)(din:D)(hin:SlD din (eKw K)):∀p:Pl,p.bk<=1048576->
  Pure Tryz.prog N.bt_ref21_node [p.av,.d din] (.tup [.d (ndF K p).1.d,.d (eI (ndF K p).2)]):=by
 refine Pl.ind λo ni ins ih hb=>?_
 have hB:=Pl.bd hb
 have hI:=C.r21_inputs o.op
 have hR:=λk hk hkb dkk hdk=>C.r21_result K hK hKb din hin o ni ins hb k hk hkb dkk hdk
 have hq:=ndF_mk K o ni ins
 obtain⟨q,hqq⟩:∃q,q=ndF K (.mk o ni ins):=⟨_,rfl⟩
 rw[<- hqq] at hq ⊢
 clear hqq
 obtain⟨xo,xn,xv,xm,xd,hav,_⟩:=Pl.cuto o ni ins
 rw[hav] at hR ⊢
 clear hav
 have hil:=hB.il
 have hsub:=hB.sub
 clear hB hb
 obtain⟨op,n,nk,ki,nr,rows,pred,nx,xs,ny,keys,na,aggs⟩:=o
 have hdi:SlD (ng ni (pL ins)) (pL ins):=sld_ng
 obtain⟨dk,e1⟩:∃d,d=ng nk (eIs ki):=⟨_,rfl⟩
 obtain⟨dr,e2⟩:∃d,d=ng nr (eRs rows):=⟨_,rfl⟩
 obtain⟨dx,e3⟩:∃d,d=ng nx (xL xs):=⟨_,rfl⟩
 obtain⟨dy,e4⟩:∃d,d=ng ny (eIs keys):=⟨_,rfl⟩
 obtain⟨da,e5⟩:∃d,d=ng na (eAs aggs):=⟨_,rfl⟩
 obtain⟨di,e6⟩:∃d,d=ng ni (pL ins):=⟨_,rfl⟩
 have hR:∀(k:List Kw),(k.length:Int)=inN op->(∀x∈k,x.ks.length<=48)->∀dkk,SlD dkk (eKw k)->Bi.Pure Tryz.prog N.bt_ref21_result [ePl op n dk dr xo xn xv xm xd dx dy da di,.d din,.d dkk] (.tup [.d (resF K ⟨op,n,nk,ki,nr,rows,pred,nx,xs,ny,keys,na,aggs⟩ k).1.d,.d (eI (resF K ⟨op,n,nk,ki,nr,rows,pred,nx,xs,ny,keys,na,aggs⟩ k).2)]):=by
  rw[e1,e2,e3,e4,e5,e6];exact hR
 show Bi.Pure Tryz.prog N.bt_ref21_node [ePl op n (ng nk (eIs ki)) (ng nr (eRs rows)) xo xn xv xm xd (ng nx (xL xs)) (ng ny (eIs keys)) (ng na (eAs aggs)) (ng ni (pL ins)),.d din] _
 rw[<- e1,<- e2,<- e3,<- e4,<- e5,<- e6]
 rw[<- e6] at hdi
 obtain⟨o,ho⟩:∃o:Po,o=⟨op,n,nk,ki,nr,rows,pred,nx,xs,ny,keys,na,aggs⟩:=⟨_,rfl⟩
 rw[<- ho] at hR hq
 have hoo:o.op=op:=by rw[ho]
 clear e1 e2 e3 e4 e5 e6 ho
 unfold ndN at hq
 rw[hoo] at hq
 have hI:Bi.Pure Tryz.prog N.bt_ref21_inputs [.d (eI op)] (.d (eI (inN op))):=hI
 obtain⟨m,hm⟩:∃m,m=inN op:=⟨_,rfl⟩
 rw[<- hm] at hI hR hq
 clear hm hoo
 have l1:=pL_len ins
 have m1:=pL_mem ins
 have g1:=λi p=>@pL_get ins i p
 obtain⟨es,hes⟩:∃z,z=pL ins:=⟨_,rfl⟩
 rw[<- hes] at hdi l1 m1 g1
 clear hes
 by_cases h1:m<0
 ·rw[if_pos h1] at hq
  subst hq
  clear hR g1 ih
  refine F.bt_ref21_node.go mixed rfl ?_
  repeat' first|refine st ?_|((with_reducible apply go_i);conv=>whnf)|refine⟨λ_=>?_,λ_=>?_⟩|fail
  all_goals rfl
 rw[if_neg h1] at hq
 by_cases h2:(ins.length:Int)=m
 rotate_left
 ·rw[if_neg h2] at hq
  subst hq
  have h3:¬(es.length:Int)=m:=by omega
  clear hR g1 ih
  refine F.bt_ref21_node.go mixed rfl ?_
  repeat' first|refine st ?_|((with_reducible apply go_i);conv=>whnf)|refine⟨λ_=>?_,λ_=>?_⟩|fail
  all_goals first|rfl|(exfalso;omega)
 rw[if_pos h2] at hq
 have h3:(es.length:Int)=m:=by omega
 obtain⟨rs,hrs⟩:∃z,z=ins.map (ndF K):=⟨_,rfl⟩
 have hrl:rs.length=ins.length:=by rw[hrs,List.length_map]
 have hrg:∀i p,ins[i]?=some p->rs[i]?=some (ndF K p):=λi p h=>by rw[hrs,List.getElem?_map,h];rfl
 have hrb:∀x∈rs.map Prod.fst,x.ks.length<=48:=λx hx=>by
  obtain⟨y,hy,rfl⟩:=List.mem_map.1 hx
  rw[hrs] at hy
  obtain⟨p,_,rfl⟩:=List.mem_map.1 hy
  exact ndF_len K p
 rw[<- hrs] at hq
 clear hrs
 refine F.bt_ref21_node.go mixed rfl ?_
 repeat' first|refine st ?_|((with_reducible apply go_i);conv=>whnf)|refine⟨λ_=>?_,λ_=>?_⟩|fail
 refine x_nil 7 1 rfl rfl ?_
 refine x_loop2 mixed Lt.bt_ref21_node_l0 Lk.bt_ref21_node_l0 (λ(i:Nat) (w:List Kw)=>[.arr 1 (eKw w).length,.d (eI i)]) (λi w=>[.cells [.d (eI op),.d (eI n),.d dk,.d dr,.d (eI xo),.d (eI xn),.d (eI xv.k),.d (eI xv.n),.d (.str xv.s),.d (.str xm),.d xd,.d dx,.d dy,.d da,.d di],.arr (eKw w) 1 0 (eKw w).isEmpty]) (λi w=>i<=ins.length/\w=(rs.take i).map Prod.fst/\feK (rs.drop i)=feK rs) (λi w=>ins.length-i) 0 [] rfl rfl rfl rfl (λ_ _ _=>⟨rfl,rfl⟩) rfl ⟨by omega,rfl,rfl⟩ ?_
 repeat' first|refine st ?_|((with_reducible apply go_i);conv=>whnf)|refine⟨λ_=>?_,λ_=>?_⟩|fail
 intro i w ⟨i1,i2,i3⟩
 have hw1:=eKw_len w
 have hwm:=eKw_mem w
 have hwl:w.length<=i:=by rw[i2];simp;omega
 have hbd:((eKw w).length+1)*24<=140737488355328:=by omega
 have happ:=λk:Kw=>show eKw (w++[k])=eKw w++[[k.d]] by simp[eKw]
 have hne:=λk:Kw=>show(eKw (w++[k])).isEmpty=false by simp[eKw]
 obtain⟨A,hA⟩:∃z,z=eKw w:=⟨_,rfl⟩
 rw[<- hA] at hw1 hwm hbd ⊢
 cases hi:ins[i]? with
 |some p=>
  have hlt:=(List.getElem?_eq_some_iff.1 hi).1
  have hil2:(i:Int)<m:=by omega
  have hil3:(i:Int)<es.length:=by omega
  have hg:=g1 i p hi
  have hC:=ih p (List.mem_of_getElem? hi) (hsub p (List.mem_of_getElem? hi))
  have hrx:=hrg i p hi
  have hfd:=feK_drop hrx
  have htk:(rs.take (i+1)).map Prod.fst=w++[(ndF K p).1]:=by rw[List.take_add_one,hrx,List.map_append,<- i2];rfl
  rw[i3] at hfd
  obtain⟨op',n',dk',dr',xo',xn',xv',xm',xd',dx',dy',da',di',c1,c2⟩:=Pl.cut p
  have hg:es[((i:Nat):Int).toNat]?=some (ePld op' n' dk' dr' xo' xn' xv' xm' xd' dx' dy' da' di'):=by rw[<- c1];exact hg
  rw[c2] at hC
  obtain⟨⟨k,er⟩,hk⟩:∃z,z=ndF K p:=⟨_,rfl⟩
  rw[<- hk] at hC hfd htk
  dsimp only at hC hfd htk
  have happ:=happ k
  have hne:=hne k
  rw[<- hA] at happ
  obtain⟨kd,hkd⟩:∃d,d=k.d:=⟨_,rfl⟩
  rw[<- hkd] at hC happ
  clear hkd hA c1 c2 hi g1 ih hk hrg hR hrx
  by_cases hr:er=0
  ·subst hr
   rw[if_pos rfl] at hfd
   repeat' first|refine st ?_|((with_reducible apply go_i);conv=>whnf)|refine⟨λ_=>?_,λ_=>?_⟩|fail
   exact⟨i+1,w++[k],by rw[happ];simp,rfl,by rw[hne,happ];simp,by omega,by omega,htk.symm,hfd.symm⟩
  ·rw[if_neg hr] at hfd
   rw[hfd,if_neg hr] at hq
   subst hq
   clear happ hne
   repeat' first|refine st ?_|((with_reducible apply go_i);conv=>whnf)|refine⟨λ_=>?_,λ_=>?_⟩|fail
   all_goals first|rfl|(exfalso;omega)
 |none=>
  have hge:=List.getElem?_eq_none_iff.1 hi
  have hil2:m<=(i:Int):=by omega
  rw[List.drop_of_length_le (by omega)] at i3
  have i3:feK rs=0:=i3.symm
  rw[List.take_of_length_le (by omega)] at i2
  rw[if_pos i3,<- i2] at hq
  have hRR:=hR w (by rw[i2,List.length_map];omega) (by rw[i2];exact hrb) (CnD (eKw w).isEmpty .nil (.sl (eKw w))) (by rw[show(CnD (eKw w).isEmpty .nil (.sl (eKw w)):D)=ng true (eKw w) by cases eKw w<;>rfl];exact sld_ng)
  rw[<- hA] at hRR
  obtain⟨⟨k,er⟩,hk⟩:∃z,z=resF K o w:=⟨_,rfl⟩
  rw[<- hk] at hRR hq
  unfold ndR at hq
  dsimp only at hRR hq
  have hsk:SlD k.d (eIs k.ks):=sld_ng
  have hkl:=eIs_len k.ks
  obtain⟨ek,hek⟩:∃z,z=eIs k.ks:=⟨_,rfl⟩
  rw[<- hek] at hsk hkl
  obtain⟨kd,hkd⟩:∃d,d=k.d:=⟨_,rfl⟩
  rw[<- hkd] at hRR hsk
  clear hek hk hi g1 ih hrg hR happ hne hA hrb
  by_cases hr:er=0
  ·subst hr
   rw[if_pos rfl] at hq
   by_cases hz:k.ks.length=0
   ·rw[if_pos (.inl hz)] at hq
    subst hq
    have hz2:(ek.length:Int)=0:=by omega
    clear hkd
    repeat' first|refine st ?_|((with_reducible apply go_i);conv=>whnf)|refine⟨λ_=>?_,λ_=>?_⟩|fail
    all_goals rfl
   ·by_cases hz2:48<k.ks.length
    ·rw[if_pos (.inr hz2)] at hq
     subst hq
     have hz3:¬(ek.length:Int)=0:=by omega
     have hz4:(48:Int)<(ek.length:Int):=by omega
     clear hkd
     repeat' first|refine st ?_|((with_reducible apply go_i);conv=>whnf)|refine⟨λ_=>?_,λ_=>?_⟩|fail
     all_goals first|rfl|(exfalso;omega)
    ·rw[if_neg (by omega)] at hq
     subst hq
     have hz3:¬(ek.length:Int)=0:=by omega
     have hz4:(ek.length:Int)<=48:=by omega
     rw[show Kw.d (k,(0:Int)).1=kd from hkd.symm]
     clear hkd
     repeat' first|refine st ?_|((with_reducible apply go_i);conv=>whnf)|refine⟨λ_=>?_,λ_=>?_⟩|fail
     all_goals first|rfl|(exfalso;omega)
  ·rw[if_neg hr] at hq
   subst hq
   clear hkd
   repeat' first|refine st ?_|((with_reducible apply go_i);conv=>whnf)|refine⟨λ_=>?_,λ_=>?_⟩|fail
   all_goals first|rfl|(exfalso;omega)
def cpF(K:List Kw)(p:Pl):Kw×Int:=if 24<dpP p then (kw0,26) else ndF K p
theorem C.r21_Check(K:List Kw)(hK:K.length<=4194304)(hKb:∀k∈K,k.ks.length<=4194304)(din:D)(hin:SlD din (eKw K))(p:Pl)(hb:p.bk<=1048576) :
  Pure Tryz.prog N.bt_ref21_Check [p.av,.d din] (.tup [.d (cpF K p).1.d,.d (eI (cpF K p).2)]):=by
 have hD:=C.r21_Depth p hb
 have hN:=C.r21_node K hK hKb din hin p hb
 obtain⟨q,hq⟩:∃q,q=cpF K p:=⟨_,rfl⟩
 rw[<- hq]
 unfold cpF at hq
 obtain⟨op',n',dk',dr',xo',xn',xv',xm',xd',dx',dy',da',di',c1,c2⟩:=Pl.cut p
 rw[c2] at hD hN ⊢
 obtain⟨t,ht⟩:∃t,t=dpP p:=⟨_,rfl⟩
 rw[<- ht] at hD hq
 obtain⟨⟨k,er⟩,hk⟩:∃z,z=ndF K p:=⟨_,rfl⟩
 rw[<- hk] at hN hq
 dsimp only at hN
 obtain⟨kd,hkd⟩:∃d,d=k.d:=⟨_,rfl⟩
 rw[<- hkd] at hN
 clear hk c1 c2 ht
 by_cases h:24<t
 ·rw[if_pos h] at hq
  subst hq
  refine F.bt_ref21_Check.go mixed rfl ?_
  repeat' first|refine st ?_|((with_reducible apply go_i);conv=>whnf)|refine⟨λ_=>?_,λ_=>?_⟩|fail
  all_goals rfl
 ·rw[if_neg h] at hq
  subst hq
  rw[show Kw.d (k,er).1=kd from hkd.symm]
  clear hkd
  refine F.bt_ref21_Check.go mixed rfl ?_
  repeat' first|refine st ?_|((with_reducible apply go_i);conv=>whnf)|refine⟨λ_=>?_,λ_=>?_⟩|fail
  all_goals rfl
end Go.Proofs
end
section
namespace Go.Proofs
open Go.Bi
structure Ord3{α:Type}(f:α->α->Int):Prop where
 eq:∀a b,f a b=0↔a=b
 sw:∀a b,f b a=- f a b
 tr:∀a b c,f a b<0->f b c<0->f a c<0
theorem Ord3.lex{α:Type}{f:α->α->Int}{g:List α->List α->Int}(hf:Ord3 f)(h0:g [] []=0)(h1:∀b y,g [] (b::y)=-1)(h2:∀a x,g (a::x) []=1)(h3:∀a x b y,g (a::x) (b::y)=if f a b=0 then g x y else f a b):Ord3 g:=by
 have e:∀a b,g a b=0↔a=b:=by
  intro a
  induction a with
  |nil=>intro b;cases b with
   |nil=>simp[h0]
   |cons b y=>simp[h1]
  |cons a x ih=>intro b;cases b with
   |nil=>simp[h2]
   |cons b y=>
    rw[h3]
    by_cases h:f a b=0
    ·rw[if_pos h,ih,(hf.eq _ _).1 h];simp
    ·rw[if_neg h]
     constructor
     ·intro k;exact absurd k h
     ·intro k;cases k;exact absurd ((hf.eq _ _).2 rfl) h
 refine⟨e,?_,?_⟩
 ·intro a
  induction a with
  |nil=>intro b;cases b with
   |nil=>rw[h0];rfl
   |cons b y=>rw[h1,h2];rfl
  |cons a x ih=>intro b;cases b with
   |nil=>rw[h1,h2]
   |cons b y=>
    have:=hf.sw a b
    rw[h3,h3,ih y]
    by_cases h:f a b=0
    ·rw[if_pos h,if_pos (by omega)]
    ·rw[if_neg h,if_neg (by omega),this]
 ·intro a
  induction a with
  |nil=>intro b c k1 k2;cases c with
   |nil=>cases b with
    |nil=>exact k1
    |cons b y=>rw[h2] at k2;omega
   |cons c z=>rw[h1];decide
  |cons a x ih=>intro b c k1 k2;cases b with
   |nil=>rw[h2] at k1;omega
   |cons b y=>cases c with
    |nil=>rw[h2] at k2;omega
    |cons c z=>
     rw[h3] at k1 k2 ⊢
     by_cases k3:f a b=0
     ·have k4:=(hf.eq _ _).1 k3
      subst k4
      rw[if_pos k3] at k1
      by_cases k5:f a c=0
      ·rw[if_pos k5] at k2 ⊢;exact ih _ _ k1 k2
      ·rw[if_neg k5] at k2 ⊢;exact k2
     ·rw[if_neg k3] at k1
      by_cases k5:f b c=0
      ·have k6:=(hf.eq _ _).1 k5
       subst k6
       rw[if_neg k3];exact k1
      ·rw[if_neg k5] at k2
       have k7:=hf.tr _ _ _ k1 k2
       rw[if_neg (by omega)];exact k7
theorem cmpI_ord:Ord3 cmpI:=by
 refine⟨λa b=>cmpI_eq,λa b=>?_,λa b c=>?_⟩
 ·unfold cmpI;repeat' split
  all_goals omega
 ·unfold cmpI;repeat' split
  all_goals omega
def cmpU(a b:UInt8):Int:=if a<b then -1 else if b<a then 1 else 0
theorem cmpU_nat(a b:UInt8):cmpU a b=cmpI a.toNat b.toNat:=by
 unfold cmpU cmpI
 simp only[UInt8.lt_iff_toNat_lt,Int.ofNat_lt]
theorem cmpU_ord:Ord3 cmpU:=by
 refine⟨λa b=>?_,λa b=>?_,λa b c=>?_⟩
 ·rw[cmpU_nat,cmpI_eq,Int.ofNat_inj];exact UInt8.toNat_inj
 ·rw[cmpU_nat,cmpU_nat];exact cmpI_ord.sw _ _
 ·rw[cmpU_nat,cmpU_nat,cmpU_nat];exact cmpI_ord.tr _ _ _
theorem cmpB_ord:Ord3 cmpB:=by
 refine cmpU_ord.lex rfl (λ_ _=>rfl) (λ_ _=>rfl) λa x b y=>?_
 show(if a<b then (-1:Int) else if b<a then 1 else cmpB x y)=_
 unfold cmpU
 by_cases h1:a<b
 ·rw[if_pos h1,if_pos h1,if_neg (by decide)]
 ·by_cases h2:b<a
  ·rw[if_neg h1,if_pos h2,if_neg h1,if_pos h2,if_neg (by decide)]
  ·rw[if_neg h1,if_neg h2,if_neg h1,if_neg h2,if_pos rfl]
theorem vCmp_ord:Ord3 vCmp:=by
 refine⟨λa b=>vCmp_eq,λa b=>?_,λa b c h1 h2=>?_⟩
 ·have h1:=cmpI_ord.sw a.k b.k
  have h2:=cmpI_ord.sw a.n b.n
  have h3:=cmpB_ord.sw a.s b.s
  unfold vCmp or3
  rw[h1,h2,h3]
  by_cases k1:cmpI a.k b.k=0
  ·by_cases k2:cmpI a.n b.n=0
   ·simp[k1,k2]
   ·simp[k1,k2]
  ·simp[k1]
 ·have i1:=cmpI_ord.tr a.k b.k c.k
  have i2:=cmpI_ord.tr a.n b.n c.n
  have i3:=cmpB_ord.tr a.s b.s c.s
  unfold vCmp or3 at *
  have e1:=cmpI_ord.eq a.k b.k
  have e2:=cmpI_ord.eq b.k c.k
  have e3:=cmpI_ord.eq a.n b.n
  have e4:=cmpI_ord.eq b.n c.n
  by_cases k1:cmpI a.k b.k=0
  ·have e1:=e1.1 k1
   rw[<- e1] at h2
   by_cases k2:cmpI a.k c.k=0
   ·simp only[k1,k2,ne_eq,not_true_eq_false,if_false] at h1 h2 ⊢
    by_cases k3:cmpI a.n b.n=0
    ·have e3:=e3.1 k3
     rw[<- e3] at h2
     by_cases k4:cmpI a.n c.n=0
     ·simp only[k3,k4,ne_eq,not_true_eq_false,if_false] at h1 h2 ⊢
      exact i3 h1 h2
     ·simp only[k4,ne_eq,not_false_eq_true,if_true] at h2 ⊢
      exact h2
    ·simp only[k3,ne_eq,not_false_eq_true,if_true] at h1
     by_cases k4:cmpI b.n c.n=0
     ·have e4:=e4.1 k4
      rw[<- e4]
      simp only[k3,ne_eq,not_false_eq_true,if_true]
      exact h1
     ·simp only[k4,ne_eq,not_false_eq_true,if_true] at h2
      have:=i2 h1 h2
      rw[if_pos (by omega)];exact this
   ·simp only[k2,ne_eq,not_false_eq_true,if_true] at h2 ⊢
    exact h2
  ·simp only[k1,ne_eq,not_false_eq_true,if_true] at h1
   by_cases k2:cmpI b.k c.k=0
   ·have e2:=e2.1 k2
    rw[<- e2]
    simp only[k1,ne_eq,not_false_eq_true,if_true]
    exact h1
   ·simp only[k2,ne_eq,not_false_eq_true,if_true] at h2
    have:=i1 h1 h2
    rw[if_pos (by omega)];exact this
theorem cmpR_ord:Ord3 cmpR:=
 vCmp_ord.lex rfl (λ_ _=>rfl) (λ_ _=>rfl) λ_ _ _ _=>rfl
theorem cmpR_le{a b c:Row}(h1:cmpR a b<=0)(h2:cmpR b c<=0):cmpR a c<=0:=by
 by_cases k1:cmpR a b=0
 ·rw[(cmpR_ord.eq _ _).1 k1];exact h2
 by_cases k2:cmpR b c=0
 ·rw[<- (cmpR_ord.eq _ _).1 k2];exact h1
 have:=cmpR_ord.tr a b c (by omega) (by omega)
 omega
def Srt(l:List Row):Prop:=l.Pairwise λa b=>cmpR a b<=0
theorem mrg_srt:∀(n:Nat)(a b:List Row),a.length+b.length<=n->Srt a->Srt b->Srt (mrg a b)
 |_,[],b,_,_,hb=>by rw[mrg];exact hb
 |_,y::a,[],_,ha,_=>by rw[mrg_nil];exact ha
 |0,y::a,z::b,h,_,_=>by simp at h
 |n+1,y::a,z::b,h,ha,hb=>by
  simp only[List.length_cons] at h
  have ha':=List.pairwise_cons.1 ha
  have hb':=List.pairwise_cons.1 hb
  rw[mrg]
  split
  ·rename_i hlt
   refine List.pairwise_cons.2 ⟨λx hx=>?_,mrg_srt n _ _ (by simp only[List.length_cons];omega) ha hb'.2⟩
   rcases mrg_mem _ _ _ (Nat.le_refl _) x hx with h1|h1
   ·rcases List.mem_cons.1 h1 with rfl|h2
    ·omega
    ·exact cmpR_le (b:=y) (by omega) (ha'.1 x h2)
   ·exact hb'.1 x h1
  ·rename_i hlt
   have hyz:cmpR y z<=0:=by have:=cmpR_ord.sw y z;omega
   refine List.pairwise_cons.2 ⟨λx hx=>?_,mrg_srt n _ _ (by simp only[List.length_cons];omega) ha'.2 hb⟩
   rcases mrg_mem _ _ _ (Nat.le_refl _) x hx with h1|h1
   ·exact ha'.1 x h1
   ·rcases List.mem_cons.1 h1 with rfl|h2
    ·exact hyz
    ·exact cmpR_le (b:=z) hyz (hb'.1 x h2)
theorem ordR_srt:∀(n:Nat)(l:List Row),l.length<=n->Srt (ordR l)
 |0,l,h=>by
  rw[ordR,dif_pos (by omega)]
  cases l with
  |nil=>exact List.Pairwise.nil
  |cons a r=>simp at h
 |n+1,l,h=>by
  rw[ordR]
  split
  ·rename_i h1
   match l,h1 with
   |[],_=>exact List.Pairwise.nil
   |[a],_=>exact List.pairwise_singleton _ _
  ·exact mrg_srt _ _ _ (Nat.le_refl _) (ordR_srt n _ (by rw[List.length_take];omega)) (ordR_srt n _ (by rw[List.length_drop];omega))
theorem cntAdd_mem{w:List (Row×Nat)}{x:Row}:∀p∈cntAdd w x,p.1=x\/∃p'∈w,p'.1=p.1:=by
 rcases List.eq_nil_or_concat w with rfl|⟨u,⟨p,n⟩,rfl⟩
 ·intro q hq
  exact .inl (by rw[List.mem_singleton.1 hq])
 ·intro q hq
  rw[List.concat_eq_append,cntAdd_snoc] at hq
  split at hq
  ·rcases List.mem_append.1 hq with h|h
   ·exact .inr ⟨q,by simp[h],rfl⟩
   ·exact .inr ⟨(p,n),by simp,by rw[List.mem_singleton.1 h]⟩
  ·rcases List.mem_append.1 hq with h|h
   ·exact .inr ⟨q,by simpa using h,rfl⟩
   ·exact .inl (by rw[List.mem_singleton.1 h])
def StrC(w:List (Row×Nat)):Prop:=w.Pairwise λp q=>cmpR p.1 q.1<0
theorem cntAdd_str{w:List (Row×Nat)}{x:Row}(hw:StrC w)(hx:∀p∈w,cmpR p.1 x<=0):StrC (cntAdd w x):=by
 rcases List.eq_nil_or_concat w with rfl|⟨u,⟨p,n⟩,rfl⟩
 ·exact List.pairwise_singleton _ _
 ·rw[List.concat_eq_append] at hw hx ⊢
  rw[cntAdd_snoc]
  have h1:=List.pairwise_append.1 hw
  split
  ·refine List.pairwise_append.2 ⟨h1.1,List.pairwise_singleton _ _,λa ha b hb=>?_⟩
   rw[List.mem_singleton.1 hb]
   exact h1.2.2 a ha (p,n) (by simp)
  ·rename_i hne
   have hpx:cmpR p x<0:=by
    have:=hx (p,n) (by simp)
    dsimp only at this
    omega
   refine List.pairwise_append.2 ⟨hw,List.pairwise_singleton _ _,λa ha b hb=>?_⟩
   rw[List.mem_singleton.1 hb]
   rcases List.mem_append.1 ha with h|h
   ·exact cmpR_ord.tr _ p _ (h1.2.2 a h (p,n) (by simp)) hpx
   ·rw[List.mem_singleton.1 h];exact hpx
theorem cntF_str:∀(l:List Row)(w:List (Row×Nat)),Srt l->StrC w->(∀p∈w,∀x∈l,cmpR p.1 x<=0)->StrC (l.foldl cntAdd w)
 |[],w,_,hw,_=>hw
 |x::r,w,hl,hw,h=>by
  have hl':=List.pairwise_cons.1 hl
  refine cntF_str r _ hl'.2 (cntAdd_str hw λp hp=>h p hp x (by simp)) λp hp y hy=>?_
  rcases cntAdd_mem p hp with h1|⟨p',h1,h2⟩
  ·rw[h1];exact hl'.1 y hy
  ·rw[<- h2];exact h p' h1 y (by simp[hy])
theorem cntL_str(l:List Row):StrC (cntL (ordR l)):=
 cntF_str _ [] (ordR_srt _ l (Nat.le_refl _)) List.Pairwise.nil (by simp)
theorem smC_cnt'(l:List Row):smC (cntL (ordR l))=l.length:=by
 unfold cntL
 rw[smC_fold,ordR_len _ _ (Nat.le_refl _)]
 simp[smC]
theorem dwR_sm(x:Row):∀o:List (Row×Nat),smC (dwR x o)<=smC o
 |[]=>Nat.le_refl _
 |p::o=>by
  have:smC (List.dropWhile (λp=>decide (cmpR p.1 x<0)) o)<=smC o:=dwR_sm x o
  rw[dwR,List.dropWhile_cons]
  split
  ·simp only[smC,List.map_cons,List.sum_cons] at *;omega
  ·exact Nat.le_refl _
theorem prL_sum:∀(l:List Row)(o:List (Row×Nat)),(l.Pairwise λa b=>cmpR a b<0)->(prL l o).sum<=smC o
 |[],o,_=>by simp[prL]
 |x::r,o,h=>by
  have h':=List.pairwise_cons.1 h
  have h1:=dwR_sm x o
  rw[prL,List.sum_cons]
  cases ho:dwR x o with
  |nil=>
   have h3:=prL_sum r [] h'.2
   have h2:hdR x []=0:=rfl
   rw[ho] at h1
   omega
  |cons p t=>
   rw[ho] at h1
   by_cases he:cmpR p.1 x=0
   ·have h2:hdR x (p::t)=p.2:=if_pos he
    have h3:prL r (p::t)=prL r t:=by
     cases r with
     |nil=>rfl
     |cons y r'=>
      have hy:cmpR p.1 y<0:=by rw[(cmpR_ord.eq _ _).1 he];exact h'.1 y (by simp)
      have:dwR y (p::t)=dwR y t:=by
       rw[dwR,List.dropWhile_cons,if_pos (by rw[decide_eq_true hy])]
      rw[prL,prL,this]
    have h4:=prL_sum r t h'.2
    rw[h2,h3]
    simp only[smC,List.map_cons,List.sum_cons] at *
    omega
   ·have h2:hdR x (p::t)=0:=if_neg he
    have h4:=prL_sum r (p::t) h'.2
    omega
theorem repL_sum(f:Nat->Nat->Int)(hf:∀n m,(f n m).toNat<=m):∀(w:List (Row×Nat))(ms:List Nat),(repL f w ms).length<=ms.sum
 |[],ms=>by simp[repL]
 |p::r,[]=>by simp[repL]
 |p::r,m::ms=>by
  have h1:=repL_sum f hf r ms
  have h2:=hf p.2 m
  simp only[repL,List.length_append,List.length_replicate,List.sum_cons] at *
  omega
theorem setR_len(f:Nat->Nat->Int)(hf:∀n m,(f n m).toNat<=n)(a b:List Row):(setR f a b).length<=a.length:=by
 have:=repL_len f hf (cntL (ordR a)) (prL ((cntL (ordR a)).map Prod.fst) (cntL (ordR b)))
 rw[smC_cnt'] at this
 exact this
theorem setR_len2(f:Nat->Nat->Int)(hf:∀n m,(f n m).toNat<=m)(a b:List Row):(setR f a b).length<=b.length:=by
 have h1:=repL_sum f hf (cntL (ordR a)) (prL ((cntL (ordR a)).map Prod.fst) (cntL (ordR b)))
 have h2:=prL_sum ((cntL (ordR a)).map Prod.fst) (cntL (ordR b)) (List.pairwise_map.2 (cntL_str a))
 rw[smC_cnt'] at h2
 exact Nat.le_trans h1 h2
theorem repL_mem(f:Nat->Nat->Int):∀(w:List (Row×Nat))(ms:List Nat),∀r∈repL f w ms,∃p∈w,p.1=r
 |[],ms,r,h=>by simp[repL] at h
 |p::w,[],r,h=>by simp[repL] at h
 |p::w,m::ms,r,h=>by
  rw[repL] at h
  rcases List.mem_append.1 h with h|h
  ·exact⟨p,by simp,(List.mem_replicate.1 h).2.symm⟩
  ·obtain⟨q,h1,h2⟩:=repL_mem f w ms r h
   exact⟨q,by simp[h1],h2⟩
theorem cntF_mem:∀(l:List Row)(w:List (Row×Nat)),∀p∈l.foldl cntAdd w,p.1∈l\/∃p'∈w,p'.1=p.1
 |[],w,p,h=>.inr ⟨p,h,rfl⟩
 |x::l,w,p,h=>by
  rcases cntF_mem l _ p h with h1|⟨p',h1,h2⟩
  ·exact .inl (by simp[h1])
  ·rcases cntAdd_mem p' h1 with h3|⟨p2,h3,h4⟩
   ·exact .inl (by rw[<- h2,h3];simp)
   ·exact .inr ⟨p2,h3,h4.trans h2⟩
theorem setR_mem(f:Nat->Nat->Int)(a b:List Row):∀r∈setR f a b,r∈a:=by
 intro r h
 obtain⟨p,h1,rfl⟩:=repL_mem f _ _ r h
 rcases cntF_mem _ _ p h1 with h2|⟨p',h2,_⟩
 ·exact ordR_mem _ _ (Nat.le_refl _) _ h2
 ·cases h2
end Go.Proofs
end
