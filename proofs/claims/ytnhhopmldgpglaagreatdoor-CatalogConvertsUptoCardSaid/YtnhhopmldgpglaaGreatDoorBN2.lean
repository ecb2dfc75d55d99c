/- The operations of a region that touch objects, in any order that their edges allow: the objects are told apart at the run. No condition. -/
import Derived.Test.YtnhhopmldgpglaaGreatDoorBN
set_option linter.unusedVariables false
set_option linter.unusedSimpArgs false
namespace Go.Bi
set_option linter.unusedSectionVars false
variable [J9]
section
variable {P:Program}{os:List AO}{ρ:C5}
abbrev O2:=List Nat×Option Nat
def AV.isd:AV->Bool
 |.d _=>true
 |_=>false
def AV.isDB:AV->Bool
 |.d _=>true
 |.agg cs=>cs.all AV.isd
 |_=>false
def A4q:AV->List Nat
 |.aptr id _ _ _=>[id]
 |.rp id _ _ _=>[id]
 |_=>[]
def k8:AV->List Nat
 |.ptr id _=>[id]
 |.aptr id _ _ _=>[id]
 |.arr id _=>[id]
 |.rs id _=>[id]
 |.rp id _ _ _=>[id]
 |_=>[]
def G9(ρ:C5):IK->Option O2
 |.faddr _ x=>some (A4q (B8 ρ x),none)
 |.nilck x=>some (A4q (B8 ρ x),none)
 |.ixarr _ _ x _=>some (A4q (B8 ρ x),none)
 |.eqnil _ x=>some (k8 (B8 ρ x),none)
 |.len x=>some (k8 (B8 ρ x),none)
 |.ixsl _ x _=>some (k8 (B8 ρ x),none)
 |.load _ _ x=>some (k8 (B8 ρ x),none)
 |.store _ x v=>match B8 ρ x with
  |.ptr id _=>some ([],some id)
  |.aptr id _ _ _=>if (B8 ρ v).isDB then some ([],some id) else none
  |_=>none
 |.app _ _ s x=>match B8 ρ s with
  |.arr id _=>some (k8 (B8 ρ x),some id)
  |.rs id _=>some (k8 (B8 ρ x),some id)
  |_=>none
 |.alloca id _=>some ([],some id)
 |.boxa id _ _=>some ([],some id)
 |.calln id _ args=>if (args.map (B8 ρ)).all AV.isDB then some ([],some id) else none
 |.bslr id _ _ _ _=>some ([],some id)
 |.callp _ args=>if (args.map (B8 ρ)).all AV.isDB then some ([],none) else none
 |.bsld _ _ _ ps=>if (ps.map λp=>B8 ρ p.2.2).all AV.isDB then some ([],none) else none
 |.slsl _ x _ _=>if (B8 ρ x).isDB then some ([],none) else none
 |.lkup _ _ _ _ m _=>match B8 ρ m with
  |.mp id=>some ([id,id+1],none)
  |_=>none
 |.mupd _ m _ _=>match B8 ρ m with
  |.mp id=>some ([],some id)
  |_=>none
 |op=>if op.rd then none else some ([],none)
theorem C1U{sz:Nat}{v:AV}{lo hi:Option B6}{os2:List AO}{K:AV->List AO->Prop}(hd:v.isDB=true):slI ρ os sz v lo hi K=slI ρ os2 sz v lo hi (λr _=>K r os):=by
 cases v with
 |d x=>cases x<;>rfl
 |agg cs=>rfl
 |_=>cases hd
theorem B8c{op:IK}{R:List Nat}(h:G9 ρ op=some (R,none))(K:AV->List AO->Prop):A8 P ρ os K op=A8 P ρ os (λr _=>K r os) op:=by
 by_cases hs:∃sz x lo hi,op=.slsl sz x lo hi
 ·obtain⟨sz,x,lo,hi,rfl⟩:=hs
  simp only[G9] at h
  split at h
  ·rename_i hd
   exact C1U hd
  ·cases h
 ·refine B1U ?_ K
  cases op<;>first|rfl|skip
  case slsl sz x lo hi=>exact absurd ⟨sz,x,lo,hi,rfl⟩ hs
  all_goals (simp only[G9] at h;repeat' (first|(cases h;done)|(simp[IK.rd] at h;done)|split at h))
theorem D2g{ρ ρ':C5}(op:IK)(h:∀x∈op.opds,B8 ρ x=B8 ρ' x):G9 ρ op=G9 ρ' op:=by
 cases op<;>first|rfl|skip
 case faddr a x=>simp only[G9,h x (by simp[IK.opds])]
 case nilck x=>simp only[G9,h x (by simp[IK.opds])]
 case ixarr a b x i=>simp only[G9,h x (by simp[IK.opds])]
 case eqnil a x=>simp only[G9,h x (by simp[IK.opds])]
 case len x=>simp only[G9,h x (by simp[IK.opds])]
 case ixsl a x i=>simp only[G9,h x (by simp[IK.opds])]
 case load a b x=>simp only[G9,h x (by simp[IK.opds])]
 case store a x v=>simp only[G9,h x (by simp[IK.opds]),h v (by simp[IK.opds])]
 case app a b s x=>simp only[G9,h s (by simp[IK.opds]),h x (by simp[IK.opds])]
 case slsl sz x lo hi=>simp only[G9,h x (by simp[IK.opds])]
 case lkup sk ok g zs m k=>simp only[G9,h m (by simp[IK.opds])]
 case mupd sk m k v=>simp only[G9,h m (by simp[IK.opds])]
 case callp f args=>
  have:args.map (B8 ρ)=args.map (B8 ρ'):=T9 λy hy=>h y (by simp[IK.opds,hy])
  simp only[G9,this]
 case calln id f args=>
  have:args.map (B8 ρ)=args.map (B8 ρ'):=T9 λy hy=>h y (by simp[IK.opds,hy])
  simp only[G9,this]
 case bsld a b c ps=>
  have:(ps.map λp=>B8 ρ p.2.2)=ps.map λp=>B8 ρ' p.2.2:=T9 λy hy=>h y.2.2 (by simp[IK.opds];exact⟨_,_,hy⟩)
  simp only[G9,this]
theorem B2c{os os2:List AO}{d:Nat}{x:AV}{K:AV->Prop}(hl:∀i∈A4q x,os2[i]?=os[i]?)(h:b9 os d x K):b9 os2 d x K:=by
 unfold b9 at h ⊢
 cases x with
 |aptr id l i o=>simp only at h ⊢;rw[hl id (by simp[A4q])];exact h
 |_=>exact h
theorem D4Y{os:List AO}{c:AV}(h:c.isd=true):∃x,c=.d x/\A1f os c=some (x,os):=by
 cases c with
 |d x=>exact⟨x,rfl,rfl⟩
 |_=>cases h
theorem A8F:∀{cs:List AV},cs.all AV.isd=true->∃xs:List D,cs=xs.map .d/\∀os,r6 os cs=some (xs,os)
 |[],_=>⟨[],rfl,λ_=>rfl⟩
 |c::cs,h=>by
  simp only[i6,L6] at h
  obtain⟨xs,h1,h2⟩:=A8F h.2
  obtain⟨x,rfl,_⟩:=D4Y (os:=[]) h.1
  exact⟨x::xs,by rw[h1];rfl,λos=>by simp only[r6,A1f,h2]⟩
theorem D4X{c:AV}(h:c.isDB=true)(os:List AO):A1Q os c=some (c,os):=by
 cases c with
 |d x=>rfl
 |agg cs=>
  obtain⟨xs,rfl,h2⟩:=A8F (show cs.all AV.isd=true from h)
  simp only[A1Q,h2]
 |_=>cases h
theorem A8E:∀{cs:List AV},cs.all AV.isDB=true->∀os,r7 os cs=some (cs,os)
 |[],_,os=>rfl
 |c::cs,h,os=>by
  simp only[i6,L6] at h
  simp only[r7,D4X h.1,A8E h.2]
theorem C0b{c:AV}{vc:List AV}(h:c.isDB=true)(hc:c.cells=some vc):vc.all AV.isd=true:=by
 cases c with
 |d x=>simp only[AV.cells] at hc;cases hc;rfl
 |agg cs=>simp only[AV.cells] at hc;cases hc;exact h
 |_=>cases h
theorem D2i{cs vc:List AV}{off:Nat}(h1:cs.all AV.isd=true)(h2:vc.all AV.isd=true):(K6 cs off vc).all AV.isd=true:=by
 rw[O3] at *
 intro x hx
 unfold K6 at hx
 simp only[P4] at hx
 rcases hx with (hx|hx)|hx
 ·exact h1 x (Z1 hx)
 ·exact h2 x hx
 ·exact h1 x (A2b hx)
theorem B9r:∀{ps:List (Nat×Nat×B6)}{cs:List AV}{K:List AV->Prop},cs.all AV.isd=true->(ps.map λp=>B8 ρ p.2.2).all AV.isDB=true->O9 ρ ps cs K->O9 ρ ps cs λcs'=>cs'.all AV.isd=true/\K cs'
 |[],cs,K,h1,_,h=>⟨h1,h⟩
 |(off,n,x)::ps,cs,K,h1,h2,h=>by
  simp only[Q8,i6,L6] at h2
  unfold O9 at h ⊢
  split at h
  ·rename_i xs e
   exact⟨h.1,h.2.1,B9r (D2i h1 (C0b h2.1 e)) h2.2 h.2.2⟩
  ·exact h.elim
theorem B9t{K K':List AV->Prop}(hk:∀n,K n->K' n):∀{ps:List (Nat×Nat×B6)}{cs:List AV},O9 ρ ps cs K->O9 ρ ps cs K'
 |[],cs,h=>hk _ h
 |(off,n,x)::ps,cs,h=>by
  unfold O9 at h ⊢
  split at h
  ·exact⟨h.1,h.2.1,B9t hk h.2.2⟩
  ·exact h.elim
theorem D3z(l:List D):(l.map AV.d).all AV.isd=true:=by
 rw[O3]
 intro x hx
 obtain⟨y,_,rfl⟩:=D9.1 hx
 rfl
theorem D5s{op:IK}{R:List Nat}(ha:G9 ρ op=some (R,none)){os os2:List AO}(hl:∀i∈R,os2[i]?=os[i]?){K:AV->Prop}(h:A8 P ρ os (λr _=>K r) op):A8 P ρ os2 (λr _=>K r) op:=by
 have triv:op.rd=false->A8 P ρ os2 (λr _=>K r) op:=λhr=>by rw[C10 hr os];exact h
 cases op<;>first|exact triv rfl|skip
 case faddr a x=>simp only[G9] at ha;cases ha;exact B2c hl h
 case nilck x=>simp only[G9] at ha;cases ha;exact B2c hl h
 case ixarr a b x i=>
  simp only[G9] at ha;cases ha
  simp only[A8] at h ⊢
  split at h
  ·exact⟨h.1,h.2.1,B2c hl h.2.2⟩
  ·exact h.elim
 case eqnil a x=>
  simp only[G9] at ha;cases ha
  simp only[A8] at h ⊢
  split at h
  ·exact h
  ·exact h
  ·rename_i id len e;rw[hl id (by rw[e];simp[k8])];exact h
  ·exact h.elim
 case len x=>
  simp only[G9] at ha;cases ha
  simp only[A8] at h ⊢
  split at h
  ·exact h
  ·exact h
  ·rename_i id len e;rw[hl id (by rw[e];simp[k8])];exact h
  ·rename_i id len e;rw[hl id (by rw[e];simp[k8])];exact h
  ·exact h.elim
 case ixsl a x i=>
  simp only[G9] at ha;cases ha
  simp only[A8] at h ⊢
  split at h
  ·split at h
   ·exact h
   ·rename_i id len e;rw[hl id (by rw[e];simp[k8])];exact h
   ·rename_i id len e;rw[hl id (by rw[e];simp[k8])];exact h
   ·exact h.elim
  ·exact h.elim
 case load a b x=>
  simp only[G9] at ha;cases ha
  simp only[A8,V1] at h ⊢
  split at h
  ·rename_i id off e;rw[hl id (by rw[e];simp[k8])];exact h
  ·rename_i id len i off e;rw[hl id (by rw[e];simp[k8])];exact h
  ·rename_i id len i off e;rw[hl id (by rw[e];simp[k8])];exact h
  ·exact h
  ·exact h.elim
 case slsl sz x lo hi=>
  simp only[G9] at ha
  split at ha
  ·rename_i hd
   simp only[A8] at h ⊢
   rw[C1U (os2:=os) hd]
   exact h
  ·cases ha
 case lkup sk ok g zs m k=>
  simp only[G9] at ha
  split at ha
  ·rename_i id e
   cases ha
   simp only[A8] at h ⊢
   rw[e] at h ⊢
   split at h
   ·rename_i id' key e1 e2
    cases e1
    rw[hl id (by simp)]
    split at h
    ·rename_i kvs h3
     refine⟨h.1,?_⟩
     rcases h.2 with h|⟨e,sz,frz,ho,h⟩
     ·exact .inl h
     ·exact .inr ⟨e,sz,frz,by rw[hl (id+1) (by simp)];exact ho,h⟩
    ·exact h.elim
   ·exact h.elim
  ·cases ha
 case callp f args=>
  simp only[G9] at ha
  split at ha
  ·rename_i hd
   simp only[A8] at h ⊢
   split at h
   ·rw[A8E hd] at h ⊢
    exact⟨rfl,h.2⟩
   ·exact h.elim
  ·cases ha
 case bsld m sz zs ps=>
  simp only[G9] at ha
  split at ha
  ·rename_i hd
   simp only[A8] at h ⊢
   refine B9t (λcs hc=>?_) (B9r (D3z _) hd h)
   obtain⟨h1,h2⟩:=hc
   obtain⟨xs,_,h3⟩:=A8F h1
   rw[h3] at h2 ⊢
   exact⟨rfl,h2.2⟩
  ·cases ha
 all_goals (simp only[G9] at ha;repeat' (first|(cases ha;done)|(simp[IK.rd] at ha;done)|split at ha))
theorem D5t{op:IK}{R:List Nat}{w:Nat}(ha:G9 ρ op=some (R,some w)){os:List AO}{K:AV->List AO->Prop}(h:A8 P ρ os K op) :
  ∃r o',K r (os.set w o')/\∀os2:List AO,(∀i∈R,os2[i]?=os[i]?)->os2[w]?=os[w]?->∀K':AV->List AO->Prop,K' r (os2.set w o')->A8 P ρ os2 K' op:=by
 cases op<;>first|(simp[G9,IK.rd] at ha;done)|skip
 case lkup sk ok g zs m k=>
  simp only[G9] at ha
  split at ha
  ·cases ha
  ·cases ha
 case store m x v=>
  simp only[G9] at ha
  simp only[A8,A1p] at h ⊢
  split at h
  ·exact h.elim
  ·rename_i vc hvc
   split at ha
   ·rename_i id off e
    cases ha
    rw[e] at h
    simp only at h
    split at h
    ·rename_i cs hid
     obtain⟨h1,h2,h3⟩:=h
     refine⟨_,_,h3,λos2 _ hw K' hk=>?_⟩
     rw[e]
     simp only[hw,hid]
     exact⟨h1,h2,hk⟩
    ·exact h.elim
   ·rename_i id len i off e
    split at ha
    ·rename_i hd
     cases ha
     obtain⟨xs,_,h3⟩:=A8F (C0b hd hvc)
     rw[e] at h
     simp only[h3] at h
     split at h
     ·rename_i es sz frz nl hid
      obtain⟨h1,h2,h4,h5,h6,h7,h8⟩:=h
      refine⟨_,_,h8,λos2 _ hw K' hk=>?_⟩
      rw[e]
      simp only[h3,hw,hid]
      exact⟨h1,h2,h4,h5,h6,h7,hk⟩
     ·exact h.elim
    ·cases ha
   ·cases ha
 case app sz by_ s x=>
  simp only[G9] at ha
  split at ha
  ·rename_i id len e
   cases ha
   simp only[A8] at h ⊢
   have key:∀ns,A0u os sz by_ (B8 ρ s) ns K->∃r o',K r (os.set w o')/\∀os2:List AO,os2[w]?=os[w]?->∀K':AV->List AO->Prop,K' r (os2.set w o')->A0u os2 sz by_ (B8 ρ s) ns K':=by
    intro ns h
    rw[e] at h ⊢
    simp only[A0u] at h ⊢
    split at h
    ·rename_i es sz' frz nl hid
     obtain⟨h1,h2,h3,h4,h5,h6⟩:=h
     refine⟨_,_,h6,λos2 hw K' hk=>?_⟩
     simp only[hw,hid]
     exact⟨h1,h2,h3,h4,h5,hk⟩
    ·exact h.elim
   split at h
   ·rename_i id2 len2 ex
    split at h
    ·obtain⟨_,_,h⟩:=h
     rw[e] at h
     exact h.elim
    ·exact h.elim
   unfold j9 at h
   split at h
   ·rename_i ex
    obtain⟨r,o',h1,h2⟩:=key _ h
    exact⟨r,o',h1,λos2 hl hw K' hk=>by rw[ex];simp only[j9];exact h2 os2 hw K' hk⟩
   ·rename_i es ex
    obtain⟨r,o',h1,h2⟩:=key _ h
    exact⟨r,o',h1,λos2 hl hw K' hk=>by rw[ex];simp only[j9];exact h2 os2 hw K' hk⟩
   ·rename_i id2 len2 ex
    split at h
    ·rename_i es sz2 frz nl hid2
     obtain⟨h0,h⟩:=h
     obtain⟨r,o',h1,h2⟩:=key _ h
     refine⟨r,o',h1,λos2 hl hw K' hk=>?_⟩
     rw[ex]
     simp only[j9]
     rw[hl id2 (by rw[ex];simp[k8]),hid2]
     exact⟨h0,h2 os2 hw K' hk⟩
    ·exact h.elim
   ·exact h.elim
  ·rename_i id len e
   cases ha
   simp only[A8] at h ⊢
   split at h
   ·rename_i id2 len2 ex
    split at h
    ·rename_i ns sz2 hid2
     obtain⟨h0,h00,h⟩:=h
     rw[e] at h
     simp only[A14] at h
     split at h
     ·rename_i es sz' nl hid
      obtain⟨h1,h2,h3,h4,h5,h6⟩:=h
      refine⟨_,_,h6,λos2 hl hw K' hk=>?_⟩
      rw[hl id2 (by rw[ex];simp[k8]),hid2]
      refine⟨h0,h00,?_⟩
      rw[e]
      simp only[A14,hw,hid]
      exact⟨h1,h2,h3,h4,h5,hk⟩
     ·exact h.elim
    ·exact h.elim
   ·exfalso
    rw[e] at h
    unfold j9 at h
    split at h
    ·exact h
    ·exact h
    ·split at h
     ·exact h.2
     ·exact h
    ·exact h
  ·cases ha
 case mupd sk m k v=>
  simp only[G9] at ha
  split at ha
  ·rename_i id e
   cases ha
   simp only[A8] at h ⊢
   rw[e] at h ⊢
   split at h
   ·rename_i id' key e1 e2
    cases e1
    split at h
    ·rename_i kvs hid
     refine⟨_,_,h.2.2,λos2 _ hw K' hk=>?_⟩
     rw[hw,hid]
     exact⟨h.1,h.2.1,hk⟩
    ·exact h.elim
   ·exact h.elim
  ·cases ha
 case alloca id zs=>
  simp only[G9] at ha;cases ha
  simp only[A8] at h ⊢
  split at h
  ·rename_i hid
   exact⟨_,_,h,λos2 _ hw K' hk=>by rw[hw,hid];exact hk⟩
  ·exact h.elim
 case boxa id m x=>
  simp only[G9] at ha;cases ha
  simp only[A8] at h ⊢
  split at h
  ·rename_i xs hid hxs
   exact⟨_,_,h.2,λos2 _ hw K' hk=>by rw[hw,hid,hxs];exact⟨h.1,hk⟩⟩
  ·exact h.elim
 case calln id f args=>
  simp only[G9] at ha
  split at ha
  ·rename_i hd
   cases ha
   simp only[A8] at h ⊢
   split at h
   ·rw[A8E hd] at h
    obtain⟨_,hid,es,sz,nl,h1,h2⟩:=h
    refine⟨_,_,h2,λos2 _ hw K' hk=>?_⟩
    rw[A8E hd]
    exact⟨rfl,by rw[hw];exact hid,es,sz,nl,h1,hk⟩
   ·exact h.elim
  ·cases ha
 case bslr id n sz zs ps=>
  simp only[G9] at ha;cases ha
  simp only[A8] at h ⊢
  obtain⟨cs,h1,h2⟩:=A4G h
  split at h1
  ·rename_i hid
   exact⟨_,_,h1,λos2 _ hw K' hk=>h2 _ (by rw[hw,hid];exact hk)⟩
  ·exact h1.elim
def A0m(ρ:C5)(o:D0)(t:O2):Prop:=gI ρ o.guard (G9 ρ o.op=some t) True
def A4A(a b:O2):Bool:=(match a.2 with|some w=>!(b.1.contains w)&&b.2 != some w|none=>true)&&(match b.2 with|some w=>!(a.1.contains w)|none=>true)
def A64(ps:List (Nat×Nat))(T:List O2):Bool:=ps.all λp=>match T[p.1]?,T[p.2]? with
 |some a,some b=>A4A a b
 |_,_=>false
def A41(P:Program)(o:D0)(t:O2)(ρ:C5)(os:List AO)(K:C5->List AO->Prop):Prop:=A0m ρ o t/\n9 P o ρ os K
def Y7(P:Program)(is:List D0)(T:List O2):List Nat->C5->List AO->(C5->List AO->Prop)->Prop
 |[],ρ,os,K=>K ρ os
 |i::l,ρ,os,K=>match is[i]?,T[i]? with
  |some o,some t=>A41 P o t ρ os λρ' os'=>Y7 P is T l ρ' os' K
  |_,_=>False
theorem C16{is:List D0}{T:List O2}{K:C5->List AO->Prop}(hd:∀o∈is,o.op.det=true):∀{l:List Nat}{ρ:C5}{os:List AO},Y7 P is T l ρ os K->Z8 P is l ρ os K
 |[],ρ,os,h=>h
 |i::l,ρ,os,h=>by
  simp only[Y7,Z8] at h ⊢
  split at h
  ·rename_i o t ho _
   rw[ho]
   exact A9b (hd o (B9 ho)) (λρ' os' hh=>C16 hd hh) h.2
  ·exact h.elim
theorem B2j{o:D0}{t:O2}(hd:o.op.det=true){K K':C5->List AO->Prop}(hk:∀ρ os,K ρ os->K' ρ os)(h:A41 P o t ρ os K):A41 P o t ρ os K':=⟨h.1,A9b hd hk h.2⟩
theorem C17{is:List D0}{T:List O2}{K K':C5->List AO->Prop}(hd:∀o∈is,o.op.det=true)(hk:∀ρ os,K ρ os->K' ρ os):∀{l:List Nat}{ρ:C5}{os:List AO},Y7 P is T l ρ os K->Y7 P is T l ρ os K'
 |[],ρ,os,h=>hk _ _ h
 |i::l,ρ,os,h=>by
  simp only[Y7] at h ⊢
  split at h
  ·rename_i o t ho _
   exact B2j (hd o (B9 ho)) (λρ' os' hh=>C17 hd hk hh) h
  ·exact h.elim
theorem C14{is:List D0}{T:List O2}{K:C5->List AO->Prop}{p:Prop}(hd:∀o∈is,o.op.det=true)(hk:∀ρ os,K ρ os->p):∀{l:List Nat}{ρ:C5}{os:List AO},Y7 P is T l ρ os K->p
 |[],ρ,os,h=>hk _ _ h
 |i::l,ρ,os,h=>by
  simp only[Y7] at h
  split at h
  ·rename_i o t ho _
   obtain⟨r,os',_,h2,_⟩:=A51 (hd o (B9 ho)) h.2
   exact C14 hd hk h2
  ·exact h.elim
theorem A0m.upd{o:D0}{d:Option Nat}{r:AV}{t:O2}(hl:∀t,d=some t->t∉ o.looks):A0m (updo d r ρ) o t=A0m ρ o t:=by
 have h1:G9 (updo d r ρ) o.op=G9 ρ o.op:=D2g o.op λx hx=>B9k λt ht hm=>hl t ht (by
  unfold D0.looks
  exact List.mem_append_right _ (A4g.2 ⟨x,hx,hm⟩))
 unfold A0m
 simp only[h1]
 unfold gI
 cases hg:o.guard with
 |none=>rfl
 |some tw=>
  obtain⟨t,want⟩:=tw
  have:Bi.updo d r ρ t=ρ t:=by
   cases d with
   |none=>rfl
   |some s=>
    have:t≠s:=λe=>hl s rfl (by unfold D0.looks;rw[hg];simp[e])
    simp[Bi.updo,Bi.upd,this]
  simp only[this]
theorem M4.loc{o:D0}{t:O2}{r:AV}{os os':List AO}(hd:o.op.det=true)(ha:A0m ρ o t)(g:M4 P o ρ os r os') :
  (os'=os/\∀os2:List AO,(∀i∈t.1,os2[i]?=os[i]?)->M4 P o ρ os2 r os2)\/
  ∃w o',t.2=some w/\os'=os.set w o'/\∀os2:List AO,(∀i∈t.1,os2[i]?=os[i]?)->os2[w]?=os[w]?->M4 P o ρ os2 r (os2.set w o'):=by
 have main:G9 ρ o.op=some t->(∀K:AV->List AO->Prop,K r os'->A8 P ρ os K o.op)->
   (os'=os/\∀os2:List AO,(∀i∈t.1,os2[i]?=os[i]?)->∀K:AV->List AO->Prop,K r os2->A8 P ρ os2 K o.op)\/
   ∃w o',t.2=some w/\os'=os.set w o'/\∀os2:List AO,(∀i∈t.1,os2[i]?=os[i]?)->os2[w]?=os[w]?->∀K:AV->List AO->Prop,K r (os2.set w o')->A8 P ρ os2 K o.op:=by
  intro ha g
  obtain⟨R,W⟩:=t
  cases W with
  |none=>
   refine .inl ⟨?_,λos2 hl K hk=>?_⟩
   ·have h1:=g (λ_ os2=>os2=os') rfl
    rw[B8c ha] at h1
    obtain⟨_,_,h2,_⟩:=A6K hd h1
    exact h2.symm
   ·rw[B8c ha]
    exact D5s ha hl (g (λr' _=>K r' os2) hk)
  |some w=>
   obtain⟨r0,o',⟨h1,h2⟩,h3⟩:=D5t ha (g (λr' os2=>r'=r/\os2=os') ⟨rfl,rfl⟩)
   subst h1
   exact .inr ⟨w,o',rfl,h2.symm,h3⟩
 unfold M4 gI at g
 unfold A0m gI at ha
 unfold M4 gI
 split at g
 ·rename_i hg
  rw[hg] at ha
  exact main ha g
 ·rename_i x want hg
  rw[hg] at ha
  simp only at ha
  split at g
  ·rename_i b hb
   rw[hb] at ha
   simp only at ha
   by_cases hbw:b=want
   ·have hn:¬b=!want:=by cases b<;>cases want<;>simp_all
    rcases main (ha.1 hbw) (g.1 hbw) with ⟨h1,h2⟩|⟨w,o',h1,h2,h3⟩
    ·exact .inl ⟨h1,λos2 hl=>⟨λ_=>h2 os2 hl,λe=>absurd e hn⟩⟩
    ·exact .inr ⟨w,o',h1,h2,λos2 hl hw=>⟨λ_=>h3 os2 hl hw,λe=>absurd e hn⟩⟩
   ·have hbn:b=!want:=by cases b<;>cases want<;>simp_all
    obtain⟨h1,h2⟩:=g.2 hbn
    exact .inl ⟨h2,λos2 _=>⟨λe=>absurd e hbw,λ_=>⟨h1,by first|rfl|trivial⟩⟩⟩
  ·rename_i hb
   exact .inl ⟨g.2,λos2 _=>⟨g.1,by first|rfl|trivial⟩⟩
  ·exact g.elim
theorem D3G{a b:O2}(h:A4A a b=true):(∀w,a.2=some w->w∉ b.1/\b.2≠some w)/\∀w,b.2=some w->w∉ a.1:=by
 unfold A4A at h
 simp only[L6] at h
 refine⟨λw hw=>?_,λw hw=>?_⟩
 ·have:=h.1
  rw[hw] at this
  simp at this
  exact this
 ·have:=h.2
  rw[hw] at this
  simpa using this
theorem D3n{x y:D0}{t1 t2:O2}{r s:AV}{os1 os2:List AO}(d1:x.op.det=true)(d2:y.op.det=true)(a1:A0m ρ x t1)(a2:A0m ρ y t2)(hdis:A4A t1 t2=true)
  (g1:M4 P x ρ os r os1) (g2:M4 P y ρ os1 s os2):∃os',M4 P y ρ os s os'/\M4 P x ρ os' r os2:=by
 obtain⟨q1,q2⟩:=D3G hdis
 rcases g1.loc d1 a1 with ⟨rfl,l1⟩|⟨wx,ox,e1,rfl,l1⟩
 ·refine⟨os2,g2,?_⟩
  rcases g2.loc d2 a2 with ⟨rfl,_⟩|⟨wy,oy,e2,rfl,_⟩
  ·exact g1
  ·exact l1 _ λi hi=>P3 (λe=>q2 wy e2 (by rw[e];exact hi))
 ·obtain⟨n1,n2⟩:=q1 wx e1
  rcases g2.loc d2 a2 with ⟨rfl,l2⟩|⟨wy,oy,e2,rfl,l2⟩
  ·refine⟨os,l2 os λi hi=>(P3 (λe=>n1 (by rw[e];exact hi))).symm,g1⟩
  ·have hne:wx≠wy:=λe=>n2 (by rw[e];exact e2)
   refine⟨os.set wy oy,l2 os (λi hi=>(P3 (λe=>n1 (by rw[e];exact hi))).symm) (P3 hne).symm,?_⟩
   have:=l1 (os.set wy oy) (λi hi=>P3 (λe=>q2 wy e2 (by rw[e];exact hi))) (P3 (o5 hne))
   rw[List.set_comm _ _ (o5 hne)] at this
   exact this
theorem D3m{x y:D0}(ha:x.apart y=true){r s:AV}{os1 os2:List AO}(w1:x.op.wr=false->os1=os)(w2:y.op.wr=false->os2=os1)(g1:M4 P x ρ os r os1)(g2:M4 P y ρ os1 s os2) :
  ∃os',M4 P y ρ os s os'/\M4 P x ρ os' r os2:=by
 obtain⟨d1,d2,h1,h2,h3,h4,h5⟩:=B0K ha
 by_cases hw1:x.op.wr=true
 ·have hr:=h4 hw1
  have hw2:y.op.wr=false:=by
   cases hq:y.op.wr with
   |false=>rfl
   |true=>rw[C2k _ hq] at hr;cases hr
  have:=w2 hw2
  subst this
  exact⟨os,g2.nord hr os,g1⟩
 ·have hw1:x.op.wr=false:=by simpa using hw1
  have:=w1 hw1
  subst this
  refine⟨os2,g2,?_⟩
  by_cases hw2:y.op.wr=true
  ·exact g1.nord (h5 hw2) os2
  ·have hw2:y.op.wr=false:=by simpa using hw2
   have:=w2 hw2
   subst this
   exact g1
theorem B8j{x y:D0}(h:x.apartS y=true):x.op.det=true/\y.op.det=true/\(∀t,x.dst=some t->t∉ y.looks)/\(∀t,x.dst=some t->y.dst≠some t)/\(∀t,y.dst=some t->t∉ x.looks):=by
 unfold D0.apartS at h
 simp only[L6] at h
 obtain⟨⟨⟨h1,h2⟩,h3⟩,h4⟩:=h
 refine⟨h1,h2,λt ht=>?_,λt ht=>?_,λt ht=>?_⟩
 ·rw[ht] at h3;simp at h3;exact h3.1
 ·rw[ht] at h3;simp at h3;exact h3.2
 ·rw[ht] at h4;simpa using h4
theorem D7t{x y:D0}{t1 t2:O2}(hs:x.apartS y=true)(hdis:A4A t1 t2=true\/x.apart y=true){K:C5->List AO->Prop}(h:A41 P x t1 ρ os λρ' os'=>A41 P y t2 ρ' os' K) :
  A41 P y t2 ρ os λρ' os'=>A41 P x t1 ρ' os' K:=by
 obtain⟨d1,d2,h1,h2,h3⟩:=B8j hs
 obtain⟨a1,h⟩:=h
 obtain⟨r,os1,g1,⟨a2,hA⟩,w1⟩:=A51 d1 h
 obtain⟨s,os2,g2,hB,w2⟩:=A51 d2 hA
 rw[A0m.upd h1] at a2
 rw[M4.upd h1] at g2
 have hcomm:updo y.dst s (updo x.dst r ρ)=updo x.dst r (updo y.dst s ρ):=(C2a h2).symm
 rw[hcomm] at hB
 have hc:∃os',M4 P y ρ os s os'/\M4 P x ρ os' r os2:=by
  rcases hdis with hd|hd
  ·exact D3n d1 d2 a1 a2 hd g1 g2
  ·exact D3m hd w1 w2 g1 g2
 obtain⟨os',k1,k2⟩:=hc
 refine⟨a2,k1.step ⟨by rw[A0m.upd h3];exact a1,?_⟩⟩
 refine M4.step (r:=r) ?_ hB
 rw[M4.upd h3]
 exact k2
theorem C15(is:List D0)(T:List O2){i:Nat}{o:D0}{t:O2}(hi:is[i]?=some o)(ht:T[i]?=some t)(K:C5->List AO->Prop):∀(l l':List Nat)(ρ:C5)(os:List AO),
  (∀j∈l,∃x s,is[j]?=some x/\T[j]?=some s/\x.apartS o=true/\(A4A s t=true\/x.apart o=true))->
  Y7 P is T (l++i::l') ρ os K->Y7 P is T (i::(l++l')) ρ os K
 |[],l',ρ,os,ha,h=>h
 |j::l,l',ρ,os,ha,h=>by
  obtain⟨x,s,hx,hs,hap,hdis⟩:=ha j (by simp)
  have ih:=λρ os=>C15 is T hi ht K l l' ρ os (λj hj=>ha j (by simp[hj]))
  simp only[A3n,Y7,hx,hs,hi,ht] at h ih ⊢
  exact D7t hap hdis (B2j (B8j hap).1 (λρ os hh=>ih ρ os hh) h)
theorem D6T{ops:Array Oper}{is:List D0}{ps:List (Nat×Nat)}{T:List O2}(hl:is.length=ops.size)(hT:T.length=is.length)(hd:A2U ops.toList is ps=true)(hp:A64 ps T=true)(K:C5->List AO->Prop) :
  ∀(fuel t:Nat) (listed:Array Bool) (ρ:C5) (os:List AO),listed.size=ops.size->(left ops.size listed).length<=fuel->
   (∀i,i<ops.size->listed.getD i true=true->∀j,((X1 [] ops.toList).getD i 0).testBit j=true->listed.getD j true=true)->
   Y7 P is T (left ops.size listed) ρ os K->Y7 P is T (Region.linearise.go .any ops fuel t listed []) ρ os K:=by
 unfold A2U at hd
 simp only[L6,O3,A1u] at hd
 obtain⟨⟨hd3,hd1⟩,hd2⟩:=hd
 have hback:∀i o e,ops[i]?=some o->e∈o.after.toList->Region.binds .any e=true->e.on<i:=by
  intro i o e ho he hb
  have hi:=(u4.1 ho).1
  have:=hd1 i (by simpa using hi)
  rw[show ops.toList[i]?=some o by simpa using ho] at this
  simp only[O3,A3i,Bool.not_eq_true',decide_eq_true_eq] at this
  rcases this e he with h|h
  ·exact h
  ·rw[hb] at h;cases h
 have hanc:∀i j,((X1 [] ops.toList).getD i 0).testBit j=true->∃o,ops[i]?=some o/\∃e∈o.after.toList,Region.binds .any e=true/\(e.on=j\/(e.on<i/\((X1 [] ops.toList).getD e.on 0).testBit j=true)):=by
  intro i j h
  obtain⟨o,ho,rest⟩:=(B0J (ops.toList) []).2.2 i j (R1 _) h
  exact⟨o,by simpa using ho,rest⟩
 intro fuel
 induction fuel with
 |zero=>
  intro t listed ρ os hs hf hc h
  have:left ops.size listed=[]:=List.eq_nil_of_length_eq_zero (by omega)
  rw[this] at h
  simpa[Region.linearise.go] using h
 |succ fuel ih=>
  intro t listed ρ os hs hf hc h
  simp only[Region.linearise.go]
  change Y7 P is T (match (Region.ready .any ops listed)[t % (Region.ready .any ops listed).length]? with
   |some i=>Region.linearise.go .any ops fuel (t / (Region.ready .any ops listed).length) (listed.setIfInBounds i true) [i]
   |none=>[].reverse) ρ os K
  cases hi:(Region.ready .any ops listed)[t % (Region.ready .any ops listed).length]? with
  |none=>
   have hnil:Region.ready .any ops listed=[]:=by
    cases hr:Region.ready .any ops listed with
    |nil=>rfl
    |cons x xs=>
     rw[hr] at hi
     have hlt:t % (x::xs).length<(x::xs).length:=Nat.mod_lt _ (by simp)
     rw[C3 hlt] at hi
     cases hi
   have hleft:left ops.size listed=[]:=by
    cases hq:left ops.size listed with
    |nil=>rfl
    |cons x xs=>
     exfalso
     -- the least place that is left is ready
     have hx:x∈left ops.size listed:=by rw[hq];simp
     obtain⟨l,l',e1,_,e3⟩:=A4N ops.size listed x hx hs
     have hl0:l=[]:=by
      rw[hq] at e1
      cases l with
      |nil=>rfl
      |cons y ys=>
       have:=(e3 y (by simp)).1
       injection e1 with e4 _
       omega
     obtain⟨hx1,hx2⟩:=A1S.1 hx
     have:x∈Region.ready .any ops listed:=by
      unfold Region.ready
      rw[v6]
      refine⟨A1u.2 hx1,?_⟩
      simp only[hx2,Bool.not_false,Y9]
      rw[J4 hx1]
      simp only[A10,l9,A9t]
      intro e he
      by_cases hb:Region.binds .any e=true
      ·have hlt:=hback x _ e (J4 hx1) (by simpa using he) hb
       have hnl:listed.getD e.on true=true:=by
        by_cases hq2:listed.getD e.on true=true
        ·exact hq2
        ·have hm:e.on∈left ops.size listed:=A1S.2 ⟨by omega,by simpa using hq2⟩
         rw[e1,hl0] at hm
         simp only[A1v] at hm
         -- everything left is at least x
         exfalso
         have hsorted:∀y∈left ops.size listed,x<=y:=by
          intro y hy
          obtain⟨l2,l2',f1,_,f3⟩:=A4N ops.size listed y hy hs
          rw[hq] at f1
          cases l2 with
          |nil=>injection f1 with f4 _;omega
          |cons z zs=>
           injection f1 with f4 _
           have:=(f3 z (by simp)).1
           omega
         have:=hsorted e.on (by rw[e1,hl0];exact hm)
         omega
       have hlt2:e.on<listed.size:=by omega
       simp[hb]
       simpa[hlt2] using hnl
      ·simp[hb]
     rw[hnil] at this
     cases this
   rw[hleft] at h
   simpa using h
  |some i=>
   have hready:=B9 hi
   dsimp only
   rw[linearise_go_acc,List.reverse_singleton,List.singleton_append]
   unfold Region.ready at hready
   rw[v6] at hready
   obtain⟨hr1,hr2⟩:=hready
   have hil:=A1u.1 hr1
   rw[L6,J4 hil] at hr2
   obtain⟨hr2,hr3⟩:=hr2
   have hun:listed.getD i true=false:=by simpa using hr2
   have hafter:∀e∈(ops[i]).after.toList,Region.binds .any e=true->listed.getD e.on true=true:=by
    intro e he hb
    simp only[A10,l9,A9t] at hr3
    have:=hr3 e (by simpa using he)
    simp only[hb,Bool.not_true,Bool.false_or] at this
    have hlt:=hback i _ e (J4 hil) he hb
    have hlt2:e.on<listed.size:=by omega
    simpa[hlt2] using this
   have hmem:i∈left ops.size listed:=A1S.2 ⟨hil,hun⟩
   obtain⟨l,l',e1,e2,e3⟩:=A4N ops.size listed i hmem hs
   have hio:is[i]?=some (is[i]'(by omega)):=C3 (by omega)
   rw[e1] at h
   have hanci:∀j,((X1 [] ops.toList).getD i 0).testBit j=true->listed.getD j true=true:=by
    intro j hj
    obtain⟨o,ho,e,he,hb,hcase⟩:=hanc i j hj
    rw[J4 hil] at ho
    cases ho
    have hle:=hafter e he hb
    rcases hcase with rfl|⟨hlt,hb2⟩
    ·exact hle
    ·exact hc e.on (by omega) hle j hb2
   have hTo:T[i]?=some (T[i]'(by omega)):=C3 (by omega)
   have h:=C15 is T hio hTo K l l' ρ os (λj hj=>by
    obtain⟨hji,hjl⟩:=e3 j hj
    obtain⟨hj1,hj2⟩:=A1S.1 hjl
    refine⟨is[j]'(by omega),T[j]'(by omega),C3 (by omega),C3 (by omega),?_⟩
    have:=hd2 i (by omega) j hji
    simp only[A3i,L6] at this
    rcases this with h1|⟨h1,h2⟩
    ·have:=hanci j h1
     rw[hj2] at this
     cases this
    ·have e1:is.getD i default=is[i]'(by omega):=by simp[E8,C3 (show i<is.length by omega)]
     have e2:is.getD j default=is[j]'(by omega):=by simp[E8,C3 (show j<is.length by omega)]
     rw[e1,e2] at h1 h2
     refine⟨h1,?_⟩
     rcases h2 with h2|h2
     ·refine .inl ?_
      have:=O3.1 hp (j,i) (by simpa using h2)
      simpa[C3 (show i<T.length by omega),C3 (show j<T.length by omega)] using this
     ·exact .inr h2) h
   simp only[Y7,hio,hTo] at h ⊢
   have hdet:(is[i]'(by omega)).op.det=true:=hd3 _ (A2a _)
   refine B2j hdet (λρ' os' hh=>?_) h
   refine ih _ (listed.setIfInBounds i true) ρ' os' (by simpa using hs) ?_ (λk hk hkl j hj=>?_) (by rw[e2];exact hh)
   ·rw[e2]
    rw[e1] at hf
    simp at hf ⊢
    omega
   ·by_cases hki:k=i
    ·subst hki
     have:=hanci j hj
     by_cases hji:j=k
     ·subst hji
      simp[show j<listed.size by omega]
     ·rw[show(listed.setIfInBounds k true).getD j true=listed.getD j true by simp[A0T (o5 hji)]]
      exact this
    ·rw[show(listed.setIfInBounds i true).getD k true=listed.getD k true by simp[A0T (o5 hki)]] at hkl
     have:=hc k hk hkl j hj
     by_cases hji:j=i
     ·subst hji
      simp[show j<listed.size by omega]
     ·rw[show(listed.setIfInBounds i true).getD j true=listed.getD j true by simp[A0T (o5 hji)]]
      exact this
end
end Go.Bi
