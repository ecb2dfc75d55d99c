/- The operations of a region that touch objects, in any order that their edges allow: the objects are told apart at the run. No condition. -/
import Derived.Test.YtfnaleemmeejcaaGreatBN
set_option linter.unusedVariables false
set_option linter.unusedSimpArgs false
namespace Go.Bi
set_option linter.unusedSectionVars false
variable [N0]
section
variable {P:Program}{os:List AO}{ρ:D5}
abbrev P3:=List Nat×Option Nat
def A50:AV->List Nat
 |.aptr id _ _ _=>[id]
 |.rp id _ _ _=>[id]
 |_=>[]
def r7:AV->List Nat
 |.ptr id _=>[id]
 |.aptr id _ _ _=>[id]
 |.arr id _=>[id]
 |.rs id _=>[id]
 |.rp id _ _ _=>[id]
 |_=>[]
def I7(ρ:D5):IK->Option P3
 |.faddr _ x=>some (A50 (C0 ρ x),none)
 |.nilck x=>some (A50 (C0 ρ x),none)
 |.ixarr _ _ x _=>some (A50 (C0 ρ x),none)
 |.eqnil _ x=>some (r7 (C0 ρ x),none)
 |.len x=>some (r7 (C0 ρ x),none)
 |.ixsl _ x _=>some (r7 (C0 ρ x),none)
 |.load _ _ x=>some (r7 (C0 ρ x),none)
 |.store _ x v=>match C0 ρ x with
  |.ptr id _=>some ([],some id)
  |.aptr id _ _ _=>if (C0 ρ v).isDB then some ([],some id) else none
  |_=>none
 |.app _ _ s x=>match C0 ρ s with
  |.arr id _=>some (r7 (C0 ρ x),some id)
  |.rs id _=>some (r7 (C0 ρ x),some id)
  |_=>none
 |.alloca id _=>some ([],some id)
 |.boxa id _ _=>some ([],some id)
 |.calln id _ args=>if (args.map (C0 ρ)).all AV.isDB then some ([],some id) else none
 |.bslr id _ _ _ _=>some ([],some id)
 |.callo _ args=>match args.map (C0 ρ) with
  |.arr id _::as=>if as.all AV.isDB then some ([],some id) else none
  |as=>if as.all AV.isDB then some ([],none) else none
 |.callp _ args=>match args.map (C0 ρ) with
  |.ptr id _::as=>if as.all AV.isDB then some ([id],none) else none
  |as=>if as.all AV.isDB then some ([],none) else none
 |.bsld _ _ _ ps=>if (ps.map λp=>C0 ρ p.2.2).all AV.isDB then some ([],none) else none
 |.slsl _ x _ _=>if (C0 ρ x).isDB then some ([],none) else none
 |.lkup _ _ _ _ m _=>match C0 ρ m with
  |.mp id=>some ([id,id+1],none)
  |_=>none
 |.mupd _ m _ _=>match C0 ρ m with
  |.mp id=>some ([],some id)
  |_=>none
 |op=>if op.rd then none else some ([],none)
theorem C3J{sz:Nat}{v:AV}{lo hi:Option C1}{os2:List AO}{K:AV->List AO->Prop}(hd:v.isDB=true):slI ρ os sz v lo hi K=slI ρ os2 sz v lo hi (λr _=>K r os):=by
 cases v with
 |d x=>cases x<;>rfl
 |agg cs=>rfl
 |_=>cases hd
theorem B9Y{op:IK}{R:List Nat}(h:I7 ρ op=some (R,none))(K:AV->List AO->Prop):A7 P ρ os K op=A7 P ρ os (λr _=>K r os) op:=by
 by_cases hs:∃sz x lo hi,op=.slsl sz x lo hi
 ·obtain⟨sz,x,lo,hi,rfl⟩:=hs
  simp only[I7] at h
  split at h
  ·rename_i hd
   exact C3J hd
  ·cases h
 ·by_cases hc:∃f args,op=.callo f args
  ·obtain⟨f,args,rfl⟩:=hc
   simp only[I7] at h
   split at h
   ·split at h<;>cases h
   ·rename_i hne
    cases hv:args.map (C0 ρ) with
    |nil=>simp only[A7,hv]
    |cons v as=>
     cases v with
     |arr id len=>exact absurd hv (hne id len as)
     |_=>simp only[A7,hv]
  refine B2D ?_ K
  cases op<;>first|rfl|skip
  case slsl sz x lo hi=>exact absurd ⟨sz,x,lo,hi,rfl⟩ hs
  case callo f args=>exact absurd ⟨f,args,rfl⟩ hc
  all_goals (simp only[I7] at h;repeat' (first|(cases h;done)|(simp[IK.rd] at h;done)|split at h))
theorem D4q{ρ ρ':D5}(op:IK)(h:∀x∈op.opds,C0 ρ x=C0 ρ' x):I7 ρ op=I7 ρ' op:=by
 cases op<;>first|rfl|skip
 case faddr a x=>simp only[I7,h x (by simp[IK.opds])]
 case nilck x=>simp only[I7,h x (by simp[IK.opds])]
 case ixarr a b x i=>simp only[I7,h x (by simp[IK.opds])]
 case eqnil a x=>simp only[I7,h x (by simp[IK.opds])]
 case len x=>simp only[I7,h x (by simp[IK.opds])]
 case ixsl a x i=>simp only[I7,h x (by simp[IK.opds])]
 case load a b x=>simp only[I7,h x (by simp[IK.opds])]
 case store a x v=>simp only[I7,h x (by simp[IK.opds]),h v (by simp[IK.opds])]
 case app a b s x=>simp only[I7,h s (by simp[IK.opds]),h x (by simp[IK.opds])]
 case slsl sz x lo hi=>simp only[I7,h x (by simp[IK.opds])]
 case lkup sk ok g zs m k=>simp only[I7,h m (by simp[IK.opds])]
 case mupd sk m k v=>simp only[I7,h m (by simp[IK.opds])]
 case callp f args=>
  have:args.map (C0 ρ)=args.map (C0 ρ'):=P5 λy hy=>h y (by simp[IK.opds,hy])
  simp only[I7,this]
 case calln id f args=>
  have:args.map (C0 ρ)=args.map (C0 ρ'):=P5 λy hy=>h y (by simp[IK.opds,hy])
  simp only[I7,this]
 case callo f args=>
  have:args.map (C0 ρ)=args.map (C0 ρ'):=P5 λy hy=>h y (by simp[IK.opds,hy])
  simp only[I7,this]
 case bsld a b c ps=>
  have:(ps.map λp=>C0 ρ p.2.2)=ps.map λp=>C0 ρ' p.2.2:=P5 λy hy=>h y.2.2 (by simp[IK.opds];exact⟨_,_,hy⟩)
  simp only[I7,this]
theorem B35{os os2:List AO}{d:Nat}{x:AV}{K:AV->Prop}(hl:∀i∈A50 x,os2[i]?=os[i]?)(h:k8 os d x K):k8 os2 d x K:=by
 unfold k8 at h ⊢
 cases x with
 |aptr id l i o=>simp only at h ⊢;rw[hl id (by simp[A50])];exact h
 |_=>exact h
theorem D6M{os:List AO}{c:AV}(h:c.isd=true):∃x,c=.d x/\A0Y os c=some (x,os):=by
 cases c with
 |d x=>exact⟨x,rfl,rfl⟩
 |_=>cases h
theorem A9a:∀{cs:List AV},cs.all AV.isd=true->∃xs:List D,cs=xs.map .d/\∀os,n5 os cs=some (xs,os)
 |[],_=>⟨[],rfl,λ_=>rfl⟩
 |c::cs,h=>by
  simp only[A1l,K7] at h
  obtain⟨xs,h1,h2⟩:=A9a h.2
  obtain⟨x,rfl,_⟩:=D6M (os:=[]) h.1
  exact⟨x::xs,by rw[h1];rfl,λos=>by simp only[n5,A0Y,h2]⟩
theorem D6H{c:AV}(h:c.isDB=true)(os:List AO):A0Z os c=some (c,os):=by
 cases c with
 |d x=>rfl
 |agg cs=>
  obtain⟨xs,rfl,h2⟩:=A9a (show cs.all AV.isd=true from h)
  simp only[A0Z,h2]
 |_=>cases h
theorem A5r:∀{cs:List AV},cs.all AV.isDB=true->∀os,Z5 os cs=some (cs,os)
 |[],_,os=>rfl
 |c::cs,h,os=>by
  simp only[A1l,K7] at h
  simp only[Z5,D6H h.1,A5r h.2]
theorem C28{c:AV}{vc:List AV}(h:c.isDB=true)(hc:c.cells=some vc):vc.all AV.isd=true:=by
 cases c with
 |d x=>simp only[AV.cells] at hc;cases hc;rfl
 |agg cs=>simp only[AV.cells] at hc;cases hc;exact h
 |_=>cases h
theorem D4v{cs vc:List AV}{off:Nat}(h1:cs.all AV.isd=true)(h2:vc.all AV.isd=true):(I6 cs off vc).all AV.isd=true:=by
 rw[L7] at *
 intro x hx
 unfold I6 at hx
 simp only[K8] at hx
 rcases hx with (hx|hx)|hx
 ·exact h1 x (A39 hx)
 ·exact h2 x hx
 ·exact h1 x (A2A hx)
theorem C1x:∀{ps:List (Nat×Nat×C1)}{cs:List AV}{K:List AV->Prop},cs.all AV.isd=true->(ps.map λp=>C0 ρ p.2.2).all AV.isDB=true->Q5 ρ ps cs K->Q5 ρ ps cs λcs'=>cs'.all AV.isd=true/\K cs'
 |[],cs,K,h1,_,h=>⟨h1,h⟩
 |(off,n,x)::ps,cs,K,h1,h2,h=>by
  simp only[H5,A1l,K7] at h2
  unfold Q5 at h ⊢
  split at h
  ·rename_i xs e
   exact⟨h.1,h.2.1,C1x (D4v h1 (C28 h2.1 e)) h2.2 h.2.2⟩
  ·exact h.elim
theorem C1z{K K':List AV->Prop}(hk:∀n,K n->K' n):∀{ps:List (Nat×Nat×C1)}{cs:List AV},Q5 ρ ps cs K->Q5 ρ ps cs K'
 |[],cs,h=>hk _ h
 |(off,n,x)::ps,cs,h=>by
  unfold Q5 at h ⊢
  split at h
  ·exact⟨h.1,h.2.1,C1z hk h.2.2⟩
  ·exact h.elim
theorem D5y(l:List D):(l.map AV.d).all AV.isd=true:=by
 rw[L7]
 intro x hx
 obtain⟨y,_,rfl⟩:=D7.1 hx
 rfl
theorem D7w{op:IK}{R:List Nat}(ha:I7 ρ op=some (R,none)){os os2:List AO}(hl:∀i∈R,os2[i]?=os[i]?){K:AV->Prop}(h:A7 P ρ os (λr _=>K r) op):A7 P ρ os2 (λr _=>K r) op:=by
 have triv:op.rd=false->A7 P ρ os2 (λr _=>K r) op:=λhr=>by rw[C2V hr os];exact h
 cases op<;>first|exact triv rfl|skip
 case faddr a x=>simp only[I7] at ha;cases ha;exact B35 hl h
 case nilck x=>simp only[I7] at ha;cases ha;exact B35 hl h
 case ixarr a b x i=>
  simp only[I7] at ha;cases ha
  simp only[A7] at h ⊢
  split at h
  ·exact⟨h.1,h.2.1,B35 hl h.2.2⟩
  ·exact h.elim
 case eqnil a x=>
  simp only[I7] at ha;cases ha
  simp only[A7] at h ⊢
  split at h
  ·exact h
  ·exact h
  ·rename_i id len e;rw[hl id (by rw[e];simp[r7])];exact h
  ·exact h.elim
 case len x=>
  simp only[I7] at ha;cases ha
  simp only[A7] at h ⊢
  split at h
  ·exact h
  ·exact h
  ·rename_i id len e;rw[hl id (by rw[e];simp[r7])];exact h
  ·rename_i id len e;rw[hl id (by rw[e];simp[r7])];exact h
  ·exact h.elim
 case ixsl a x i=>
  simp only[I7] at ha;cases ha
  simp only[A7] at h ⊢
  split at h
  ·split at h
   ·exact h
   ·rename_i id len e;rw[hl id (by rw[e];simp[r7])];exact h
   ·rename_i id len e;rw[hl id (by rw[e];simp[r7])];exact h
   ·exact h.elim
  ·exact h.elim
 case load a b x=>
  simp only[I7] at ha;cases ha
  simp only[A7,Y5] at h ⊢
  split at h
  ·rename_i id off e;rw[hl id (by rw[e];simp[r7])];exact h
  ·rename_i id len i off e;rw[hl id (by rw[e];simp[r7])];exact h
  ·rename_i id len i off e;rw[hl id (by rw[e];simp[r7])];exact h
  ·exact h
  ·exact h.elim
 case slsl sz x lo hi=>
  simp only[I7] at ha
  split at ha
  ·rename_i hd
   simp only[A7] at h ⊢
   rw[C3J (os2:=os) hd]
   exact h
  ·cases ha
 case lkup sk ok g zs m k=>
  simp only[I7] at ha
  split at ha
  ·rename_i id e
   cases ha
   simp only[A7] at h ⊢
   rw[e] at h ⊢
   split at h
   ·rename_i id' key e1 e2
    cases e1
    rw[hl id (by simp)]
    split at h
    ·rename_i kvs h3
     refine⟨h.1,?_⟩
     rcases h.2 with h|⟨e,sz,frz,ho,h⟩
     ·exact .inl h
     ·exact .inr ⟨e,sz,frz,by rw[hl (id+1) (by simp)];exact ho,h⟩
    ·exact h.elim
   ·exact h.elim
  ·cases ha
 case callo f args=>
  simp only[I7] at ha
  split at ha
  ·split at ha<;>cases ha
  ·rename_i hne
   split at ha
   ·rename_i hd
    cases ha
    have key:∀os:List AO,A7 P ρ os (λr _=>K r) (.callo f args)=match C0 ρ f with
     |.d (.fn g)=>match Z5 os (args.map (C0 ρ)) with
      |some (as,os1)=>os1=os/\∃r,B9 P g as [] (λr' os2=>r'=r/\os2=[])/\K r
      |none=>False
     |_=>False:=λos=>by
     cases hv:args.map (C0 ρ) with
     |nil=>simp only[A7,hv];rfl
     |cons v as=>
      cases v with
      |arr id len=>exact absurd hv (hne id len as)
      |_=>simp only[A7,hv];rfl
    rw[key] at h ⊢
    rw[A5r hd] at h ⊢
    split at h
    ·exact⟨rfl,h.2⟩
    ·exact h.elim
   ·cases ha
 case callp f args=>
  simp only[I7] at ha
  split at ha
  ·rename_i id off as hv
   split at ha
   ·rename_i hd
    cases ha
    simp only[A7] at h ⊢
    rw[hv] at h ⊢
    split at h
    ·rcases h with h|h
     ·have:Z5 os (.ptr id off::as)=none:=rfl
      rw[this] at h
      exact h.elim
     ·refine Or.inr ?_
      simp only[hl id (by simp)]
      exact h
    ·exact h.elim
   ·cases ha
  ·rename_i hne
   split at ha
   ·rename_i hd
    simp only[A7] at h ⊢
    split at h
    ·rcases h with h|h
     ·refine Or.inl ?_
      rw[A5r hd] at h ⊢
      exact⟨rfl,h.2⟩
     ·exact h.elim
    ·exact h.elim
   ·cases ha
 case bsld m sz zs ps=>
  simp only[I7] at ha
  split at ha
  ·rename_i hd
   simp only[A7] at h ⊢
   refine C1z (λcs hc=>?_) (C1x (D5y _) hd h)
   obtain⟨h1,h2⟩:=hc
   obtain⟨xs,_,h3⟩:=A9a h1
   rw[h3] at h2 ⊢
   exact⟨rfl,h2.2⟩
  ·cases ha
 all_goals (simp only[I7] at ha;repeat' (first|(cases ha;done)|(simp[IK.rd] at ha;done)|split at ha))
theorem D7x{op:IK}{R:List Nat}{w:Nat}(ha:I7 ρ op=some (R,some w)){os:List AO}{K:AV->List AO->Prop}(h:A7 P ρ os K op) :
  ∃r o',K r (os.set w o')/\∀os2:List AO,(∀i∈R,os2[i]?=os[i]?)->os2[w]?=os[w]?->∀K':AV->List AO->Prop,K' r (os2.set w o')->A7 P ρ os2 K' op:=by
 cases op<;>first|(simp[I7,IK.rd] at ha;done)|skip
 case lkup sk ok g zs m k=>
  simp only[I7] at ha
  split at ha
  ·cases ha
  ·cases ha
 case callp f args=>
  simp only[I7] at ha
  split at ha
  ·split at ha<;>cases ha
  ·split at ha<;>cases ha
 case store m x v=>
  simp only[I7] at ha
  simp only[A7,A1O] at h ⊢
  split at h
  ·exact h.elim
  ·rename_i vc hvc
   split at ha
   ·rename_i id off e
    cases ha
    rw[e] at h
    simp only at h
    split at h
    ·rename_i cs hid
     obtain⟨h1,h2,h3⟩:=h
     refine⟨_,_,h3,λos2 _ hw K' hk=>?_⟩
     rw[e]
     simp only[hw,hid]
     exact⟨h1,h2,hk⟩
    ·exact h.elim
   ·rename_i id len i off e
    split at ha
    ·rename_i hd
     cases ha
     obtain⟨xs,_,h3⟩:=A9a (C28 hd hvc)
     rw[e] at h
     simp only[h3] at h
     split at h
     ·rename_i es sz frz nl hid
      obtain⟨h1,h2,h4,h5,h6,h7,h8⟩:=h
      refine⟨_,_,h8,λos2 _ hw K' hk=>?_⟩
      rw[e]
      simp only[h3,hw,hid]
      exact⟨h1,h2,h4,h5,h6,h7,hk⟩
     ·exact h.elim
    ·cases ha
   ·cases ha
 case app sz by_ s x=>
  simp only[I7] at ha
  split at ha
  ·rename_i id len e
   cases ha
   simp only[A7] at h ⊢
   have key:∀ns,A0T os sz by_ (C0 ρ s) ns K->∃r o',K r (os.set w o')/\∀os2:List AO,os2[w]?=os[w]?->∀K':AV->List AO->Prop,K' r (os2.set w o')->A0T os2 sz by_ (C0 ρ s) ns K':=by
    intro ns h
    rw[e] at h ⊢
    simp only[A0T] at h ⊢
    split at h
    ·rename_i es sz' frz nl hid
     obtain⟨h1,h2,h3,h4,h5,h6⟩:=h
     refine⟨_,_,h6,λos2 hw K' hk=>?_⟩
     simp only[hw,hid]
     exact⟨h1,h2,h3,h4,h5,hk⟩
    ·exact h.elim
   split at h
   ·rename_i id2 n8 ex
    split at h
    ·obtain⟨_,_,h⟩:=h
     rw[e] at h
     exact h.elim
    ·exact h.elim
   unfold p7 at h
   split at h
   ·rename_i ex
    obtain⟨r,o',h1,h2⟩:=key _ h
    exact⟨r,o',h1,λos2 hl hw K' hk=>by rw[ex];simp only[p7];exact h2 os2 hw K' hk⟩
   ·rename_i es ex
    obtain⟨r,o',h1,h2⟩:=key _ h
    exact⟨r,o',h1,λos2 hl hw K' hk=>by rw[ex];simp only[p7];exact h2 os2 hw K' hk⟩
   ·rename_i id2 n8 ex
    split at h
    ·rename_i es sz2 frz nl hid2
     obtain⟨h0,h⟩:=h
     obtain⟨r,o',h1,h2⟩:=key _ h
     refine⟨r,o',h1,λos2 hl hw K' hk=>?_⟩
     rw[ex]
     simp only[p7]
     rw[hl id2 (by rw[ex];simp[r7]),hid2]
     exact⟨h0,h2 os2 hw K' hk⟩
    ·exact h.elim
   ·exact h.elim
  ·rename_i id len e
   cases ha
   simp only[A7] at h ⊢
   split at h
   ·rename_i id2 n8 ex
    split at h
    ·rename_i ns sz2 hid2
     obtain⟨h0,h00,h⟩:=h
     rw[e] at h
     simp only[A1q] at h
     split at h
     ·rename_i es sz' nl hid
      obtain⟨h1,h2,h3,h4,h5,h6⟩:=h
      refine⟨_,_,h6,λos2 hl hw K' hk=>?_⟩
      rw[hl id2 (by rw[ex];simp[r7]),hid2]
      refine⟨h0,h00,?_⟩
      rw[e]
      simp only[A1q,hw,hid]
      exact⟨h1,h2,h3,h4,h5,hk⟩
     ·exact h.elim
    ·exact h.elim
   ·exfalso
    rw[e] at h
    unfold p7 at h
    split at h
    ·exact h
    ·exact h
    ·split at h
     ·exact h.2
     ·exact h
    ·exact h
  ·cases ha
 case mupd sk m k v=>
  simp only[I7] at ha
  split at ha
  ·rename_i id e
   cases ha
   simp only[A7] at h ⊢
   rw[e] at h ⊢
   split at h
   ·rename_i id' key e1 e2
    cases e1
    split at h
    ·rename_i kvs hid
     refine⟨_,_,h.2.2,λos2 _ hw K' hk=>?_⟩
     rw[hw,hid]
     exact⟨h.1,h.2.1,hk⟩
    ·exact h.elim
   ·exact h.elim
  ·cases ha
 case alloca id zs=>
  simp only[I7] at ha;cases ha
  simp only[A7] at h ⊢
  split at h
  ·rename_i hid
   exact⟨_,_,h,λos2 _ hw K' hk=>by rw[hw,hid];exact hk⟩
  ·exact h.elim
 case boxa id m x=>
  simp only[I7] at ha;cases ha
  simp only[A7] at h ⊢
  split at h
  ·rename_i xs hid hxs
   exact⟨_,_,h.2,λos2 _ hw K' hk=>by rw[hw,hid,hxs];exact⟨h.1,hk⟩⟩
  ·exact h.elim
 case calln id f args=>
  simp only[I7] at ha
  split at ha
  ·rename_i hd
   cases ha
   simp only[A7] at h ⊢
   split at h
   ·rw[A5r hd] at h
    obtain⟨_,hid,h⟩:=h
    rcases h with ⟨es,sz,nl,h1,h2⟩|⟨r,h1,h2⟩
    ·refine⟨_,_,h2,λos2 _ hw K' hk=>?_⟩
     rw[A5r hd]
     exact⟨rfl,by rw[hw];exact hid,.inl ⟨es,sz,nl,h1,hk⟩⟩
    ·refine⟨_,_,h2,λos2 _ hw K' hk=>?_⟩
     rw[A5r hd]
     exact⟨rfl,by rw[hw];exact hid,.inr ⟨r,h1,hk⟩⟩
   ·exact h.elim
  ·cases ha
 case callo f args=>
  simp only[I7] at ha
  split at ha
  ·rename_i id len as hmap
   split at ha
   ·rename_i hd
    cases ha
    simp only[A7,hmap] at h ⊢
    split at h
    ·split at h
     ·rename_i hid
      obtain⟨h0,es',nl',h1,h2⟩:=h
      refine⟨_,_,h2,λos2 _ hw K' hk=>?_⟩
      rw[hw,hid]
      exact⟨h0,es',nl',h1,hk⟩
     ·exact h.elim
    ·exact h.elim
   ·cases ha
  ·split at ha<;>cases ha
 case bslr id n sz zs ps=>
  simp only[I7] at ha;cases ha
  simp only[A7] at h ⊢
  obtain⟨cs,h1,h2⟩:=A5j h
  split at h1
  ·rename_i hid
   exact⟨_,_,h1,λos2 _ hw K' hk=>h2 _ (by rw[hw,hid];exact hk)⟩
  ·exact h1.elim
def A0G(ρ:D5)(o:D0)(t:P3):Prop:=gI ρ o.guard (I7 ρ o.op=some t) True
def A59(a b:P3):Bool:=(match a.2 with|some w=>!(b.1.contains w)&&b.2 != some w|none=>true)&&(match b.2 with|some w=>!(a.1.contains w)|none=>true)
def A6v(ps:List (Nat×Nat))(T:List P3):Bool:=ps.all λp=>match T[p.1]?,T[p.2]? with
 |some a,some b=>A59 a b
 |_,_=>false
def A4z(P:Program)(o:D0)(t:P3)(ρ:D5)(os:List AO)(K:D5->List AO->Prop):Prop:=A0G ρ o t/\S5 P o ρ os K
def e8(P:Program)(is:List D0)(T:List P3):List Nat->D5->List AO->(D5->List AO->Prop)->Prop
 |[],ρ,os,K=>K ρ os
 |i::l,ρ,os,K=>match is[i]?,T[i]? with
  |some o,some t=>A4z P o t ρ os λρ' os'=>e8 P is T l ρ' os' K
  |_,_=>False
theorem C30{is:List D0}{T:List P3}{K:D5->List AO->Prop}(hd:∀o∈is,o.op.det=true):∀{l:List Nat}{ρ:D5}{os:List AO},e8 P is T l ρ os K->j5 P is l ρ os K
 |[],ρ,os,h=>h
 |i::l,ρ,os,h=>by
  simp only[e8,j5] at h ⊢
  split at h
  ·rename_i o t ho _
   rw[ho]
   exact C3T (hd o (C3 ho)) (λρ' os' hh=>C30 hd hh) h.2
  ·exact h.elim
theorem B3c{o:D0}{t:P3}(hd:o.op.det=true){K K':D5->List AO->Prop}(hk:∀ρ os,K ρ os->K' ρ os)(h:A4z P o t ρ os K):A4z P o t ρ os K':=⟨h.1,C3T hd hk h.2⟩
theorem C31{is:List D0}{T:List P3}{K K':D5->List AO->Prop}(hd:∀o∈is,o.op.det=true)(hk:∀ρ os,K ρ os->K' ρ os):∀{l:List Nat}{ρ:D5}{os:List AO},e8 P is T l ρ os K->e8 P is T l ρ os K'
 |[],ρ,os,h=>hk _ _ h
 |i::l,ρ,os,h=>by
  simp only[e8] at h ⊢
  split at h
  ·rename_i o t ho _
   exact B3c (hd o (C3 ho)) (λρ' os' hh=>C31 hd hk hh) h
  ·exact h.elim
theorem C2Y{is:List D0}{T:List P3}{K:D5->List AO->Prop}{p:Prop}(hd:∀o∈is,o.op.det=true)(hk:∀ρ os,K ρ os->p):∀{l:List Nat}{ρ:D5}{os:List AO},e8 P is T l ρ os K->p
 |[],ρ,os,h=>hk _ _ h
 |i::l,ρ,os,h=>by
  simp only[e8] at h
  split at h
  ·rename_i o t ho _
   obtain⟨r,os',_,h2,_⟩:=A5I (hd o (C3 ho)) h.2
   exact C2Y hd hk h2
  ·exact h.elim
theorem A0G.upd{o:D0}{d:Option Nat}{r:AV}{t:P3}(hl:∀t,d=some t->t∉ o.looks):A0G (updo d r ρ) o t=A0G ρ o t:=by
 have h1:I7 (updo d r ρ) o.op=I7 ρ o.op:=D4q o.op λx hx=>A6M λt ht hm=>hl t ht (by
  unfold D0.looks
  exact A8a _ (A03.2 ⟨x,hx,hm⟩))
 unfold A0G
 simp only[h1]
 unfold gI
 cases hg:o.guard with
 |none=>rfl
 |some tw=>
  obtain⟨t,want⟩:=tw
  have:Bi.updo d r ρ t=ρ t:=by
   cases d with
   |none=>rfl
   |some s=>
    have:t≠s:=λe=>hl s rfl (by unfold D0.looks;rw[hg];simp[e])
    simp[Bi.updo,Bi.upd,this]
  simp only[this]
theorem O1.loc{o:D0}{t:P3}{r:AV}{os os':List AO}(hd:o.op.det=true)(ha:A0G ρ o t)(g:O1 P o ρ os r os') :
  (os'=os/\∀os2:List AO,(∀i∈t.1,os2[i]?=os[i]?)->O1 P o ρ os2 r os2)\/
  ∃w o',t.2=some w/\os'=os.set w o'/\∀os2:List AO,(∀i∈t.1,os2[i]?=os[i]?)->os2[w]?=os[w]?->O1 P o ρ os2 r (os2.set w o'):=by
 have main:I7 ρ o.op=some t->(∀K:AV->List AO->Prop,K r os'->A7 P ρ os K o.op)->
   (os'=os/\∀os2:List AO,(∀i∈t.1,os2[i]?=os[i]?)->∀K:AV->List AO->Prop,K r os2->A7 P ρ os2 K o.op)\/
   ∃w o',t.2=some w/\os'=os.set w o'/\∀os2:List AO,(∀i∈t.1,os2[i]?=os[i]?)->os2[w]?=os[w]?->∀K:AV->List AO->Prop,K r (os2.set w o')->A7 P ρ os2 K o.op:=by
  intro ha g
  obtain⟨R,W⟩:=t
  cases W with
  |none=>
   refine .inl ⟨?_,λos2 hl K hk=>?_⟩
   ·have h1:=g (λ_ os2=>os2=os') rfl
    rw[B9Y ha] at h1
    obtain⟨_,_,h2,_⟩:=A7c hd h1
    exact h2.symm
   ·rw[B9Y ha]
    exact D7w ha hl (g (λr' _=>K r' os2) hk)
  |some w=>
   obtain⟨r0,o',⟨h1,h2⟩,h3⟩:=D7x ha (g (λr' os2=>r'=r/\os2=os') ⟨rfl,rfl⟩)
   subst h1
   exact .inr ⟨w,o',rfl,h2.symm,h3⟩
 unfold O1 gI at g
 unfold A0G gI at ha
 unfold O1 gI
 split at g
 ·rename_i hg
  rw[hg] at ha
  exact main ha g
 ·rename_i x want hg
  rw[hg] at ha
  simp only at ha
  split at g
  ·rename_i b hb
   rw[hb] at ha
   simp only at ha
   by_cases hbw:b=want
   ·have hn:¬b=!want:=by cases b<;>cases want<;>simp_all
    rcases main (ha.1 hbw) (g.1 hbw) with ⟨h1,h2⟩|⟨w,o',h1,h2,h3⟩
    ·exact .inl ⟨h1,λos2 hl=>⟨λ_=>h2 os2 hl,λe=>absurd e hn⟩⟩
    ·exact .inr ⟨w,o',h1,h2,λos2 hl hw=>⟨λ_=>h3 os2 hl hw,λe=>absurd e hn⟩⟩
   ·have hbn:b=!want:=by cases b<;>cases want<;>simp_all
    obtain⟨h1,h2⟩:=g.2 hbn
    exact .inl ⟨h2,λos2 _=>⟨λe=>absurd e hbw,λ_=>⟨h1,by first|rfl|trivial⟩⟩⟩
  ·rename_i hb
   exact .inl ⟨g.2,λos2 _=>⟨g.1,by first|rfl|trivial⟩⟩
  ·exact g.elim
theorem D5E{a b:P3}(h:A59 a b=true):(∀w,a.2=some w->w∉ b.1/\b.2≠some w)/\∀w,b.2=some w->w∉ a.1:=by
 unfold A59 at h
 simp only[K7] at h
 refine⟨λw hw=>?_,λw hw=>?_⟩
 ·have:=h.1
  rw[hw] at this
  simp at this
  exact this
 ·have:=h.2
  rw[hw] at this
  simpa using this
theorem D5v{x y:D0}{t1 t2:P3}{r s:AV}{os1 os2:List AO}(d1:x.op.det=true)(d2:y.op.det=true)(a1:A0G ρ x t1)(a2:A0G ρ y t2)(hdis:A59 t1 t2=true)
  (g1:O1 P x ρ os r os1) (g2:O1 P y ρ os1 s os2):∃os',O1 P y ρ os s os'/\O1 P x ρ os' r os2:=by
 obtain⟨q1,q2⟩:=D5E hdis
 rcases g1.loc d1 a1 with ⟨rfl,l1⟩|⟨wx,ox,e1,rfl,l1⟩
 ·refine⟨os2,g2,?_⟩
  rcases g2.loc d2 a2 with ⟨rfl,_⟩|⟨wy,oy,e2,rfl,_⟩
  ·exact g1
  ·exact l1 _ λi hi=>i0 (λe=>q2 wy e2 (by rw[e];exact hi))
 ·obtain⟨n1,n2⟩:=q1 wx e1
  rcases g2.loc d2 a2 with ⟨rfl,l2⟩|⟨wy,oy,e2,rfl,l2⟩
  ·refine⟨os,l2 os λi hi=>(i0 (λe=>n1 (by rw[e];exact hi))).symm,g1⟩
  ·have hne:wx≠wy:=λe=>n2 (by rw[e];exact e2)
   refine⟨os.set wy oy,l2 os (λi hi=>(i0 (λe=>n1 (by rw[e];exact hi))).symm) (i0 hne).symm,?_⟩
   have:=l1 (os.set wy oy) (λi hi=>i0 (λe=>q2 wy e2 (by rw[e];exact hi))) (i0 (Ne.symm hne))
   rw[List.set_comm _ _ (Ne.symm hne)] at this
   exact this
theorem D5u{x y:D0}(ha:x.apart y=true){r s:AV}{os1 os2:List AO}(w1:x.op.wr=false->os1=os)(w2:y.op.wr=false->os2=os1)(g1:O1 P x ρ os r os1)(g2:O1 P y ρ os1 s os2) :
  ∃os',O1 P y ρ os s os'/\O1 P x ρ os' r os2:=by
 obtain⟨d1,d2,h1,h2,h3,h4,h5⟩:=C09 ha
 by_cases hw1:x.op.wr=true
 ·have hr:=h4 hw1
  have hw2:y.op.wr=false:=by
   cases hq:y.op.wr with
   |false=>rfl
   |true=>rw[C4l _ hq] at hr;cases hr
  have:=w2 hw2
  subst this
  exact⟨os,g2.nord hr os,g1⟩
 ·have hw1:x.op.wr=false:=by simpa using hw1
  have:=w1 hw1
  subst this
  refine⟨os2,g2,?_⟩
  by_cases hw2:y.op.wr=true
  ·exact g1.nord (h5 hw2) os2
  ·have hw2:y.op.wr=false:=by simpa using hw2
   have:=w2 hw2
   subst this
   exact g1
theorem C08{x y:D0}(h:x.apartS y=true):x.op.det=true/\y.op.det=true/\(∀t,x.dst=some t->t∉ y.looks)/\(∀t,x.dst=some t->y.dst≠some t)/\(∀t,y.dst=some t->t∉ x.looks):=by
 unfold D0.apartS at h
 simp only[K7] at h
 obtain⟨⟨⟨h1,h2⟩,h3⟩,h4⟩:=h
 refine⟨h1,h2,λt ht=>?_,λt ht=>?_,λt ht=>?_⟩
 ·rw[ht] at h3;simp at h3;exact h3.1
 ·rw[ht] at h3;simp at h3;exact h3.2
 ·rw[ht] at h4;simpa using h4
theorem D9E{x y:D0}{t1 t2:P3}(hs:x.apartS y=true)(hdis:A59 t1 t2=true\/x.apart y=true){K:D5->List AO->Prop}(h:A4z P x t1 ρ os λρ' os'=>A4z P y t2 ρ' os' K) :
  A4z P y t2 ρ os λρ' os'=>A4z P x t1 ρ' os' K:=by
 obtain⟨d1,d2,h1,h2,h3⟩:=C08 hs
 obtain⟨a1,h⟩:=h
 obtain⟨r,os1,g1,⟨a2,hA⟩,w1⟩:=A5I d1 h
 obtain⟨s,os2,g2,hB,w2⟩:=A5I d2 hA
 rw[A0G.upd h1] at a2
 rw[O1.upd h1] at g2
 have hcomm:updo y.dst s (updo x.dst r ρ)=updo x.dst r (updo y.dst s ρ):=(B3j h2).symm
 rw[hcomm] at hB
 have hc:∃os',O1 P y ρ os s os'/\O1 P x ρ os' r os2:=by
  rcases hdis with hd|hd
  ·exact D5v d1 d2 a1 a2 hd g1 g2
  ·exact D5u hd w1 w2 g1 g2
 obtain⟨os',k1,k2⟩:=hc
 refine⟨a2,k1.step ⟨by rw[A0G.upd h3];exact a1,?_⟩⟩
 refine O1.step (r:=r) ?_ hB
 rw[O1.upd h3]
 exact k2
theorem C2Z(is:List D0)(T:List P3){i:Nat}{o:D0}{t:P3}(hi:is[i]?=some o)(ht:T[i]?=some t)(K:D5->List AO->Prop):∀(l l':List Nat)(ρ:D5)(os:List AO),
  (∀j∈l,∃x s,is[j]?=some x/\T[j]?=some s/\x.apartS o=true/\(A59 s t=true\/x.apart o=true))->
  e8 P is T (l++i::l') ρ os K->e8 P is T (i::(l++l')) ρ os K
 |[],l',ρ,os,ha,h=>h
 |j::l,l',ρ,os,ha,h=>by
  obtain⟨x,s,hx,hs,hap,hdis⟩:=ha j (by simp)
  have ih:=λρ os=>C2Z is T hi ht K l l' ρ os (λj hj=>ha j (by simp[hj]))
  simp only[A4K,e8,hx,hs,hi,ht] at h ih ⊢
  exact D9E hap hdis (B3c (C08 hap).1 (λρ os hh=>ih ρ os hh) h)
theorem D94{ops:Array Oper}{is:List D0}{ps:List (Nat×Nat)}{T:List P3}(hl:is.length=ops.size)(hT:T.length=is.length)(hd:A3t ops.toList is ps=true)(hp:A6v ps T=true)(K:D5->List AO->Prop) :
  ∀(fuel t:Nat) (listed:Array Bool) (ρ:D5) (os:List AO),listed.size=ops.size->(left ops.size listed).length<=fuel->
   (∀i,i<ops.size->listed.getD i true=true->∀j,((W6 [] ops.toList).getD i 0).testBit j=true->listed.getD j true=true)->
   e8 P is T (left ops.size listed) ρ os K->e8 P is T (Region.linearise.go .any ops fuel t listed []) ρ os K:=by
 unfold A3t at hd
 simp only[K7,L7,A1X] at hd
 obtain⟨⟨hd3,hd1⟩,hd2⟩:=hd
 have hback:∀i o e,ops[i]?=some o->e∈o.after.toList->Region.binds .any e=true->e.on<i:=by
  intro i o e ho he hb
  have hi:=(A01.1 ho).1
  have:=hd1 i (by simpa using hi)
  rw[show ops.toList[i]?=some o by simpa using ho] at this
  simp only[L7,A2u,Bool.not_eq_true',decide_eq_true_eq] at this
  rcases this e he with h|h
  ·exact h
  ·rw[hb] at h;cases h
 have hanc:∀i j,((W6 [] ops.toList).getD i 0).testBit j=true->∃o,ops[i]?=some o/\∃e∈o.after.toList,Region.binds .any e=true/\(e.on=j\/(e.on<i/\((W6 [] ops.toList).getD e.on 0).testBit j=true)):=by
  intro i j h
  obtain⟨o,ho,rest⟩:=(B1t (ops.toList) []).2.2 i j (N1 _) h
  exact⟨o,by simpa using ho,rest⟩
 intro fuel
 induction fuel with
 |zero=>
  intro t listed ρ os hs hf hc h
  have:left ops.size listed=[]:=List.eq_nil_of_length_eq_zero (by omega)
  rw[this] at h
  simpa[Region.linearise.go] using h
 |succ fuel ih=>
  intro t listed ρ os hs hf hc h
  simp only[Region.linearise.go]
  change e8 P is T (match (Region.ready .any ops listed)[t % (Region.ready .any ops listed).length]? with
   |some i=>Region.linearise.go .any ops fuel (t / (Region.ready .any ops listed).length) (listed.setIfInBounds i true) [i]
   |none=>[].reverse) ρ os K
  cases hi:(Region.ready .any ops listed)[t % (Region.ready .any ops listed).length]? with
  |none=>
   have hnil:Region.ready .any ops listed=[]:=by
    cases hr:Region.ready .any ops listed with
    |nil=>rfl
    |cons x xs=>
     rw[hr] at hi
     have hlt:t % (x::xs).length<(x::xs).length:=Nat.mod_lt _ (by simp)
     rw[F4 hlt] at hi
     cases hi
   have hleft:left ops.size listed=[]:=by
    cases hq:left ops.size listed with
    |nil=>rfl
    |cons x xs=>
     exfalso
     -- the least place that is left is ready
     have hx:x∈left ops.size listed:=by rw[hq];simp
     obtain⟨l,l',e1,_,e3⟩:=A5t ops.size listed x hx hs
     have hl0:l=[]:=by
      rw[hq] at e1
      cases l with
      |nil=>rfl
      |cons y ys=>
       have:=(e3 y (by simp)).1
       injection e1 with e4 _
       omega
     obtain⟨hx1,hx2⟩:=A2d.1 hx
     have:x∈Region.ready .any ops listed:=by
      unfold Region.ready
      rw[m0]
      refine⟨A1X.2 hx1,?_⟩
      simp only[hx2,Bool.not_false,Q4]
      rw[O0 hx1]
      simp only[A0R,A04,B0a]
      intro e he
      by_cases hb:Region.binds .any e=true
      ·have hlt:=hback x _ e (O0 hx1) (by simpa using he) hb
       have hnl:listed.getD e.on true=true:=by
        by_cases hq2:listed.getD e.on true=true
        ·exact hq2
        ·have hm:e.on∈left ops.size listed:=A2d.2 ⟨by omega,by simpa using hq2⟩
         rw[e1,hl0] at hm
         simp only[A0M] at hm
         -- everything left is at least x
         exfalso
         have hsorted:∀y∈left ops.size listed,x<=y:=by
          intro y hy
          obtain⟨l2,l2',f1,_,f3⟩:=A5t ops.size listed y hy hs
          rw[hq] at f1
          cases l2 with
          |nil=>injection f1 with f4 _;omega
          |cons z zs=>
           injection f1 with f4 _
           have:=(f3 z (by simp)).1
           omega
         have:=hsorted e.on (by rw[e1,hl0];exact hm)
         omega
       have hlt2:e.on<listed.size:=by omega
       simp[hb]
       simpa[hlt2] using hnl
      ·simp[hb]
     rw[hnil] at this
     cases this
   rw[hleft] at h
   simpa using h
  |some i=>
   have hready:=C3 hi
   dsimp only
   rw[linearise_go_acc,List.reverse_singleton,List.singleton_append]
   unfold Region.ready at hready
   rw[m0] at hready
   obtain⟨hr1,hr2⟩:=hready
   have hil:=A1X.1 hr1
   rw[K7,O0 hil] at hr2
   obtain⟨hr2,hr3⟩:=hr2
   have hun:listed.getD i true=false:=by simpa using hr2
   have hafter:∀e∈(ops[i]).after.toList,Region.binds .any e=true->listed.getD e.on true=true:=by
    intro e he hb
    simp only[A0R,A04,B0a] at hr3
    have:=hr3 e (by simpa using he)
    simp only[hb,Bool.not_true,Bool.false_or] at this
    have hlt:=hback i _ e (O0 hil) he hb
    have hlt2:e.on<listed.size:=by omega
    simpa[hlt2] using this
   have hmem:i∈left ops.size listed:=A2d.2 ⟨hil,hun⟩
   obtain⟨l,l',e1,e2,e3⟩:=A5t ops.size listed i hmem hs
   have hio:is[i]?=some (is[i]'(by omega)):=F4 (by omega)
   rw[e1] at h
   have hanci:∀j,((W6 [] ops.toList).getD i 0).testBit j=true->listed.getD j true=true:=by
    intro j hj
    obtain⟨o,ho,e,he,hb,hcase⟩:=hanc i j hj
    rw[O0 hil] at ho
    cases ho
    have hle:=hafter e he hb
    rcases hcase with rfl|⟨hlt,hb2⟩
    ·exact hle
    ·exact hc e.on (by omega) hle j hb2
   have hTo:T[i]?=some (T[i]'(by omega)):=F4 (by omega)
   have h:=C2Z is T hio hTo K l l' ρ os (λj hj=>by
    obtain⟨hji,hjl⟩:=e3 j hj
    obtain⟨hj1,hj2⟩:=A2d.1 hjl
    refine⟨is[j]'(by omega),T[j]'(by omega),F4 (by omega),F4 (by omega),?_⟩
    have:=hd2 i (by omega) j hji
    simp only[A2u,K7] at this
    rcases this with h1|⟨h1,h2⟩
    ·have:=hanci j h1
     rw[hj2] at this
     cases this
    ·have e1:is.getD i default=is[i]'(by omega):=by simp[I4,F4 (show i<is.length by omega)]
     have e2:is.getD j default=is[j]'(by omega):=by simp[I4,F4 (show j<is.length by omega)]
     rw[e1,e2] at h1 h2
     refine⟨h1,?_⟩
     rcases h2 with h2|h2
     ·refine .inl ?_
      have:=L7.1 hp (j,i) (by simpa using h2)
      simpa[F4 (show i<T.length by omega),F4 (show j<T.length by omega)] using this
     ·exact .inr h2) h
   simp only[e8,hio,hTo] at h ⊢
   have hdet:(is[i]'(by omega)).op.det=true:=hd3 _ (A2z _)
   refine B3c hdet (λρ' os' hh=>?_) h
   refine ih _ (listed.setIfInBounds i true) ρ' os' (by simpa using hs) ?_ (λk hk hkl j hj=>?_) (by rw[e2];exact hh)
   ·rw[e2]
    rw[e1] at hf
    simp at hf ⊢
    omega
   ·by_cases hki:k=i
    ·subst hki
     have:=hanci j hj
     by_cases hji:j=k
     ·subst hji
      simp[show j<listed.size by omega]
     ·rw[show(listed.setIfInBounds k true).getD j true=listed.getD j true by simp[A1V (Ne.symm hji)]]
      exact this
    ·rw[show(listed.setIfInBounds i true).getD k true=listed.getD k true by simp[A1V (Ne.symm hki)]] at hkl
     have:=hc k hk hkl j hj
     by_cases hji:j=i
     ·subst hji
      simp[show j<listed.size by omega]
     ·rw[show(listed.setIfInBounds i true).getD j true=listed.getD j true by simp[A1V (Ne.symm hji)]]
      exact this
end
end Go.Bi
