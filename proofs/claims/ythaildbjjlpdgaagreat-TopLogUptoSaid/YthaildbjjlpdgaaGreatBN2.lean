/- The operations of a region that touch objects, in any order that their edges allow: the objects are told apart at the run. No condition. -/
import Derived.Test.YthaildbjjlpdgaaGreatBN
set_option linter.unusedVariables false
set_option linter.unusedSimpArgs false
namespace Go.Bi
set_option linter.unusedSectionVars false
variable [Globs]
section
variable {P:Program}{os:List AO}{ρ:Rho}
abbrev Acc:=List Nat×Option Nat
def aref:AV->List Nat
 |.aptr id _ _ _=>[id]
 |.rp id _ _ _=>[id]
 |_=>[]
def sref:AV->List Nat
 |.ptr id _=>[id]
 |.aptr id _ _ _=>[id]
 |.arr id _=>[id]
 |.rs id _=>[id]
 |.rp id _ _ _=>[id]
 |.sub id _ _ _=>[id]
 |_=>[]
def accX:XO->List AV->Option Acc
 |.apps ..,[s,_]=>match s with
  |.arr id _=>some ([],some id)
  |_=>none
 |.appd ..,[_,x]=>some (sref x,none)
 |.slu ..,x::_=>some (sref x,none)
 |.b2s,[x]=>some (sref x,none)
 |e,_=>if e.rd then none else some ([],none)
def accI(ρ:Rho):IK->Option Acc
 |.faddr _ x=>some (aref (evO ρ x),none)
 |.nilck x=>some (aref (evO ρ x),none)
 |.ixarr _ _ x _=>some (aref (evO ρ x),none)
 |.eqnil _ x=>some (sref (evO ρ x),none)
 |.len x=>some (sref (evO ρ x),none)
 |.ixsl _ x _=>some (sref (evO ρ x),none)
 |.load _ _ x=>some (sref (evO ρ x),none)
 |.store _ x v=>match evO ρ x with
  |.ptr id _=>some ([],some id)
  |.aptr id _ _ _=>if (evO ρ v).isDB then some ([],some id) else none
  |_=>none
 |.app _ _ s x=>match evO ρ s with
  |.arr id _=>some (sref (evO ρ x),some id)
  |.rs id _=>some (sref (evO ρ x),some id)
  |_=>none
 |.alloca id _=>some ([],some id)
 |.boxa id _ _=>some ([],some id)
 |.appn id _ _ s x=>match evO ρ s with
  |.arr id0 _=>some (sref (evO ρ x),some id0)
  |.full _=>some (sref (evO ρ x),some id)
  |.d _=>some (sref (evO ρ x),some id)
  |_=>none
 |.calln id _ args=>match args.map (evO ρ) with
  |.arr id0 _::as=>if as.all AV.isDB then some ([],some id0) else none
  |as=>if as.all AV.isDF then some ([],some id) else none
 |.bslr id _ _ _ _=>some ([],some id)
 |.callo _ args=>match args.map (evO ρ) with
  |.arr id _::as=>if as.all AV.isDB then some ([],some id) else none
  |as=>if as.all AV.isDB then some ([],none) else none
 |.callp _ args=>match args.map (evO ρ) with
  |.ptr id _::as=>if as.all AV.isDB then some ([],some id) else none
  |as=>if as.all AV.isDB then some ([],none) else none
 |.bsld _ _ _ ps=>if (ps.map λp=>evO ρ p.2.2).all AV.isDB then some ([],none) else none
 |.slsl _ x _ _=>if (evO ρ x).isDB then some ([],none) else none
 |.lkup _ _ _ _ m _=>match evO ρ m with
  |.mp id=>some ([id,id+1],none)
  |_=>none
 |.mupd _ m _ _=>match evO ρ m with
  |.mp id=>some ([],some id)
  |_=>none
 |.ex e xs=>accX e (xs.map (evO ρ))
 |op=>if op.rd then none else some ([],none)
theorem slI_data{sz:Nat}{v:AV}{lo hi:Option Opd}{os2:List AO}{K:AV->List AO->Prop}(hd:v.isDB=true):slI ρ os sz v lo hi K=slI ρ os2 sz v lo hi (λr _=>K r os):=by
 cases v with
 |d x=>cases x<;>rfl
 |agg cs=>rfl
 |_=>cases hd
theorem accX_nw{e:XO}{vs:List AV}{R:List Nat}(h:accX e vs=some (R,none)):e.wr=false:=by
 unfold accX at h
 split at h
 ·split at h<;>cases h
 ·rfl
 ·rfl
 ·rfl
 ·split at h
  ·cases h
  ·rename_i hr
   cases hw:e.wr with
   |true=>exact absurd (XO.wr_rd e hw) hr
   |false=>rfl
theorem newsI_loc{os os2:List AO}{x:AV}{K:List (List D)->Prop}(hl:∀i∈sref x,os2[i]?=os[i]?)(h:newsI os x K):newsI os2 x K:=by
 unfold newsI at h ⊢
 split at h
 ·exact h
 ·exact h
 ·exact h
 ·rename_i id len
  rw[hl id (by simp[sref])];exact h
 ·exact h.elim
theorem partI_loc{os os2:List AO}{x:AV}{K:(id lo n:Nat)->List (List D)->(sz frz:Nat)->Bool->Prop}(hl:∀i∈sref x,os2[i]?=os[i]?)(h:partI os x K):partI os2 x K:=by
 unfold partI at h ⊢
 cases x with
 |arr id len=>simp only at h ⊢;rw[hl id (by simp[sref])];exact h
 |sub id tot lo n=>simp only at h ⊢;rw[hl id (by simp[sref])];exact h
 |_=>exact h
theorem sluI_loc{os os2:List AO}{l h:Bool}{x:AV}{vs:List AV}{K:AV->Prop}(hl:∀i∈sref x,os2[i]?=os[i]?)(hh:sluI os l h x vs K):sluI os2 l h x vs K:=by
 unfold sluI at hh ⊢
 cases x with
 |arr id len=>exact partI_loc hl hh
 |sub id tot lo n=>exact partI_loc hl hh
 |_=>exact hh
theorem accX_rd{e:XO}{vs:List AV}{R:List Nat}(ha:accX e vs=some (R,none)){os os2:List AO}(hl:∀i∈R,os2[i]?=os[i]?){K:AV->Prop}(h:exI os (λr _=>K r) e vs):exI os2 (λr _=>K r) e vs:=by
 unfold accX at ha
 split at ha
 ·split at ha<;>cases ha
 ·rename_i s x
  cases ha
  exact newsI_loc (K:=λns=>appDI os2 _ _ s ns λr=>K r) hl h
 ·rename_i x vs
  cases ha
  exact sluI_loc hl h
 ·rename_i x
  cases ha
  exact newsI_loc (K:=λns=>match unbyte ns with
   |some s=>K (.d (.str s))
   |none=>False) hl h
 ·split at ha
  ·cases ha
  ·rename_i hr
   rw[exI_nord (by simpa using hr) _ os] 
   exact h
theorem accI_nw{op:IK}{R:List Nat}(h:accI ρ op=some (R,none))(K:AV->List AO->Prop):opI P ρ os K op=opI P ρ os (λr _=>K r os) op:=by
 by_cases hs:∃sz x lo hi,op=.slsl sz x lo hi
 ·obtain⟨sz,x,lo,hi,rfl⟩:=hs
  simp only[accI] at h
  split at h
  ·rename_i hd
   exact slI_data hd
  ·cases h
 ·by_cases hc:∃f args,op=.callo f args
  ·obtain⟨f,args,rfl⟩:=hc
   simp only[accI] at h
   split at h
   ·split at h<;>cases h
   ·rename_i hne
    cases hv:args.map (evO ρ) with
    |nil=>simp only[opI,hv]
    |cons v as=>
     cases v with
     |arr id len=>exact absurd hv (hne id len as)
     |_=>simp only[opI,hv]
  by_cases hp:∃f args,op=.callp f args
  ·obtain⟨f,args,rfl⟩:=hp
   simp only[accI] at h
   split at h
   ·split at h<;>cases h
   ·rename_i hne
    cases hv:args.map (evO ρ) with
    |nil=>simp only[opI,hv]
    |cons v as=>
     cases v with
     |ptr id off=>exact absurd hv (hne id off as)
     |_=>simp only[opI,hv]
  refine opI_nowr ?_ K
  cases op<;>first|rfl|skip
  case callp f args=>exact absurd ⟨f,args,rfl⟩ hp
  case slsl sz x lo hi=>exact absurd ⟨sz,x,lo,hi,rfl⟩ hs
  case callo f args=>exact absurd ⟨f,args,rfl⟩ hc
  case ex e xs=>exact accX_nw h
  all_goals (simp only[accI] at h;repeat' (first|(cases h;done)|(simp[IK.rd] at h;done)|split at h))
theorem accI_congr{ρ ρ':Rho}(op:IK)(h:∀x∈op.opds,evO ρ x=evO ρ' x):accI ρ op=accI ρ' op:=by
 cases op<;>first|rfl|skip
 case faddr a x=>simp only[accI,h x (by simp[IK.opds])]
 case nilck x=>simp only[accI,h x (by simp[IK.opds])]
 case ixarr a b x i=>simp only[accI,h x (by simp[IK.opds])]
 case eqnil a x=>simp only[accI,h x (by simp[IK.opds])]
 case len x=>simp only[accI,h x (by simp[IK.opds])]
 case ixsl a x i=>simp only[accI,h x (by simp[IK.opds])]
 case load a b x=>simp only[accI,h x (by simp[IK.opds])]
 case store a x v=>simp only[accI,h x (by simp[IK.opds]),h v (by simp[IK.opds])]
 case app a b s x=>simp only[accI,h s (by simp[IK.opds]),h x (by simp[IK.opds])]
 case appn id a b s x=>simp only[accI,h s (by simp[IK.opds]),h x (by simp[IK.opds])]
 case ex e xs=>
  have:xs.map (evO ρ)=xs.map (evO ρ'):=List.map_congr_left λy hy=>h y (by simpa[IK.opds] using hy)
  simp only[accI,this]
 case slsl sz x lo hi=>simp only[accI,h x (by simp[IK.opds])]
 case lkup sk ok g zs m k=>simp only[accI,h m (by simp[IK.opds])]
 case mupd sk m k v=>simp only[accI,h m (by simp[IK.opds])]
 case callp f args=>
  have:args.map (evO ρ)=args.map (evO ρ'):=List.map_congr_left λy hy=>h y (by simp[IK.opds,hy])
  simp only[accI,this]
 case calln id f args=>
  have:args.map (evO ρ)=args.map (evO ρ'):=List.map_congr_left λy hy=>h y (by simp[IK.opds,hy])
  simp only[accI,this]
 case callo f args=>
  have:args.map (evO ρ)=args.map (evO ρ'):=List.map_congr_left λy hy=>h y (by simp[IK.opds,hy])
  simp only[accI,this]
 case bsld a b c ps=>
  have:(ps.map λp=>evO ρ p.2.2)=ps.map λp=>evO ρ' p.2.2:=List.map_congr_left λy hy=>h y.2.2 (by simp[IK.opds];exact⟨_,_,hy⟩)
  simp only[accI,this]
theorem shI_loc{os os2:List AO}{d:Nat}{x:AV}{K:AV->Prop}(hl:∀i∈aref x,os2[i]?=os[i]?)(h:shI os d x K):shI os2 d x K:=by
 unfold shI at h ⊢
 cases x with
 |aptr id l i o=>simp only at h ⊢;rw[hl id (by simp[aref])];exact h
 |_=>exact h
theorem isd_frzC{os:List AO}{c:AV}(h:c.isd=true):∃x,c=.d x/\frzC os c=some (x,os):=by
 cases c with
 |d x=>exact⟨x,rfl,rfl⟩
 |_=>cases h
theorem isd_frzCs:∀{cs:List AV},cs.all AV.isd=true->∃xs:List D,cs=xs.map .d/\∀os,frzCs os cs=some (xs,os)
 |[],_=>⟨[],rfl,λ_=>rfl⟩
 |c::cs,h=>by
  simp only[List.all_cons,Bool.and_eq_true] at h
  obtain⟨xs,h1,h2⟩:=isd_frzCs h.2
  obtain⟨x,rfl,_⟩:=isd_frzC (os:=[]) h.1
  exact⟨x::xs,by rw[h1];rfl,λos=>by simp only[frzCs,frzC,h2]⟩
theorem isDB_frzG{c:AV}(h:c.isDB=true)(os:List AO):frzG os c=some (c,os):=by
 cases c with
 |d x=>rfl
 |agg cs=>
  obtain⟨xs,rfl,h2⟩:=isd_frzCs (show cs.all AV.isd=true from h)
  simp only[frzG,h2]
 |_=>cases h
theorem isDB_frzGs:∀{cs:List AV},cs.all AV.isDB=true->∀os,frzGs os cs=some (cs,os)
 |[],_,os=>rfl
 |c::cs,h,os=>by
  simp only[List.all_cons,Bool.and_eq_true] at h
  simp only[frzGs,isDB_frzG h.1,isDB_frzGs h.2]
theorem isDB_cells{c:AV}{vc:List AV}(h:c.isDB=true)(hc:c.cells=some vc):vc.all AV.isd=true:=by
 cases c with
 |d x=>simp only[AV.cells] at hc;cases hc;rfl
 |agg cs=>simp only[AV.cells] at hc;cases hc;exact h
 |_=>cases h
theorem all_setR{cs vc:List AV}{off:Nat}(h1:cs.all AV.isd=true)(h2:vc.all AV.isd=true):(setR cs off vc).all AV.isd=true:=by
 rw[List.all_eq_true] at *
 intro x hx
 unfold setR at hx
 simp only[List.mem_append] at hx
 rcases hx with (hx|hx)|hx
 ·exact h1 x (List.mem_of_mem_take hx)
 ·exact h2 x hx
 ·exact h1 x (List.mem_of_mem_drop hx)
theorem fillA_data:∀{ps:List (Nat×Nat×Opd)} {cs:List AV} {K:List AV->Prop},cs.all AV.isd=true->(ps.map λp=>evO ρ p.2.2).all AV.isDB=true->fillA ρ ps cs K->fillA ρ ps cs λcs'=>cs'.all AV.isd=true/\K cs'
 |[],cs,K,h1,_,h=>⟨h1,h⟩
 |(off,n,x)::ps,cs,K,h1,h2,h=>by
  simp only[List.map_cons,List.all_cons,Bool.and_eq_true] at h2
  unfold fillA at h ⊢
  split at h
  ·rename_i xs e
   exact⟨h.1,h.2.1,fillA_data (all_setR h1 (isDB_cells h2.1 e)) h2.2 h.2.2⟩
  ·exact h.elim
theorem fillA_mono0{K K':List AV->Prop}(hk:∀n,K n->K' n):∀{ps:List (Nat×Nat×Opd)} {cs:List AV},fillA ρ ps cs K->fillA ρ ps cs K'
 |[],cs,h=>hk _ h
 |(off,n,x)::ps,cs,h=>by
  unfold fillA at h ⊢
  split at h
  ·exact⟨h.1,h.2.1,fillA_mono0 hk h.2.2⟩
  ·exact h.elim
theorem data_isd(l:List D):(l.map AV.d).all AV.isd=true:=by
 rw[List.all_eq_true]
 intro x hx
 obtain⟨y,_,rfl⟩:=List.mem_map.1 hx
 rfl
theorem loc_rd{op:IK}{R:List Nat}(ha:accI ρ op=some (R,none)){os os2:List AO}(hl:∀i∈R,os2[i]?=os[i]?){K:AV->Prop}(h:opI P ρ os (λr _=>K r) op):opI P ρ os2 (λr _=>K r) op:=by
 have triv:op.rd=false->opI P ρ os2 (λr _=>K r) op:=λhr=>by rw[opI_nord hr os];exact h
 cases op<;>first|exact triv rfl|skip
 case faddr a x=>simp only[accI] at ha;cases ha;exact shI_loc hl h
 case nilck x=>simp only[accI] at ha;cases ha;exact shI_loc hl h
 case ixarr a b x i=>
  simp only[accI] at ha;cases ha
  simp only[opI] at h ⊢
  split at h
  ·exact⟨h.1,h.2.1,shI_loc hl h.2.2⟩
  ·exact h.elim
 case eqnil a x=>
  simp only[accI] at ha;cases ha
  simp only[opI] at h ⊢
  split at h
  ·exact h
  ·exact h
  ·rename_i id len e;rw[hl id (by rw[e];simp[sref])];exact h
  ·exact h.elim
 case len x=>
  simp only[accI] at ha;cases ha
  simp only[opI] at h ⊢
  split at h
  ·exact h
  ·exact h
  ·rename_i id len e;rw[hl id (by rw[e];simp[sref])];exact h
  ·rename_i id len e;rw[hl id (by rw[e];simp[sref])];exact h
  ·rename_i id tot lo k e;rw[hl id (by rw[e];simp[sref])];exact h
  ·exact h
  ·exact h.elim
 case ixsl a x i=>
  simp only[accI] at ha;cases ha
  simp only[opI] at h ⊢
  split at h
  ·split at h
   ·exact h
   ·rename_i id len e;rw[hl id (by rw[e];simp[sref])];exact h
   ·rename_i id len e;rw[hl id (by rw[e];simp[sref])];exact h
   ·rename_i id tot lo k e;rw[hl id (by rw[e];simp[sref])];exact h
   ·exact h.elim
  ·exact h.elim
 case load a b x=>
  simp only[accI] at ha;cases ha
  simp only[opI,loadI] at h ⊢
  split at h
  ·rename_i id off e;rw[hl id (by rw[e];simp[sref])];exact h
  ·rename_i id len i off e;rw[hl id (by rw[e];simp[sref])];exact h
  ·rename_i id len i off e;rw[hl id (by rw[e];simp[sref])];exact h
  ·exact h
  ·exact h.elim
 case slsl sz x lo hi=>
  simp only[accI] at ha
  split at ha
  ·rename_i hd
   simp only[opI] at h ⊢
   rw[slI_data (os2:=os) hd]
   exact h
  ·cases ha
 case lkup sk ok g zs m k=>
  simp only[accI] at ha
  split at ha
  ·rename_i id e
   cases ha
   simp only[opI] at h ⊢
   rw[e] at h ⊢
   split at h
   ·rename_i id' key e1 e2
    cases e1
    rw[hl id (by simp)]
    split at h
    ·rename_i kvs h3
     refine⟨h.1,?_⟩
     rcases h.2 with h|⟨e,sz,frz,ho,h⟩
     ·exact .inl h
     ·exact .inr ⟨e,sz,frz,by rw[hl (id+1) (by simp)];exact ho,h⟩
    ·exact h.elim
   ·exact h.elim
  ·cases ha
 case callo f args=>
  simp only[accI] at ha
  split at ha
  ·split at ha<;>cases ha
  ·rename_i hne
   split at ha
   ·rename_i hd
    cases ha
    have key:∀os:List AO,opI P ρ os (λr _=>K r) (.callo f args)=match evO ρ f with
     |.d (.fn g)=>match frzGs os (args.map (evO ρ)) with
      |some (as,os1)=>os1=os/\∃r,CallSpec P g as [] (λr' os2=>r'=r/\os2=[])/\K r
      |none=>False
     |_=>False:=λos=>by
     cases hv:args.map (evO ρ) with
     |nil=>simp only[opI,hv];rfl
     |cons v as=>
      cases v with
      |arr id len=>exact absurd hv (hne id len as)
      |_=>simp only[opI,hv];rfl
    rw[key] at h ⊢
    rw[isDB_frzGs hd] at h ⊢
    split at h
    ·exact⟨rfl,h.2⟩
    ·exact h.elim
   ·cases ha
 case callp f args=>
  simp only[accI] at ha
  split at ha
  ·split at ha<;>cases ha
  ·rename_i hne
   split at ha
   ·rename_i hd
    simp only[opI] at h ⊢
    split at h
    ·rcases h with h|h
     ·refine Or.inl ?_
      rw[isDB_frzGs hd] at h ⊢
      exact⟨rfl,h.2⟩
     ·exact h.elim
    ·exact h.elim
   ·cases ha
 case bsld m sz zs ps=>
  simp only[accI] at ha
  split at ha
  ·rename_i hd
   simp only[opI] at h ⊢
   refine fillA_mono0 (λcs hc=>?_) (fillA_data (data_isd _) hd h)
   obtain⟨h1,h2⟩:=hc
   obtain⟨xs,_,h3⟩:=isd_frzCs h1
   rw[h3] at h2 ⊢
   exact⟨rfl,h2.2⟩
  ·cases ha
 case ex e xs=>exact accX_rd ha hl h
 all_goals (simp only[accI] at ha;repeat' (first|(cases ha;done)|(simp[IK.rd] at ha;done)|split at ha))
theorem accX_wr{e:XO}{vs:List AV}{R:List Nat}{w:Nat}(ha:accX e vs=some (R,some w)){os:List AO}{K:AV->List AO->Prop}(h:exI os K e vs) :
  ∃r o',K r (os.set w o')/\∀os2:List AO,(∀i∈R,os2[i]?=os[i]?)->os2[w]?=os[w]?->∀K':AV->List AO->Prop,K' r (os2.set w o')->exI os2 K' e vs:=by
 unfold accX at ha
 split at ha
 ·rename_i sz by_ s y
  split at ha
  ·rename_i id len
   cases ha
   cases y with
   |d x=>
    cases x with
    |str t=>
     have h:appI os sz by_ (.arr w len) (byteL t) K:=h
     simp only[appI] at h
     split at h
     ·rename_i es sz' frz nl hid
      obtain⟨h1,h2,h3,h4,h5,h6⟩:=h
      refine⟨_,_,h6,λos2 _ hw K' hk=>?_⟩
      show appI os2 sz by_ (.arr w len) (byteL t) K'
      simp only[appI,hw,hid]
      exact⟨h1,h2,h3,h4,h5,hk⟩
     ·exact h.elim
    |_=>exact(show False from h).elim
   |_=>exact(show False from h).elim
  ·cases ha
 ·cases ha
 ·cases ha
 ·cases ha
 ·split at ha<;>cases ha
theorem loc_wr{op:IK}{R:List Nat}{w:Nat}(ha:accI ρ op=some (R,some w)){os:List AO}{K:AV->List AO->Prop}(h:opI P ρ os K op) :
  ∃r o',K r (os.set w o')/\∀os2:List AO,(∀i∈R,os2[i]?=os[i]?)->os2[w]?=os[w]?->∀K':AV->List AO->Prop,K' r (os2.set w o')->opI P ρ os2 K' op:=by
 cases op<;>first|(simp[accI,IK.rd] at ha;done)|skip
 case lkup sk ok g zs m k=>
  simp only[accI] at ha
  split at ha
  ·cases ha
  ·cases ha
 case callp f args=>
  simp only[accI] at ha
  split at ha
  ·rename_i id off as hmap
   split at ha
   ·rename_i hd
    cases ha
    simp only[opI,hmap] at h ⊢
    split at h
    ·rcases h with h|h
     ·have:frzGs os (.ptr w off::as)=none:=rfl
      rw[this] at h
      exact h.elim
     ·split at h
      ·rename_i ob hid
       obtain⟨h0,r,ob',h1,h2⟩:=h
       refine⟨_,_,h2,λos2 _ hw K' hk=>.inr ?_⟩
       rw[hw,hid]
       exact⟨h0,r,ob',h1,hk⟩
      ·exact h.elim
    ·exact h.elim
   ·cases ha
  ·split at ha<;>cases ha
 case store m x v=>
  simp only[accI] at ha
  simp only[opI,storeI] at h ⊢
  split at h
  ·exact h.elim
  ·rename_i vc hvc
   split at ha
   ·rename_i id off e
    cases ha
    rw[e] at h
    simp only at h
    split at h
    ·rename_i cs hid
     obtain⟨h1,h2,h3⟩:=h
     refine⟨_,_,h3,λos2 _ hw K' hk=>?_⟩
     rw[e]
     simp only[hw,hid]
     exact⟨h1,h2,hk⟩
    ·exact h.elim
   ·rename_i id len i off e
    split at ha
    ·rename_i hd
     cases ha
     obtain⟨xs,_,h3⟩:=isd_frzCs (isDB_cells hd hvc)
     rw[e] at h
     simp only[h3] at h
     split at h
     ·rename_i es sz frz nl hid
      obtain⟨h1,h2,h4,h5,h6,h7,h8⟩:=h
      refine⟨_,_,h8,λos2 _ hw K' hk=>?_⟩
      rw[e]
      simp only[h3,hw,hid]
      exact⟨h1,h2,h4,h5,h6,h7,hk⟩
     ·exact h.elim
    ·cases ha
   ·cases ha
 case app sz by_ s x=>
  simp only[accI] at ha
  split at ha
  ·rename_i id len e
   cases ha
   simp only[opI] at h ⊢
   have key:∀ns,appXI os sz by_ (evO ρ s) ns K->∃r o',K r (os.set w o')/\∀os2:List AO,os2[w]?=os[w]?->∀K':AV->List AO->Prop,K' r (os2.set w o')->appXI os2 sz by_ (evO ρ s) ns K':=by
    intro ns h
    rw[e] at h ⊢
    simp only[appXI,appI] at h ⊢
    split at h
    ·rename_i es sz' frz nl hid
     obtain⟨h1,h2,h3,h4,h5,h6⟩:=h
     refine⟨_,_,h6,λos2 hw K' hk=>?_⟩
     simp only[hw,hid]
     exact⟨h1,h2,h3,h4,h5,hk⟩
    ·exact h.elim
   split at h
   ·rename_i id2 len2 ex
    split at h
    ·obtain⟨_,_,h⟩:=h
     rw[e] at h
     exact h.elim
    ·exact h.elim
   unfold newsI at h
   split at h
   ·rename_i ex
    obtain⟨r,o',h1,h2⟩:=key _ h
    exact⟨r,o',h1,λos2 hl hw K' hk=>by rw[ex];simp only[newsI];exact h2 os2 hw K' hk⟩
   ·rename_i es ex
    obtain⟨r,o',h1,h2⟩:=key _ h
    exact⟨r,o',h1,λos2 hl hw K' hk=>by rw[ex];simp only[newsI];exact h2 os2 hw K' hk⟩
   ·rename_i es ex
    obtain⟨r,o',h1,h2⟩:=key _ h
    exact⟨r,o',h1,λos2 hl hw K' hk=>by rw[ex];simp only[newsI];exact h2 os2 hw K' hk⟩
   ·rename_i id2 len2 ex
    split at h
    ·rename_i es sz2 frz nl hid2
     obtain⟨h0,h⟩:=h
     obtain⟨r,o',h1,h2⟩:=key _ h
     refine⟨r,o',h1,λos2 hl hw K' hk=>?_⟩
     rw[ex]
     simp only[newsI]
     rw[hl id2 (by rw[ex];simp[sref]),hid2]
     exact⟨h0,h2 os2 hw K' hk⟩
    ·exact h.elim
   ·exact h.elim
  ·rename_i id len e
   cases ha
   simp only[opI] at h ⊢
   split at h
   ·rename_i id2 len2 ex
    split at h
    ·rename_i ns sz2 hid2
     obtain⟨h0,h00,h⟩:=h
     rw[e] at h
     simp only[apprI] at h
     split at h
     ·rename_i es sz' nl hid
      obtain⟨h1,h2,h3,h4,h5,h6⟩:=h
      refine⟨_,_,h6,λos2 hl hw K' hk=>?_⟩
      rw[hl id2 (by rw[ex];simp[sref]),hid2]
      refine⟨h0,h00,?_⟩
      rw[e]
      simp only[apprI,hw,hid]
      exact⟨h1,h2,h3,h4,h5,hk⟩
     ·exact h.elim
    ·exact h.elim
   ·exfalso
    rw[e] at h
    unfold newsI at h
    split at h
    ·exact h
    ·exact h
    ·exact h
    ·split at h
     ·exact h.2
     ·exact h
    ·exact h
  ·cases ha
 case mupd sk m k v=>
  simp only[accI] at ha
  split at ha
  ·rename_i id e
   cases ha
   simp only[opI] at h ⊢
   rw[e] at h ⊢
   split at h
   ·rename_i id' key e1 e2
    cases e1
    split at h
    ·rename_i kvs hid
     refine⟨_,_,h.2.2,λos2 _ hw K' hk=>?_⟩
     rw[hw,hid]
     exact⟨h.1,h.2.1,hk⟩
    ·exact h.elim
   ·exact h.elim
  ·cases ha
 case alloca id zs=>
  simp only[accI] at ha;cases ha
  simp only[opI] at h ⊢
  split at h
  ·rename_i hid
   exact⟨_,_,h,λos2 _ hw K' hk=>by rw[hw,hid];exact hk⟩
  ·exact h.elim
 case boxa id m x=>
  simp only[accI] at ha;cases ha
  simp only[opI] at h ⊢
  split at h
  ·rename_i xs hid hxs
   exact⟨_,_,h.2,λos2 _ hw K' hk=>by rw[hw,hid,hxs];exact⟨h.1,hk⟩⟩
  ·exact h.elim
 case calln id f args=>
  simp only[accI] at ha
  split at ha
  ·rename_i id0 len as hmap
   split at ha
   ·rename_i hd
    cases ha
    simp only[opI,hmap] at h ⊢
    split at h
    ·split at h
     ·rename_i hid
      obtain⟨h0,es',nl',h1,h2⟩:=h
      refine⟨_,_,h2,λos2 _ hw K' hk=>?_⟩
      rw[hw,hid]
      exact⟨h0,es',nl',h1,hk⟩
     ·exact h.elim
    ·exact h.elim
   ·cases ha
  ·rename_i hne
   split at ha
   ·rename_i hd
    cases ha
    simp only[opI] at h ⊢
    split at h
    ·obtain⟨h0,hid,h⟩:=h
     rcases h with ⟨es,sz,nl,h1,h2⟩|⟨r,h1,h2⟩
     ·refine⟨_,_,h2,λos2 _ hw K' hk=>?_⟩
      exact⟨h0,by rw[hw];exact hid,.inl ⟨es,sz,nl,h1,hk⟩⟩
     ·refine⟨_,_,h2,λos2 _ hw K' hk=>?_⟩
      exact⟨h0,by rw[hw];exact hid,.inr ⟨r,h1,hk⟩⟩
    ·exact h.elim
   ·cases ha
 case appn id sz by_ s x=>
  simp only[accI] at ha
  have h:newsI os (evO ρ x) (λns=>appNI os id sz by_ (evO ρ s) ns K):=h
  have key:∀ns,appNI os id sz by_ (evO ρ s) ns K->∃r o',K r (os.set w o')/\∀os2:List AO,os2[w]?=os[w]?->∀K':AV->List AO->Prop,K' r (os2.set w o')->appNI os2 id sz by_ (evO ρ s) ns K':=by
   intro ns h
   unfold appNI at h
   split at h
   ·rename_i es e
    rw[e] at ha ⊢
    cases ha
    obtain⟨h0,h1,h2,h3,h4,h5,h6⟩:=h
    exact⟨_,_,h6,λos2 hw K' hk=>⟨by rw[hw];exact h0,h1,h2,h3,h4,h5,hk⟩⟩
   ·rename_i e
    rw[e] at ha ⊢
    cases ha
    obtain⟨h0,h1,h3,h4,h5,h6⟩:=h
    exact⟨_,_,h6,λos2 hw K' hk=>⟨by rw[hw];exact h0,h1,h3,h4,h5,hk⟩⟩
   ·rename_i e
    rw[e] at ha ⊢
    cases ha
    obtain⟨h0,h1,h3,h4,h5,h6⟩:=h
    exact⟨_,_,h6,λos2 hw K' hk=>⟨by rw[hw];exact h0,h1,h3,h4,h5,hk⟩⟩
   ·rename_i id0 len e
    rw[e] at ha ⊢
    cases ha
    rw[e] at h
    simp only[appNI,appI] at h ⊢
    split at h
    ·rename_i es sz' frz nl hid
     obtain⟨h1,h2,h3,h4,h5,h6⟩:=h
     refine⟨_,_,h6,λos2 hw K' hk=>?_⟩
     simp only[hw,hid]
     exact⟨h1,h2,h3,h4,h5,hk⟩
    ·exact h.elim
   ·exact h.elim
  have hR:R=sref (evO ρ x):=by
   split at ha<;>first|(cases ha;rfl)|cases ha
  obtain⟨ns,h,k1⟩:=newsI_iff h
  obtain⟨r,o',h1,h2⟩:=key ns h
  refine⟨r,o',h1,λos2 hl hw K' hk=>?_⟩
  exact newsI_loc (os:=os) (K:=λns=>appNI os2 id sz by_ (evO ρ s) ns K') (by rw[<- hR];exact hl) (k1 _ (h2 os2 hw K' hk))
 case callo f args=>
  simp only[accI] at ha
  split at ha
  ·rename_i id len as hmap
   split at ha
   ·rename_i hd
    cases ha
    simp only[opI,hmap] at h ⊢
    split at h
    ·split at h
     ·rename_i hid
      obtain⟨h0,es',nl',h1,h2⟩:=h
      refine⟨_,_,h2,λos2 _ hw K' hk=>?_⟩
      rw[hw,hid]
      exact⟨h0,es',nl',h1,hk⟩
     ·exact h.elim
    ·exact h.elim
   ·cases ha
  ·split at ha<;>cases ha
 case ex e xs=>exact accX_wr ha h
 case bslr id n sz zs ps=>
  simp only[accI] at ha;cases ha
  simp only[opI] at h ⊢
  obtain⟨cs,h1,h2⟩:=fillA_iff h
  split at h1
  ·rename_i hid
   exact⟨_,_,h1,λos2 _ hw K' hk=>h2 _ (by rw[hw,hid];exact hk)⟩
  ·exact h1.elim
def AccOK(ρ:Rho)(o:IOp)(t:Acc):Prop:=gI ρ o.guard (accI ρ o.op=some t) True
def disjA(a b:Acc):Bool:=(match a.2 with|some w=>!(b.1.contains w)&&b.2 != some w|none=>true)&&(match b.2 with|some w=>!(a.1.contains w)|none=>true)
def chkT(ps:List (Nat×Nat))(T:List Acc):Bool:=ps.all λp=>match T[p.1]?,T[p.2]? with
 |some a,some b=>disjA a b
 |_,_=>false
def stepT(P:Program)(o:IOp)(t:Acc)(ρ:Rho)(os:List AO)(K:Rho->List AO->Prop):Prop:=AccOK ρ o t/\stepI P o ρ os K
def opsT(P:Program)(is:List IOp)(T:List Acc):List Nat->Rho->List AO->(Rho->List AO->Prop)->Prop
 |[],ρ,os,K=>K ρ os
 |i::l,ρ,os,K=>match is[i]?,T[i]? with
  |some o,some t=>stepT P o t ρ os λρ' os'=>opsT P is T l ρ' os' K
  |_,_=>False
theorem opsT_ix{is:List IOp}{T:List Acc}{K:Rho->List AO->Prop}(hd:∀o∈is,o.op.det=true):∀{l:List Nat} {ρ:Rho} {os:List AO},opsT P is T l ρ os K->opsIx P is l ρ os K
 |[],ρ,os,h=>h
 |i::l,ρ,os,h=>by
  simp only[opsT,opsIx] at h ⊢
  split at h
  ·rename_i o t ho _
   rw[ho]
   exact stepI_mono (hd o (List.mem_of_getElem? ho)) (λρ' os' hh=>opsT_ix hd hh) h.2
  ·exact h.elim
theorem stepT_mono{o:IOp}{t:Acc}(hd:o.op.det=true){K K':Rho->List AO->Prop}(hk:∀ρ os,K ρ os->K' ρ os)(h:stepT P o t ρ os K):stepT P o t ρ os K':=⟨h.1,stepI_mono hd hk h.2⟩
theorem opsT_mono{is:List IOp}{T:List Acc}{K K':Rho->List AO->Prop}(hd:∀o∈is,o.op.det=true)(hk:∀ρ os,K ρ os->K' ρ os):∀{l:List Nat} {ρ:Rho} {os:List AO},opsT P is T l ρ os K->opsT P is T l ρ os K'
 |[],ρ,os,h=>hk _ _ h
 |i::l,ρ,os,h=>by
  simp only[opsT] at h ⊢
  split at h
  ·rename_i o t ho _
   exact stepT_mono (hd o (List.mem_of_getElem? ho)) (λρ' os' hh=>opsT_mono hd hk hh) h
  ·exact h.elim
theorem opsT_end{is:List IOp}{T:List Acc}{K:Rho->List AO->Prop}{p:Prop}(hd:∀o∈is,o.op.det=true)(hk:∀ρ os,K ρ os->p):∀{l:List Nat} {ρ:Rho} {os:List AO},opsT P is T l ρ os K->p
 |[],ρ,os,h=>hk _ _ h
 |i::l,ρ,os,h=>by
  simp only[opsT] at h
  split at h
  ·rename_i o t ho _
   obtain⟨r,os',_,h2,_⟩:=stepI_gives (hd o (List.mem_of_getElem? ho)) h.2
   exact opsT_end hd hk h2
  ·exact h.elim
theorem AccOK.upd{o:IOp}{d:Option Nat}{r:AV}{t:Acc}(hl:∀t,d=some t->t∉ o.looks):AccOK (updo d r ρ) o t=AccOK ρ o t:=by
 have h1:accI (updo d r ρ) o.op=accI ρ o.op:=accI_congr o.op λx hx=>evO_upd λt ht hm=>hl t ht (by
  unfold IOp.looks
  exact List.mem_append_right _ (List.mem_flatMap.2 ⟨x,hx,hm⟩))
 unfold AccOK
 simp only[h1]
 unfold gI
 cases hg:o.guard with
 |none=>rfl
 |some tw=>
  obtain⟨t,want⟩:=tw
  have:Bi.updo d r ρ t=ρ t:=by
   cases d with
   |none=>rfl
   |some s=>
    have:t≠s:=λe=>hl s rfl (by unfold IOp.looks;rw[hg];simp[e])
    simp[Bi.updo,Bi.upd,this]
  simp only[this]
theorem Gives.loc{o:IOp}{t:Acc}{r:AV}{os os':List AO}(hd:o.op.det=true)(ha:AccOK ρ o t)(g:Gives P o ρ os r os') :
  (os'=os/\∀os2:List AO,(∀i∈t.1,os2[i]?=os[i]?)->Gives P o ρ os2 r os2)\/
  ∃w o',t.2=some w/\os'=os.set w o'/\∀os2:List AO,(∀i∈t.1,os2[i]?=os[i]?)->os2[w]?=os[w]?->Gives P o ρ os2 r (os2.set w o'):=by
 have main:accI ρ o.op=some t->(∀K:AV->List AO->Prop,K r os'->opI P ρ os K o.op)->
   (os'=os/\∀os2:List AO,(∀i∈t.1,os2[i]?=os[i]?)->∀K:AV->List AO->Prop,K r os2->opI P ρ os2 K o.op)\/
   ∃w o',t.2=some w/\os'=os.set w o'/\∀os2:List AO,(∀i∈t.1,os2[i]?=os[i]?)->os2[w]?=os[w]?->∀K:AV->List AO->Prop,K r (os2.set w o')->opI P ρ os2 K o.op:=by
  intro ha g
  obtain⟨R,W⟩:=t
  cases W with
  |none=>
   refine .inl ⟨?_,λos2 hl K hk=>?_⟩
   ·have h1:=g (λ_ os2=>os2=os') rfl
    rw[accI_nw ha] at h1
    obtain⟨_,_,h2,_⟩:=opI_iff hd h1
    exact h2.symm
   ·rw[accI_nw ha]
    exact loc_rd ha hl (g (λr' _=>K r' os2) hk)
  |some w=>
   obtain⟨r0,o',⟨h1,h2⟩,h3⟩:=loc_wr ha (g (λr' os2=>r'=r/\os2=os') ⟨rfl,rfl⟩)
   subst h1
   exact .inr ⟨w,o',rfl,h2.symm,h3⟩
 unfold Gives gI at g
 unfold AccOK gI at ha
 unfold Gives gI
 split at g
 ·rename_i hg
  rw[hg] at ha
  exact main ha g
 ·rename_i x want hg
  rw[hg] at ha
  simp only at ha
  split at g
  ·rename_i b hb
   rw[hb] at ha
   simp only at ha
   by_cases hbw:b=want
   ·have hn:¬b=!want:=by cases b<;>cases want<;>simp_all
    rcases main (ha.1 hbw) (g.1 hbw) with ⟨h1,h2⟩|⟨w,o',h1,h2,h3⟩
    ·exact .inl ⟨h1,λos2 hl=>⟨λ_=>h2 os2 hl,λe=>absurd e hn⟩⟩
    ·exact .inr ⟨w,o',h1,h2,λos2 hl hw=>⟨λ_=>h3 os2 hl hw,λe=>absurd e hn⟩⟩
   ·have hbn:b=!want:=by cases b<;>cases want<;>simp_all
    obtain⟨h1,h2⟩:=g.2 hbn
    exact .inl ⟨h2,λos2 _=>⟨λe=>absurd e hbw,λ_=>⟨h1,by first|rfl|trivial⟩⟩⟩
  ·rename_i hb
   exact .inl ⟨g.2,λos2 _=>⟨g.1,by first|rfl|trivial⟩⟩
  ·exact g.elim
theorem disj_spec{a b:Acc}(h:disjA a b=true):(∀w,a.2=some w->w∉ b.1/\b.2≠some w)/\∀w,b.2=some w->w∉ a.1:=by
 unfold disjA at h
 simp only[Bool.and_eq_true] at h
 refine⟨λw hw=>?_,λw hw=>?_⟩
 ·have:=h.1
  rw[hw] at this
  simp at this
  exact this
 ·have:=h.2
  rw[hw] at this
  simpa using this
theorem commT{x y:IOp}{t1 t2:Acc}{r s:AV}{os1 os2:List AO}(d1:x.op.det=true)(d2:y.op.det=true)(a1:AccOK ρ x t1)(a2:AccOK ρ y t2)(hdis:disjA t1 t2=true)
  (g1:Gives P x ρ os r os1) (g2:Gives P y ρ os1 s os2):∃os',Gives P y ρ os s os'/\Gives P x ρ os' r os2:=by
 obtain⟨q1,q2⟩:=disj_spec hdis
 rcases g1.loc d1 a1 with ⟨rfl,l1⟩|⟨wx,ox,e1,rfl,l1⟩
 ·refine⟨os2,g2,?_⟩
  rcases g2.loc d2 a2 with ⟨rfl,_⟩|⟨wy,oy,e2,rfl,_⟩
  ·exact g1
  ·exact l1 _ λi hi=>List.getElem?_set_ne (λe=>q2 wy e2 (by rw[e];exact hi))
 ·obtain⟨n1,n2⟩:=q1 wx e1
  rcases g2.loc d2 a2 with ⟨rfl,l2⟩|⟨wy,oy,e2,rfl,l2⟩
  ·refine⟨os,l2 os λi hi=>(List.getElem?_set_ne (λe=>n1 (by rw[e];exact hi))).symm,g1⟩
  ·have hne:wx≠wy:=λe=>n2 (by rw[e];exact e2)
   refine⟨os.set wy oy,l2 os (λi hi=>(List.getElem?_set_ne (λe=>n1 (by rw[e];exact hi))).symm) (List.getElem?_set_ne hne).symm,?_⟩
   have:=l1 (os.set wy oy) (λi hi=>List.getElem?_set_ne (λe=>q2 wy e2 (by rw[e];exact hi))) (List.getElem?_set_ne (Ne.symm hne))
   rw[List.set_comm _ _ (Ne.symm hne)] at this
   exact this
theorem commS{x y:IOp}(ha:x.apart y=true){r s:AV}{os1 os2:List AO}(w1:x.op.wr=false->os1=os)(w2:y.op.wr=false->os2=os1)(g1:Gives P x ρ os r os1)(g2:Gives P y ρ os1 s os2) :
  ∃os',Gives P y ρ os s os'/\Gives P x ρ os' r os2:=by
 obtain⟨d1,d2,h1,h2,h3,h4,h5⟩:=apart_spec ha
 by_cases hw1:x.op.wr=true
 ·have hr:=h4 hw1
  have hw2:y.op.wr=false:=by
   cases hq:y.op.wr with
   |false=>rfl
   |true=>rw[wr_rd _ hq] at hr;cases hr
  have:=w2 hw2
  subst this
  exact⟨os,g2.nord hr os,g1⟩
 ·have hw1:x.op.wr=false:=by simpa using hw1
  have:=w1 hw1
  subst this
  refine⟨os2,g2,?_⟩
  by_cases hw2:y.op.wr=true
  ·exact g1.nord (h5 hw2) os2
  ·have hw2:y.op.wr=false:=by simpa using hw2
   have:=w2 hw2
   subst this
   exact g1
theorem apartS_spec{x y:IOp}(h:x.apartS y=true):x.op.det=true/\y.op.det=true/\(∀t,x.dst=some t->t∉ y.looks)/\(∀t,x.dst=some t->y.dst≠some t)/\(∀t,y.dst=some t->t∉ x.looks):=by
 unfold IOp.apartS at h
 simp only[Bool.and_eq_true] at h
 obtain⟨⟨⟨h1,h2⟩,h3⟩,h4⟩:=h
 refine⟨h1,h2,λt ht=>?_,λt ht=>?_,λt ht=>?_⟩
 ·rw[ht] at h3;simp at h3;exact h3.1
 ·rw[ht] at h3;simp at h3;exact h3.2
 ·rw[ht] at h4;simpa using h4
theorem swapT{x y:IOp}{t1 t2:Acc}(hs:x.apartS y=true)(hdis:disjA t1 t2=true\/x.apart y=true){K:Rho->List AO->Prop}(h:stepT P x t1 ρ os λρ' os'=>stepT P y t2 ρ' os' K) :
  stepT P y t2 ρ os λρ' os'=>stepT P x t1 ρ' os' K:=by
 obtain⟨d1,d2,h1,h2,h3⟩:=apartS_spec hs
 obtain⟨a1,h⟩:=h
 obtain⟨r,os1,g1,⟨a2,hA⟩,w1⟩:=stepI_gives d1 h
 obtain⟨s,os2,g2,hB,w2⟩:=stepI_gives d2 hA
 rw[AccOK.upd h1] at a2
 rw[Gives.upd h1] at g2
 have hcomm:updo y.dst s (updo x.dst r ρ)=updo x.dst r (updo y.dst s ρ):=(updo_comm h2).symm
 rw[hcomm] at hB
 have hc:∃os',Gives P y ρ os s os'/\Gives P x ρ os' r os2:=by
  rcases hdis with hd|hd
  ·exact commT d1 d2 a1 a2 hd g1 g2
  ·exact commS hd w1 w2 g1 g2
 obtain⟨os',k1,k2⟩:=hc
 refine⟨a2,k1.step ⟨by rw[AccOK.upd h3];exact a1,?_⟩⟩
 refine Gives.step (r:=r) ?_ hB
 rw[Gives.upd h3]
 exact k2
theorem opsT_first(is:List IOp)(T:List Acc){i:Nat}{o:IOp}{t:Acc}(hi:is[i]?=some o)(ht:T[i]?=some t)(K:Rho->List AO->Prop):∀(l l':List Nat) (ρ:Rho) (os:List AO),
  (∀j∈l,∃x s,is[j]?=some x/\T[j]?=some s/\x.apartS o=true/\(disjA s t=true\/x.apart o=true))->
  opsT P is T (l++i::l') ρ os K->opsT P is T (i::(l++l')) ρ os K
 |[],l',ρ,os,ha,h=>h
 |j::l,l',ρ,os,ha,h=>by
  obtain⟨x,s,hx,hs,hap,hdis⟩:=ha j (by simp)
  have ih:=λρ os=>opsT_first is T hi ht K l l' ρ os (λj hj=>ha j (by simp[hj]))
  simp only[List.cons_append,opsT,hx,hs,hi,ht] at h ih ⊢
  exact swapT hap hdis (stepT_mono (apartS_spec hap).1 (λρ os hh=>ih ρ os hh) h)
theorem reorderT{ops:Array Oper}{is:List IOp}{ps:List (Nat×Nat)}{T:List Acc}(hl:is.length=ops.size)(hT:T.length=is.length)(hd:drawOK2 ops.toList is ps=true)(hp:chkT ps T=true)(K:Rho->List AO->Prop) :
  ∀(fuel t:Nat) (listed:Array Bool) (ρ:Rho) (os:List AO),listed.size=ops.size->(left ops.size listed).length<=fuel->
   (∀i,i<ops.size->listed.getD i true=true->∀j,((anc [] ops.toList).getD i 0).testBit j=true->listed.getD j true=true)->
   opsT P is T (left ops.size listed) ρ os K->opsT P is T (Region.linearise.go .any ops fuel t listed []) ρ os K:=by
 unfold drawOK2 at hd
 simp only[Bool.and_eq_true,List.all_eq_true,List.mem_range] at hd
 obtain⟨⟨hd3,hd1⟩,hd2⟩:=hd
 have hback:∀i o e,ops[i]?=some o->e∈o.after.toList->Region.binds .any e=true->e.on<i:=by
  intro i o e ho he hb
  have hi:=(Array.getElem?_eq_some_iff.1 ho).1
  have:=hd1 i (by simpa using hi)
  rw[show ops.toList[i]?=some o by simpa using ho] at this
  simp only[List.all_eq_true,Bool.or_eq_true,Bool.not_eq_true',decide_eq_true_eq] at this
  rcases this e he with h|h
  ·exact h
  ·rw[hb] at h;cases h
 have hanc:∀i j,((anc [] ops.toList).getD i 0).testBit j=true->∃o,ops[i]?=some o/\∃e∈o.after.toList,Region.binds .any e=true/\(e.on=j\/(e.on<i/\((anc [] ops.toList).getD e.on 0).testBit j=true)):=by
  intro i j h
  obtain⟨o,ho,rest⟩:=(anc_get (ops.toList) []).2.2 i j (Nat.zero_le _) h
  exact⟨o,by simpa using ho,rest⟩
 intro fuel
 induction fuel with
 |zero=>
  intro t listed ρ os hs hf hc h
  have:left ops.size listed=[]:=List.eq_nil_of_length_eq_zero (by omega)
  rw[this] at h
  simpa[Region.linearise.go] using h
 |succ fuel ih=>
  intro t listed ρ os hs hf hc h
  simp only[Region.linearise.go]
  change opsT P is T (match (Region.ready .any ops listed)[t % (Region.ready .any ops listed).length]? with
   |some i=>Region.linearise.go .any ops fuel (t / (Region.ready .any ops listed).length) (listed.setIfInBounds i true) [i]
   |none=>[].reverse) ρ os K
  cases hi:(Region.ready .any ops listed)[t % (Region.ready .any ops listed).length]? with
  |none=>
   have hnil:Region.ready .any ops listed=[]:=by
    cases hr:Region.ready .any ops listed with
    |nil=>rfl
    |cons x xs=>
     rw[hr] at hi
     have hlt:t % (x::xs).length<(x::xs).length:=Nat.mod_lt _ (by simp)
     rw[List.getElem?_eq_getElem hlt] at hi
     cases hi
   have hleft:left ops.size listed=[]:=by
    cases hq:left ops.size listed with
    |nil=>rfl
    |cons x xs=>
     exfalso
     -- the least place that is left is ready
     have hx:x∈left ops.size listed:=by rw[hq];simp
     obtain⟨l,l',e1,_,e3⟩:=left_set ops.size listed x hx hs
     have hl0:l=[]:=by
      rw[hq] at e1
      cases l with
      |nil=>rfl
      |cons y ys=>
       have:=(e3 y (by simp)).1
       injection e1 with e4 _
       omega
     obtain⟨hx1,hx2⟩:=mem_left.1 hx
     have:x∈Region.ready .any ops listed:=by
      unfold Region.ready
      rw[List.mem_filter]
      refine⟨List.mem_range.2 hx1,?_⟩
      simp only[hx2,Bool.not_false,Bool.true_and]
      rw[Array.getElem?_eq_getElem hx1]
      simp only[Option.map_some,Option.getD_some,Array.all_eq_true_iff_forall_mem]
      intro e he
      by_cases hb:Region.binds .any e=true
      ·have hlt:=hback x _ e (Array.getElem?_eq_getElem hx1) (by simpa using he) hb
       have hnl:listed.getD e.on true=true:=by
        by_cases hq2:listed.getD e.on true=true
        ·exact hq2
        ·have hm:e.on∈left ops.size listed:=mem_left.2 ⟨by omega,by simpa using hq2⟩
         rw[e1,hl0] at hm
         simp only[List.nil_append] at hm
         -- everything left is at least x
         exfalso
         have hsorted:∀y∈left ops.size listed,x<=y:=by
          intro y hy
          obtain⟨l2,l2',f1,_,f3⟩:=left_set ops.size listed y hy hs
          rw[hq] at f1
          cases l2 with
          |nil=>injection f1 with f4 _;omega
          |cons z zs=>
           injection f1 with f4 _
           have:=(f3 z (by simp)).1
           omega
         have:=hsorted e.on (by rw[e1,hl0];exact hm)
         omega
       have hlt2:e.on<listed.size:=by omega
       simp[hb]
       simpa[hlt2] using hnl
      ·simp[hb]
     rw[hnil] at this
     cases this
   rw[hleft] at h
   simpa using h
  |some i=>
   have hready:=List.mem_of_getElem? hi
   dsimp only
   rw[linearise_go_acc,List.reverse_singleton,List.singleton_append]
   unfold Region.ready at hready
   rw[List.mem_filter] at hready
   obtain⟨hr1,hr2⟩:=hready
   have hil:=List.mem_range.1 hr1
   rw[Bool.and_eq_true,Array.getElem?_eq_getElem hil] at hr2
   obtain⟨hr2,hr3⟩:=hr2
   have hun:listed.getD i true=false:=by simpa using hr2
   have hafter:∀e∈(ops[i]).after.toList,Region.binds .any e=true->listed.getD e.on true=true:=by
    intro e he hb
    simp only[Option.map_some,Option.getD_some,Array.all_eq_true_iff_forall_mem] at hr3
    have:=hr3 e (by simpa using he)
    simp only[hb,Bool.not_true,Bool.false_or] at this
    have hlt:=hback i _ e (Array.getElem?_eq_getElem hil) he hb
    have hlt2:e.on<listed.size:=by omega
    simpa[hlt2] using this
   have hmem:i∈left ops.size listed:=mem_left.2 ⟨hil,hun⟩
   obtain⟨l,l',e1,e2,e3⟩:=left_set ops.size listed i hmem hs
   have hio:is[i]?=some (is[i]'(by omega)):=List.getElem?_eq_getElem (by omega)
   rw[e1] at h
   have hanci:∀j,((anc [] ops.toList).getD i 0).testBit j=true->listed.getD j true=true:=by
    intro j hj
    obtain⟨o,ho,e,he,hb,hcase⟩:=hanc i j hj
    rw[Array.getElem?_eq_getElem hil] at ho
    cases ho
    have hle:=hafter e he hb
    rcases hcase with rfl|⟨hlt,hb2⟩
    ·exact hle
    ·exact hc e.on (by omega) hle j hb2
   have hTo:T[i]?=some (T[i]'(by omega)):=List.getElem?_eq_getElem (by omega)
   have h:=opsT_first is T hio hTo K l l' ρ os (λj hj=>by
    obtain⟨hji,hjl⟩:=e3 j hj
    obtain⟨hj1,hj2⟩:=mem_left.1 hjl
    refine⟨is[j]'(by omega),T[j]'(by omega),List.getElem?_eq_getElem (by omega),List.getElem?_eq_getElem (by omega),?_⟩
    have:=hd2 i (by omega) j hji
    simp only[Bool.or_eq_true,Bool.and_eq_true] at this
    rcases this with h1|⟨h1,h2⟩
    ·have:=hanci j h1
     rw[hj2] at this
     cases this
    ·have e1:is.getD i default=is[i]'(by omega):=by simp[List.getD_eq_getElem?_getD,List.getElem?_eq_getElem (show i<is.length by omega)]
     have e2:is.getD j default=is[j]'(by omega):=by simp[List.getD_eq_getElem?_getD,List.getElem?_eq_getElem (show j<is.length by omega)]
     rw[e1,e2] at h1 h2
     refine⟨h1,?_⟩
     rcases h2 with h2|h2
     ·refine .inl ?_
      have:=List.all_eq_true.1 hp (j,i) (by simpa using h2)
      simpa[List.getElem?_eq_getElem (show i<T.length by omega),List.getElem?_eq_getElem (show j<T.length by omega)] using this
     ·exact .inr h2) h
   simp only[opsT,hio,hTo] at h ⊢
   have hdet:(is[i]'(by omega)).op.det=true:=hd3 _ (List.getElem_mem _)
   refine stepT_mono hdet (λρ' os' hh=>?_) h
   refine ih _ (listed.setIfInBounds i true) ρ' os' (by simpa using hs) ?_ (λk hk hkl j hj=>?_) (by rw[e2];exact hh)
   ·rw[e2]
    rw[e1] at hf
    simp at hf ⊢
    omega
   ·by_cases hki:k=i
    ·subst hki
     have:=hanci j hj
     by_cases hji:j=k
     ·subst hji
      simp[show j<listed.size by omega]
     ·rw[show(listed.setIfInBounds k true).getD j true=listed.getD j true by simp[Array.getElem?_setIfInBounds_ne (Ne.symm hji)]]
      exact this
    ·rw[show(listed.setIfInBounds i true).getD k true=listed.getD k true by simp[Array.getElem?_setIfInBounds_ne (Ne.symm hki)]] at hkl
     have:=hc k hk hkl j hj
     by_cases hji:j=i
     ·subst hji
      simp[show j<listed.size by omega]
     ·rw[show(listed.setIfInBounds i true).getD j true=listed.getD j true by simp[Array.getElem?_setIfInBounds_ne (Ne.symm hji)]]
      exact this
end
end Go.Bi
