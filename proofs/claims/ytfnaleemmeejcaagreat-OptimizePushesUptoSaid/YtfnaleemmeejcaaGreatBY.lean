/- The evaluator: operations, regions, code; it is sound. No condition. -/
import Derived.Test.YtfnaleemmeejcaaGreatBX
set_option linter.unusedVariables false
namespace Go.Bi
set_option linter.unusedSectionVars false
variable [N0]
def AV.isArr:AV->Bool
 |.arr _ _=>true
 |_=>false
def Go(X:Prop):Prop:=X
def A6n(v:Value)(as:List AV)(K:FuncId->List AV->Prop):Prop:=match A6m v with
 |some (g,ds)=>Cn (as.any AV.ref) False (A0g .d ds λcs=>K g (.agg cs::as))
 |none=>False
theorem D4P{v:Value}{as:List AV}{K:FuncId->List AV->Prop}(h:A6n v as K):∃g ds,A6m v=some (g,ds)/\as.any AV.ref=false/\K g (.agg (ds.map .d)::as):=by
 unfold A6n at h
 split at h
 ·rename_i g ds e
  obtain⟨h1,h2⟩:=A0V.1 h
  cases ha:as.any AV.ref with
  |true=>exact(h1 ha).elim
  |false=>exact⟨g,ds,e,rfl,A0z.1 (h2 ha)⟩
 ·exact h.elim
def xOp(P:Program)(L:Sl)(os:List AO)(K:AV->List AO->Prop):IK->Prop
 |.mv x=>xV L x λv=>K v os
 |.pick c a b=>xV L c λv=>match v with
  |.d (.bool t)=>Cn t (xV L a λv=>K v os) (xV L b λv=>K v os)
  |_=>False
 |.un op x=>xV L x λv=>match v with
  |.d x=>xUn op x λr=>K (.d r) os
  |_=>False
 |.bin op x y=>xV L x λa=>xV L y λb=>C4s op a b λr=>K (.d r) os
 |.eqb neg x y=>xV L x λa=>xV L y λb=>match a,b with
  |.d (.bool a),.d (.bool b)=>Cn neg (K (.d (.bool (!(a==b)))) os) (K (.d (.bool (a==b))) os)
  |_,_=>False
 |.eqs neg ks x y=>xV L x λa=>xV L y λb=>match a,b with
  |.agg cs,.agg ds=>A4g ks cs ds λr=>Cn neg (K (.d (.bool (!r))) os) (K (.d (.bool r)) os)
  |_,_=>False
 |.eqnil neg x=>xV L x λv=>match v with
  |.d .nil=>K (.d (.bool (!neg))) os
  |.d (.sl _)=>K (.d (.bool neg)) os
  |.arr id len=>R4 os id λob=>match ob with
   |.arr es sz frz nl=>G4 (len=es.length) (Cn neg (K (.d (.bool (!nl))) os) (K (.d (.bool nl)) os))
   |_=>False
  |_=>False
 |.conv k x=>xV L x λv=>match v with
  |.d (.int _ n)=>w5 k n λr=>K (.d r) os
  |_=>False
 |.cvs x=>xV L x λv=>match v with
  |.d (.str s)=>K (.d (.str s)) os
  |_=>False
 |.faddr off x=>xV L x λv=>xSh os off v λr=>K r os
 |.field off n agg x=>xV L x λv=>match v with
  |.agg cs=>Cn agg (gcs cs off n λl=>K (.agg l) os) (gc cs off λc=>frc c λc=>K c os)
  |_=>False
 |.ixarr len sz x i=>xV L x λv=>xV L i λj=>match j with
  |.d (.int _ n)=>G4 (0<=n/\n<len) (xSh os (n.toNat*sz) v λr=>K r os)
  |_=>False
 |.ixsl sz x i=>xV L x λv=>xV L i λj=>match j with
  |.d (.int _ n)=>(match v with
   |.d d=>A86 d λes=>G4 (0<=n/\n<es.length) (G4 (∀e∈es,e.length=sz) (K (.dptr es n.toNat 0) os))
   |.arr id len=>R4 os id λob=>match ob with
    |.arr es sz' frz nl=>G4 (len=es.length) (G4 (nl=false) (Cn (Nat.beq sz' sz) (G4 (0<=n/\n<es.length) (K (.aptr id len n.toNat 0) os)) False))
    |_=>False
   |.rs id len=>R4 os id λob=>match ob with
    |.rarr es sz' nl=>G4 (len=es.length) (G4 (nl=false) (Cn (Nat.beq sz' sz) (G4 (0<=n/\n<es.length) (K (.rp id len n.toNat 0) os)) False))
    |_=>False
   |_=>False)
  |_=>False
 |.ixstr x i=>xV L x λv=>xV L i λj=>match v,j with
  |.d (.str s),.d (.int _ n)=>G4 (0<=n/\n<s.length) (K (.d (.int .u8 (s.getD n.toNat 0).toNat)) os)
  |_,_=>False
 |.ixval len sz agg x i=>xV L x λv=>xV L i λj=>match v,j with
  |.agg cs,.d (.int _ n)=>G4 (0<=n/\n<len) (Cn agg (gcs cs (n.toNat*sz) sz λl=>K (.agg l) os) (Cn (Nat.beq sz 1) (gc cs n.toNat λc=>frc c λc=>K c os) False))
  |_,_=>False
 |.slstr x lo hi=>xV L x λv=>match v with
  |.d (.str s)=>A1f L hi s.length λh=>A1f L lo 0 λl=>G4 (0<=l/\l<=h/\h<=s.length) (K (.d (.str ((s.drop l.toNat).take (h.toNat-l.toNat)))) os)
  |_=>False
 |.slsl sz x lo hi=>xV L x λv=>A95 os v λd os1=>match d with
  |.sl es=>A1f L hi es.length λh=>A1f L lo 0 λl=>G4 (0<=l/\l<=h/\h<=es.length) (G4 (∀e∈es,e.length=sz) (K (.d (.sl ((es.drop l.toNat).take (h.toNat-l.toNat)))) os1))
  |.nil=>A1f L hi 0 λh=>A1f L lo 0 λl=>G4 (l=0/\h=0) (K (.d .nil) os1)
  |_=>False
 |.slsld sz x lo hi=>xV L x λv=>match v with
  |.d d=>match d with
   |.sl es=>A1f L hi es.length λh=>A1f L lo 0 λl=>G4 (0<=l/\l<=h/\h<=es.length) (G4 (∀e∈es,e.length=sz) (K (.d (.sl ((es.drop l.toNat).take (h.toNat-l.toNat)))) os))
   |.nil=>A1f L hi 0 λh=>A1f L lo 0 λl=>G4 (l=0/\h=0) (K (.d .nil) os)
   |_=>False
  |_=>False
 |.stop=>False
 |.mkb f x=>xV L x λv=>match v with
  |.agg cs=>match A7x cs with
   |some vs=>K (.d (.lit (.func (.func f) ⟨[.agg ⟨vs⟩]⟩ ⟨[]⟩))) os
   |none=>False
  |.ptr id off=>match off with
   |0=>K (.bcl f id) os
   |_=>False
  |_=>False
 |.build zs parts=>A0g .d zs λcs=>A5k L parts cs λcs=>K (.agg cs) os
 |.bsl n sz zs parts=>A0g .d ((List.replicate n zs).flatten) λcs=>A5k L parts cs λcs=>A4k os cs λxs os1=>LkA (A3m sz n xs λes=>y7 os1 0 λm=>m7 os1 [.arr es sz 0 false] λos2=>K (.arr m n) os2) (G4 (os1=os) (A3m sz n xs λes=>K (.d (.sl es)) os))
 |.bsld n sz zs parts=>A0g .d ((List.replicate n zs).flatten) λcs=>A5k L parts cs λcs=>A4k os cs λxs os1=>G4 (os1=os) (A3m sz n xs λes=>K (.d (.sl es)) os)
 |.clo f caps=>match caps with
  |[]=>K (.d (.fn f)) os
  |_=>B1A L caps λids=>K (.clo f ids) os
 |.ext i x=>xV L x λv=>match v with
  |.tup vs=>gc vs i λc=>frc c λc=>K c os
  |_=>False
 |.lens x=>xV L x λv=>match v with
  |.d (.str s)=>K (.d (.int .i64 s.length)) os
  |_=>False
 |.len x=>xV L x λv=>match v with
  |.d d=>A86 d λes=>K (.d (.int .i64 es.length)) os
  |.arr id len=>R4 os id λob=>match ob with
   |.arr es sz frz nl=>G4 (len=es.length) (K (.d (.int .i64 es.length)) os)
   |_=>False
  |.rs id len=>R4 os id λob=>match ob with
   |.rarr es sz nl=>G4 (len=es.length) (K (.d (.int .i64 es.length)) os)
   |_=>False
  |_=>False
 |.lenk n=>K (.d (.int .i64 n)) os
 |.minmax mx x xs=>xV L x λv=>match v with
  |.d (.int k a)=>xVs L xs λl=>A9i mx k a l λr=>K r os
  |_=>False
 |.load agg n x=>xV L x λv=>B3v os agg n v λr=>K r os
 |.store n x v=>xV L x λa=>xV L v λb=>C4D os n a b λos'=>K .junk os'
 |.alloc zs=>Cn (Nat.ble zs.length 40) (A0g .d zs λcs=>y7 os 0 λm=>m7 os [.cells cs] λos'=>K (.ptr m 0) os') (y7 os 0 λm=>m7 os [.cells (zs.map .d)] λos'=>K (.ptr m 0) os')
 |.box n x=>xV L x λv=>A6t v λxs=>Cn (Nat.beq xs.length n) (y7 os 0 λm=>m7 os [.cells xs] λos'=>K (.ptr m 0) os') False
 |.mksl sz bytes zs len cap=>xV L len λa=>xV L cap λb=>match a,b with
  |.d (.int _ l),.d (.int _ c)=>G4 (0<=l/\l<=c/\c*bytes<=140737488355328/\c<=9223372036854775807) (y7 os 0 λm=>m7 os [.arr (List.replicate l.toNat zs) sz 0 false] λos'=>K (.arr m (List.replicate l.toNat zs).length) os')
  |_,_=>False
 |.app sz bytes s x=>xV L s λa=>xV L x λb=>match b with
  |.rs id2 n8=>R4 os id2 λob=>match ob with
   |.rarr ns sz2 nl=>G4 (nl=false) (G4 (n8=ns.length) (G4 (0<ns.length) (C4r os sz bytes a ns K)))
   |_=>False
  |.d d=>B3w os (.d d) λns=>B3t os sz bytes a ns K
  |.arr id len=>B3w os (.arr id len) λns=>B3t os sz bytes a ns K
  |_=>False
 |.call f args=>xVs L args λvs=>xV L f λg=>Cn (vs.any AV.isArr)
   (A80 (A2h os vs λas os1=>match g with
    |.d (.fn g)=>Cn (as.any AV.ref) (A1h P g as os1 K) (A3f P g as os1 K)
    |.clo g caps=>m7 as (caps.map λid=>.ptr id 0) λas'=>A1h P g as' os1 K
    |.bcl g id=>A1h P g (.ptr id 0::as) os1 K
    |.d (.lit v)=>A6n v as λg as'=>A3f P g as' os1 K
    |_=>False) (match g with
    |.d (.fn g)=>G4 (vs.all AV.one=true) (A1h P g vs os K)
    |_=>False))
   (A2h os vs λas os1=>match g with
    |.d (.fn g)=>Cn (as.any AV.ref) (A1h P g as os1 K) (A3f P g as os1 K)
    |.clo g caps=>m7 as (caps.map λid=>.ptr id 0) λas'=>A1h P g as' os1 K
    |.bcl g id=>A1h P g (.ptr id 0::as) os1 K
    |.d (.lit v)=>A6n v as λg as'=>A3f P g as' os1 K
    |_=>False)
 |.calld f args=>xVs L args λvs=>xV L f λg=>match g with
  |.d (.fn g)=>Cn (vs.any AV.ref) (A2h os vs λas os1=>G4 (os1=os) (B1l P g as os λr=>K r os)) (A10 os vs λas os1=>G4 (os1=os) (A2C P g as λr=>K r os))
  |.bcl g id=>A2h os vs λas os1=>G4 (os1=os) (B1l P g (.ptr id 0::as) os λr=>K r os)
  |_=>False
 |.rstr x=>xV L x λv=>match v with
  |.d (.str s)=>y7 os 0 λm=>m7 os [.iter s 0] λos'=>K (.iter m) os'
  |_=>False
 |.nstr x=>xV L x λv=>match v with
  |.iter id=>R4 os id λob=>match ob with
   |.iter s p=>Cn (decide (p<s.length))
     (f6 os id (.iter s (p+(Utf8.decode ⟨⟨s⟩⟩ p).2)) λos'=>K (.tup [.d (.bool true),.d (.int .i64 p),.d (.int .i32 (Utf8.decode ⟨⟨s⟩⟩ p).1)]) os')
     (K (.tup [.d (.bool false)]) os)
   |_=>False
  |_=>False
 |.nilck x=>xV L x λv=>xSh os 0 v λr=>K r os
 |.callp f args=>xVs L args λvs=>xV L f λg=>match g with
  |.d (.fn g)=>match vs with
   |[]=>A10 os [] λas os1=>G4 (os1=os) (A2C P g as λr=>K r os)
   |v::as=>match v with
    |.ptr id off=>R4 os id λob=>G4 (as.all AV.isDB=true) (B9M P g id off ob as λr=>K r os)
    |v=>A10 os (v::as) λas os1=>G4 (os1=os) (A2C P g as λr=>K r os)
  |_=>False
 |.callo f args=>xVs L args λvs=>xV L f λg=>match g with
  |.d (.fn g)=>match vs with
   |[]=>A10 os [] λas os1=>G4 (os1=os) (A2C P g as λr=>K r os)
   |v::as=>match v with
    |.arr id len=>R4 os id λob=>match ob with
     |.arr es sz frz nl=>G4 (as.all AV.isDB=true) (B7s P g id len as es sz frz nl λes' nl'=>f6 os id (.arr es' sz frz nl') λos'=>K (.arr id es'.length) os')
     |_=>False
    |v=>A10 os (v::as) λas os1=>G4 (os1=os) (A2C P g as λr=>K r os)
  |_=>False
 |.calln id f args=>xVs L args λvs=>xV L f λg=>match g with
  |.d (.fn g)=>A10 os vs λas os1=>G4 (os1=os) (R4 os id λob=>match ob with
   |.hole=>A80 (B9I P g as λes sz nl=>f6 os id (.arr es sz 0 nl) λos'=>K (.arr id es.length) os') (A2C P g as λr=>f6 os id .hole λos'=>K r os')
   |_=>False)
  |_=>False
 |.bslr id n sz zs parts=>A0g .d ((List.replicate n zs).flatten) λcs=>A5k L parts cs λcs=>R4 os id λob=>match ob with
  |.hole=>dsK cs (λds=>A3m sz n ds λes=>f6 os id (.arr es sz 0 false) λos'=>K (.arr id n) os') (A3m sz n cs λes=>f6 os id (.rarr es sz false) λos'=>K (.rs id n) os')
  |_=>False
 |.alloca id zs=>R4 os id λob=>match ob with
  |.hole=>A0g .d zs λcs=>f6 os id (.cells cs) λos'=>K (.ptr id 0) os'
  |_=>False
 |.boxa id n x=>xV L x λv=>A6t v λxs=>Cn (Nat.beq xs.length n) (R4 os id λob=>match ob with
  |.hole=>f6 os id (.cells xs) λos'=>K (.ptr id 0) os'
  |_=>False) False
 |.mkmap=>y7 os 0 λm=>m7 os [.map []] λos'=>K (.mp m) os'
 |.lkup sk ok g zs m k=>xV L m λa=>xV L k λb=>match a,b with
  |.mp id,.d key=>R4 os id λob=>match ob with
   |.map kvs=>LkA (B0P sk ok g zs key kvs λr=>frc r λr=>K r os) (B0P sk ok g zs key kvs λr=>match r with
    |.d .nil=>R4 os (id+1) λob=>match ob with
     |.arr [] _ _ true=>K (.arr (id+1) 0) os
     |_=>False
    |_=>False)
   |_=>False
  |_,_=>False
 |.mupd sk m k v=>xV L m λa=>xV L k λb=>xV L v λc=>match a,b with
  |.mp id,.d key=>R4 os id λob=>match ob with
   |.map kvs=>Cn c.one (B7O sk key c kvs λkvs'=>f6 os id (.map kvs') λos'=>K .junk os') False
   |_=>False
  |_,_=>False
 |.rmap x=>xV L x λv=>match v with
  |.mp id=>R4 os id λob=>match ob with
   |.map kvs=>y7 os 0 λm=>m7 os [.mit id kvs.length []] λos'=>K (.mit m) os'
   |_=>False
  |_=>False
 |.nmap x=>xV L x λv=>match v with
  |.mit id=>R4 os id λob=>match ob with
   |.mit m n seen=>R4 os m λob=>match ob with
    |.map kvs=>D1w n seen kvs (λi p=>Go (f6 os id (.mit m n (seen++[i])) λos'=>K (.tup [.d (.bool true),.d p.1,p.2]) os')) (Go (K (.tup [.d (.bool false)]) os))
    |_=>False
   |_=>False
  |_=>False
 |.entry x=>xV L x λv=>match v with
  |.mit id=>R4 os id λob=>match ob with
   |.mit m n seen=>R4 os m λob=>match ob with
    |.map kvs=>D1v n seen kvs λp=>K (.tup [.d p.1,p.2]) os
    |_=>False
   |_=>False
  |_=>False
theorem A21{ρ:D5}{x:Option C1}{dflt:Nat}{K K':Int->Prop}(hk:∀n,K n->K' n)(h:V1 ρ x dflt K):V1 ρ x dflt K':=by
 cases x with
 |none=>exact hk _ h
 |some x=>
  simp only[V1] at h ⊢
  split at h
  ·rename_i e;exact hk _ h
  ·exact h.elim
theorem C2F{os:List AO}{x:AV}{K K':List (List D)->Prop}(hk:∀n,K n->K' n)(h:p7 os x K):p7 os x K':=by
 unfold p7 at h ⊢
 split at h
 ·exact hk _ h
 ·exact hk _ h
 ·split at h
  ·exact⟨h.1,hk _ h.2⟩
  ·exact h.elim
 ·exact h.elim
theorem A8Z{ρ:D5}{K K':List AV->Prop}(hk:∀n,K n->K' n):∀{ps:List (Nat×Nat×C1)}{cs:List AV},Q5 ρ ps cs K->Q5 ρ ps cs K'
 |[],cs,h=>hk _ h
 |(off,n,x)::ps,cs,h=>by
  unfold Q5 at h ⊢
  split at h
  ·rename_i xs e
   exact⟨h.1,h.2.1,A8Z hk h.2.2⟩
  ·exact h.elim
theorem A2c{os:List AO}{K:Nat->Prop}(h:y7 os 0 K):K os.length:=by
 have:=B2k.1 h
 rwa [A0Q] at this
theorem A1S{M:D4}{G:Gh}{n:Nat}{c:AV}{u:Value}(h:VC M G [] c u):u3 n c=c:=by
 cases c with
 |ptr id off=>obtain⟨_,cs,h⟩:=h;simp at h
 |aptr id len i off=>obtain⟨_,es,sz,frz,nl,h,_⟩:=h;simp at h
 |arr id len=>obtain⟨_,es,sz,frz,nl,h,_⟩:=h;simp at h
 |rs id len=>obtain⟨_,es,sz,nl,h,_⟩:=h;simp at h
 |rp id len i off=>obtain⟨_,es,sz,nl,h,_⟩:=h;simp at h
 |iter id=>obtain⟨_,s,p,h⟩:=h;simp at h
 |mp id=>obtain⟨_,kvs,h⟩:=h;simp at h
 |mit id=>obtain⟨_,m,k,s,h⟩:=h;simp at h
 |clo f caps=>
  obtain⟨_,h⟩:=h
  cases caps with
  |nil=>rfl
  |cons c l=>obtain⟨cs,h⟩:=h c (by simp);simp at h
 |bcl f id=>obtain⟨_,cs,h⟩:=h;simp at h
 |_=>rfl
theorem A1d{M:D4}{G:Gh}{n:Nat}{c:AV}{u:Value}(h:VG M G [] c u):shG n c=c:=by
 cases c with
 |agg cs=>
  obtain⟨vs,rfl,h1,h2⟩:=h
  simp only[shG]
  congr 1
  conv=>rhs;rw[<- v8 cs]
  refine P5 λc hc=>?_
  obtain⟨j,hj⟩:=A43 hc
  have hlt:j<vs.size:=by rw[h1];exact(B4.1 hj).1
  exact A1S (h2 j c vs[j] hj (O0 hlt))
 |ptr id off=>exact A1S (M:=M) (G:=G) (u:=u) (c:=.ptr id off) h
 |aptr id len i off=>exact A1S (M:=M) (G:=G) (u:=u) (c:=.aptr id len i off) h
 |arr id len=>exact A1S (M:=M) (G:=G) (u:=u) (c:=.arr id len) h
 |iter id=>exact A1S (M:=M) (G:=G) (u:=u) (c:=.iter id) h
 |mp id=>exact A1S (M:=M) (G:=G) (u:=u) (c:=.mp id) h
 |mit id=>exact A1S (M:=M) (G:=G) (u:=u) (c:=.mit id) h
 |rs id len=>exact A1S (M:=M) (G:=G) (u:=u) (c:=.rs id len) h
 |rp id len i off=>exact A1S (M:=M) (G:=G) (u:=u) (c:=.rp id len i off) h
 |clo f caps=>exact A1S (M:=M) (G:=G) (u:=u) (c:=.clo f caps) h
 |bcl f id=>exact A1S (M:=M) (G:=G) (u:=u) (c:=.bcl f id) h
 |d x=>rfl
 |dptr es i off=>rfl
 |junk=>rfl
 |tup cs=>rfl
theorem D9Y{M:D4}{G:Gh}{n:Nat}{c:AV}{u:Value}(h:VA M G [] c u):shA n c=c:=by
 cases c with
 |tup cs=>
  obtain⟨vs,rfl,h1,h2⟩:=h
  simp only[shA]
  congr 1
  conv=>rhs;rw[<- v8 cs]
  refine P5 λc hc=>?_
  obtain⟨j,hj⟩:=A43 hc
  have hlt:j<vs.size:=by rw[h1];exact(B4.1 hj).1
  exact A1d (h2 j c vs[j] hj (O0 hlt))
 |agg cs=>exact A1d (M:=M) (G:=G) (u:=u) (c:=.agg cs) h
 |ptr id off=>exact A1d (M:=M) (G:=G) (u:=u) (c:=.ptr id off) h
 |aptr id len i off=>exact A1d (M:=M) (G:=G) (u:=u) (c:=.aptr id len i off) h
 |arr id len=>exact A1d (M:=M) (G:=G) (u:=u) (c:=.arr id len) h
 |iter id=>exact A1d (M:=M) (G:=G) (u:=u) (c:=.iter id) h
 |mp id=>exact A1d (M:=M) (G:=G) (u:=u) (c:=.mp id) h
 |mit id=>exact A1d (M:=M) (G:=G) (u:=u) (c:=.mit id) h
 |rs id len=>exact A1d (M:=M) (G:=G) (u:=u) (c:=.rs id len) h
 |rp id len i off=>exact A1d (M:=M) (G:=G) (u:=u) (c:=.rp id len i off) h
 |clo f caps=>exact A1d (M:=M) (G:=G) (u:=u) (c:=.clo f caps) h
 |bcl f id=>exact A1d (M:=M) (G:=G) (u:=u) (c:=.bcl f id) h
 |d x=>rfl
 |dptr es i off=>rfl
 |junk=>rfl
theorem D8P{P:Program}{g:FuncId}{as:List AV}{r:AV}(h:Pure P g as r){os1:List AO}{K:AV->List AO->Prop}(hk:K r os1):B9 P g as [] λr os2=>K (shA os1.length r) (os1++os2.map (Y6 os1.length)):=by
 refine⟨h.1,λM G w vs he hl hv=>(h.2 M G w vs he hl hv).mono λe w' ⟨v,he,M',G',r',os',h1,h2,h3,h4,h5⟩=>?_⟩
 subst h4
 subst h5
 refine⟨v,he,M',G',r',[],h1,h2,h3,?_⟩
 show K (shA os1.length r') (os1++[])
 rw[D9Y h3]
 simpa using hk
theorem C4x{P:Program}{L:Sl}{os:List AO}{K:AV->List AO->Prop}{op:IK}(h:xOp P L os K op):A7 P (E8 L) os K op:=by
 cases op with
 |mv x=>exact H1 (K:=λv=>K v os) h
 |pick c a b=>
  have h1:=H1 h
  simp only[A7]
  split at h1
  ·rename_i t e
   rw[e]
   obtain⟨h2,h3⟩:=A0V.1 h1
   exact⟨λht=>H1 (K:=λv=>K v os) (h2 ht),λht=>H1 (K:=λv=>K v os) (h3 ht)⟩
  ·exact h1.elim
 |un op x=>
  have h1:=H1 h
  simp only[A7]
  split at h1
  ·rename_i d e;rw[e];exact E0q h1
  ·exact h1.elim
 |bin op x y=>exact E0m (H1 (H1 h))
 |eqb neg x y=>
  have h1:=H1 (H1 h)
  simp only[A7]
  split at h1
  ·rename_i a b e1 e2
   rw[e1,e2]
   cases neg<;>exact h1
  ·exact h1.elim
 |eqs neg ks x y=>
  have h1:=H1 (H1 h)
  simp only[A7]
  split at h1
  ·rename_i a b e1 e2
   rw[e1,e2]
   obtain⟨r,h2,h3⟩:=D61 h1
   simp only[h2]
   cases neg<;>exact h3
  ·exact h1.elim
 |eqnil neg x=>
  have h1:=H1 h
  simp only[A7]
  split at h1
  ·rename_i e;rw[e];exact h1
  ·rename_i es e;rw[e];exact h1
  ·rename_i id len e
   rw[e]
   obtain⟨ob,h2,h3⟩:=Q6 h1
   cases ob with
   |arr es sz frz nl=>
    obtain⟨h4,h5⟩:=h3
    simp only[h2]
    refine⟨h4,?_⟩
    cases neg<;>exact h5
   |_=>exact h3.elim
  ·exact h1.elim
 |conv k x=>
  have h1:=H1 h
  simp only[A7]
  split at h1
  ·rename_i k n e;rw[e];exact h1.h
  ·exact h1.elim
 |cvs x=>
  have h1:=H1 h
  simp only[A7]
  split at h1
  ·rename_i s e;rw[e];exact h1
  ·exact h1.elim
 |faddr off x=>exact B3y (H1 h)
 |field off n agg x=>
  have h1:=H1 h
  simp only[A7]
  split at h1
  ·rename_i cs e
   rw[e]
   cases agg with
   |true=>exact A98 (K:=λl=>K (.agg l) os) h1
   |false=>
    obtain⟨c,h3,h4⟩:=A1C (K:=λc=>frc c λc=>K c os) h1
    exact⟨(B4.1 h3).1,by rw[A1D h3];exact A28.1 h4⟩
  ·exact h1.elim
 |ixarr len sz x i=>
  have h1:=H1 (H1 h)
  simp only[A7]
  split at h1
  ·rename_i k n e
   rw[e]
   obtain⟨⟨h2,h3⟩,h4⟩:=h1
   exact⟨h2,h3,B3y h4⟩
  ·exact h1.elim
 |ixsl sz x i=>
  have h1:=H1 (H1 h)
  simp only[A7]
  split at h1
  ·rename_i k n e
   rw[e]
   simp only
   split at h1
   ·rename_i d e2
    rw[e2]
    obtain⟨⟨es,h2,⟨h3,h4⟩,h5,h6⟩⟩:=h1
    rcases h2 with ⟨rfl,rfl⟩|rfl
    ·simp at h4;omega
    ·exact⟨h3,h4,h5,h6⟩
   ·rename_i id len e2
    rw[e2]
    obtain⟨ob,h2,h3⟩:=Q6 h1
    cases ob with
    |arr es sz' frz nl=>
     obtain⟨a1,a2,a3⟩:=h3
     obtain⟨a4,⟨a5,a6⟩,a7⟩:=Y4.1 a3
     simp only[h2]
     exact⟨a1,U3 a4,a5,a6,a2,a7⟩
    |_=>exact h3.elim
   ·rename_i id len e2
    rw[e2]
    obtain⟨ob,h2,h3⟩:=Q6 h1
    cases ob with
    |rarr es sz' nl=>
     obtain⟨a1,a2,a3⟩:=h3
     obtain⟨a4,⟨a5,a6⟩,a7⟩:=Y4.1 a3
     simp only[h2]
     exact⟨a1,U3 a4,a5,a6,a2,a7⟩
    |_=>exact h3.elim
   ·exact h1.elim
  ·exact h1.elim
 |ixstr x i=>
  have h1:=H1 (H1 h)
  simp only[A7]
  split at h1
  ·rename_i s k n e1 e2
   rw[e1,e2]
   obtain⟨⟨h2,h3⟩,h4⟩:=h1
   exact⟨h2,h3,h4⟩
  ·exact h1.elim
 |ixval len sz agg x i=>
  have h1:=H1 (H1 h)
  simp only[A7]
  split at h1
  ·rename_i cs k n e1 e2
   rw[e1,e2]
   obtain⟨⟨h2,h3⟩,h4⟩:=h1
   refine⟨h2,h3,?_⟩
   cases agg with
   |true=>exact A98 (K:=λl=>K (.agg l) os) h4
   |false=>
    obtain⟨h5,h6⟩:=Y4.1 h4
    obtain⟨c,h7,h8⟩:=A1C h6
    exact⟨U3 h5,(B4.1 h7).1,by rw[A1D h7];exact A28.1 h8⟩
  ·exact h1.elim
 |slstr x lo hi=>
  have h1:=H1 h
  simp only[A7]
  split at h1
  ·rename_i s e
   rw[e]
   have key:∀h,(A1f L lo 0 λl=>G4 (0<=l/\l<=h/\h<=s.length) (K (.d (.str ((s.drop l.toNat).take (h.toNat-l.toNat)))) os))->V1 (E8 L) lo 0 λl=>0<=l/\l<=h/\h<=s.length/\K (.d (.str ((s.drop l.toNat).take (h.toNat-l.toNat)))) os:=by
    intro h hh
    refine A21 (λl=>?_) (A2q hh)
    rintro⟨⟨a,b,c⟩,d⟩
    exact⟨a,b,c,d⟩
   exact A21 (λh hh=>key h hh) (A2q h1)
  ·exact h1.elim
 |slsl sz x lo hi=>
  have h1:=H1 h
  simp only[A7]
  obtain⟨d,os1,h2,h3⟩:=B28 h1
  simp only[slI,h2]
  split at h3
  ·rename_i es
   simp only
   refine A21 (λh hh=>?_) (A2q h3)
   refine A21 (λl=>?_) (A2q hh)
   rintro⟨⟨a,b,c⟩,d,e⟩
   exact⟨a,b,c,d,e⟩
  ·simp only
   refine A21 (λh hh=>?_) (A2q h3)
   refine A21 (λl=>?_) (A2q hh)
   rintro⟨⟨a,b⟩,c⟩
   exact⟨a,b,c⟩
  ·exact h3.elim
 |slsld sz x lo hi=>
  have h1:=H1 h
  simp only[A7]
  split at h1
  ·rename_i d e
   rw[e]
   split at h1
   ·simp only[A2Z]
    refine A21 (λh hh=>?_) (A2q h1)
    refine A21 (λl=>?_) (A2q hh)
    rintro⟨⟨a,b,c⟩,d,e⟩
    exact⟨a,b,c,d,e⟩
   ·simp only[A2Z]
    refine A21 (λh hh=>?_) (A2q h1)
    refine A21 (λl=>?_) (A2q hh)
    rintro⟨⟨a,b⟩,c⟩
    exact⟨a,b,c⟩
   ·exact h1.elim
  ·exact h1.elim
 |stop=>exact h.elim
 |mkb f x=>
  have h1:=H1 h
  simp only[A7]
  split at h1
  ·rename_i cs e
   rw[e]
   exact h1
  ·rename_i id off e
   rw[e]
   cases off with
   |zero=>exact h1
   |succ _=>exact h1.elim
  ·exact h1.elim
 |build zs parts=>exact A6P (K:=λcs=>K (.agg cs) os) (A0z.1 h)
 |bsl n sz zs parts=>
  have h1:=A6P (A0z.1 h)
  simp only[A7]
  refine A8Z (λcs h1=>?_) h1
  obtain⟨xs,os1,h2,h3⟩:=A6V h1
  simp only[h2]
  rcases h3.h with h3|h3
  ·exact .inl (A06.1 (A2c (A55.1 h3)))
  ·obtain⟨h4,h5⟩:=h3
   exact .inr ⟨h4,(A55 (K:=λes=>K (.d (.sl es)) os)).1 h5⟩
 |bsld n sz zs parts=>
  have h1:=A6P (A0z.1 h)
  simp only[A7]
  refine A8Z (λcs h1=>?_) h1
  obtain⟨xs,os1,h2,h3,h4⟩:=A6V h1
  simp only[h2]
  exact⟨h3,(A55 (K:=λes=>K (.d (.sl es)) os)).1 h4⟩
 |clo f caps=>
  cases caps with
  |nil=>exact h
  |cons c l=>
   obtain⟨ids,h1,h2⟩:=C0o (L:=L) (xs:=c::l) (K:=λids=>K (.clo f ids) os) h
   simp only[A7,h1]
   exact h2
 |ext i x=>
  have h1:=H1 h
  simp only[A7]
  split at h1
  ·rename_i vs e
   rw[e]
   obtain⟨c,h3,h4⟩:=A1C h1
   exact⟨(B4.1 h3).1,by rw[A1D h3];exact A28.1 h4⟩
  ·exact h1.elim
 |lens x=>
  have h1:=H1 h
  simp only[A7]
  split at h1
  ·rename_i s e;rw[e];exact h1
  ·exact h1.elim
 |len x=>
  have h1:=H1 h
  simp only[A7]
  split at h1
  ·rename_i d e
   rw[e]
   obtain⟨⟨es,h2,h3⟩⟩:=h1
   rcases h2 with ⟨rfl,rfl⟩|rfl
   ·exact h3
   ·exact h3
  ·rename_i id len e
   rw[e]
   obtain⟨ob,h2,h3⟩:=Q6 h1
   cases ob with
   |arr es sz frz nl=>simp only[h2];exact⟨h3.1,h3.2⟩
   |_=>exact h3.elim
  ·rename_i id len e
   rw[e]
   obtain⟨ob,h2,h3⟩:=Q6 h1
   cases ob with
   |rarr es sz nl=>simp only[h2];exact⟨h3.1,h3.2⟩
   |_=>exact h3.elim
  ·exact h1.elim
 |lenk n=>exact h
 |minmax mx x xs=>
  have h1:=H1 h
  simp only[A7]
  split at h1
  ·rename_i k a e
   rw[e]
   exact B2r (A1T h1)
  ·exact h1.elim
 |load agg n x=>exact C4v (H1 h)
 |store n x v=>exact E0p (H1 (H1 h))
 |alloc zs=>
  obtain⟨h1,h2⟩:=A0V.1 h
  cases hb:Nat.ble zs.length 40 with
  |true=>exact A06.1 (A2c ((A0z (f:=AV.d)).1 (h1 hb)))
  |false=>exact A06.1 (A2c (h2 hb))
 |box n x=>
  obtain⟨xs,h1,h2⟩:=A8C (H1 h)
  obtain⟨h3,h4⟩:=Y4.1 h2
  simp only[A7,h1]
  exact⟨U3 h3,A06.1 (A2c h4)⟩
 |mksl sz bytes zs len cap=>
  have h1:=H1 (H1 h)
  simp only[A7]
  split at h1
  ·rename_i k l k' c e1 e2
   rw[e1,e2]
   obtain⟨⟨a,b,c,d⟩,h2⟩:=h1
   have:=A06.1 (A2c h2)
   rw[A38] at this
   exact⟨a,b,c,d,this⟩
  ·exact h1.elim
 |app sz bytes s x=>
  have h1:=H1 (H1 h)
  simp only[A7]
  split at h1
  ·rename_i id2 n8 e
   rw[e]
   obtain⟨ob,h2,h3⟩:=Q6 h1
   cases ob with
   |rarr ns sz2 nl=>
    obtain⟨h4,h5,h6,h7⟩:=h3
    subst h4
    simp only[h2]
    exact⟨h5,h6,E0j h7⟩
   |_=>exact h3.elim
  ·rename_i d e
   rw[e]
   exact C2F (λns hn=>C4q hn) (C4w h1)
  ·rename_i id len e
   rw[e]
   exact C2F (λns hn=>C4q hn) (C4w h1)
  ·exact h1.elim
 |call f args=>
  have hg:=H1 (A1T h)
  have frz:(A2h os (args.map (C0 (E8 L))) λas os1=>match C0 (E8 L) f with
    |.d (.fn g)=>Cn (as.any AV.ref) (A1h P g as os1 K) (A3f P g as os1 K)
    |.clo g caps=>m7 as (caps.map λid=>.ptr id 0) λas'=>A1h P g as' os1 K
    |.bcl g id=>A1h P g (.ptr id 0::as) os1 K
    |.d (.lit v)=>A6n v as λg as'=>A3f P g as' os1 K
    |_=>False)->A7 P (E8 L) os K (.call f args):=by
   intro h
   obtain⟨as,os1,h1,h3⟩:=A7i h
   simp only[A7,h1]
   refine .inl ?_
   split at h3
   ·rename_i g e
    rw[e]
    simp only
    cases hr:as.any AV.ref with
    |true=>
     rw[hr] at h3
     simp only[if_true]
     exact h3.h
    |false=>
     rw[hr] at h3
     simp only[O2,if_false]
     exact h3.h
   ·rename_i g caps e
    rw[e]
    exact(A06.1 h3).h
   ·rename_i g id e
    rw[e]
    exact h3.h
   ·rename_i v e
    rw[e]
    obtain⟨g,ds,h4,h5,h6⟩:=D4P h3
    simp only[h4]
    exact⟨h5,h6.h⟩
   ·exact h3.elim
  obtain⟨h1,h2⟩:=A0V.1 hg
  cases ha:(args.map (C0 (E8 L))).any AV.isArr with
  |false=>exact frz (h2 ha)
  |true=>
   rcases(h1 ha).h with h3|h3
   ·exact frz h3
   ·simp only[A7]
    refine .inr ?_
    split at h3
    ·rename_i e
     rw[e]
     exact⟨h3.1,h3.2.h⟩
    ·exact h3.elim
 |calld f args=>
  have h2:=H1 (A1T h)
  simp only[A7]
  split at h2
  ·rename_i g e
   rw[e]
   obtain⟨h3,h4⟩:=A0V.1 h2
   cases hr:(List.map (C0 (E8 L)) args).any AV.ref with
   |true=>
    obtain⟨as,os1,h1,h3,⟨r,h4,h5⟩⟩:=A7i (h3 hr)
    refine .inr ?_
    simp only[h1]
    exact⟨h3,r,h4,h5⟩
   |false=>
    obtain⟨as,os1,h1,h3,⟨r,h4,h5⟩⟩:=A4l (h4 hr)
    refine .inl ?_
    simp only[h1]
    exact⟨h3,r,h4,h5⟩
  ·rename_i g id e
   rw[e]
   obtain⟨as,os1,h1,h3,⟨r,h4,h5⟩⟩:=A7i h2
   simp only[h1]
   exact⟨h3,r,h4,h5⟩
  ·exact h2.elim
 |rstr x=>
  have h1:=H1 h
  simp only[A7]
  split at h1
  ·rename_i s e;rw[e];exact A06.1 (A2c h1)
  ·exact h1.elim
 |nstr x=>
  have h1:=H1 h
  simp only[A7]
  split at h1
  ·rename_i id e
   rw[e]
   obtain⟨ob,h2,h3⟩:=Q6 h1
   cases ob with
   |iter s p=>
    simp only[h2]
    obtain⟨h4,h5⟩:=A0V.1 h3
    exact⟨λhp=>u0.1 (h4 (decide_eq_true hp)),λhp=>h5 (decide_eq_false (by omega))⟩
   |_=>exact h3.elim
  ·exact h1.elim
 |callp f args=>
  have h2:=H1 (A1T h)
  simp only[A7]
  split at h2
  ·rename_i g e
   rw[e]
   have pure:∀as:List AV,(A10 os as λas os1=>G4 (os1=os) (A2C P g as λr=>K r os))->match Z5 os as with
    |some (as,os1)=>os1=os/\∃r,B9 P g as [] (λr' os2=>r'=r/\os2=[])/\K r os
    |none=>False:=λas h=>by
    obtain⟨as',os1,h1,h3,⟨r,h4,h5⟩⟩:=A4l h
    simp only[h1]
    exact⟨h3,r,h4,h5⟩
   generalize hvs:args.map (C0 (E8 L))=vs at h2 ⊢
   match vs,h2 with
   |[],h2=>exact .inl (pure _ h2)
   |v::as,h2=>
    cases v with
    |ptr id off=>
     obtain⟨ob,h5,h6⟩:=Q6 h2
     obtain⟨h7,⟨r,h8,h9⟩⟩:=h6
     refine .inr ?_
     simp only[h5]
     exact⟨h7,r,h8,h9⟩
    |_=>exact .inl (pure _ h2)
  ·exact h2.elim
 |callo f args=>
  have h2:=H1 (A1T h)
  simp only[A7]
  split at h2
  ·rename_i g e
   rw[e]
   have pure:∀as:List AV,(A10 os as λas os1=>G4 (os1=os) (A2C P g as λr=>K r os))->match Z5 os as with
    |some (as,os1)=>os1=os/\∃r,B9 P g as [] (λr' os2=>r'=r/\os2=[])/\K r os
    |none=>False:=λas h=>by
    obtain⟨as',os1,h1,h3,⟨r,h4,h5⟩⟩:=A4l h
    simp only[h1]
    exact⟨h3,r,h4,h5⟩
   generalize hvs:args.map (C0 (E8 L))=vs at h2 ⊢
   match vs,h2 with
   |[],h2=>exact pure _ h2
   |v::as,h2=>
    cases v with
    |arr id len=>
     obtain⟨ob,h5,h6⟩:=Q6 h2
     cases ob with
     |arr es sz frz nl=>
      obtain⟨h7,⟨es',nl',h8,h9⟩⟩:=h6
      simp only[h5]
      exact⟨h7,es',nl',h8,u0.1 h9⟩
     |_=>exact h6.elim
    |_=>exact pure _ h2
  ·exact h2.elim
 |calln id f args=>
  have h2:=H1 (A1T h)
  simp only[A7]
  split at h2
  ·rename_i g e
   rw[e]
   obtain⟨as,os1,h1,h3,h4⟩:=A4l h2
   simp only[h1]
   obtain⟨ob,h5,h6⟩:=Q6 h4
   cases ob with
   |hole=>
    obtain⟨h6⟩:=h6
    rcases h6 with ⟨es,sz,nl,h7,h8⟩|⟨r,h7,h8⟩
    ·exact⟨h3,h5,.inl ⟨es,sz,nl,h7,u0.1 h8⟩⟩
    ·exact⟨h3,h5,.inr ⟨r,h7,u0.1 h8⟩⟩
   |_=>exact h6.elim
  ·exact h2.elim
 |bslr id n sz zs parts=>
  have h1:=A6P (A0z.1 h)
  simp only[A7]
  refine A8Z (λcs h1=>?_) h1
  obtain⟨ob,h5,h6⟩:=Q6 h1
  simp only[h5]
  cases ob with
  |hole=>
   have h7:=C15 h6
   simp only[B2n,B2m]
   cases hds:A26 cs with
   |some ds=>
    rw[hds] at h7
    exact u0.1 ((A55 (K:=λes=>f6 os id (.arr es sz 0 false) λos'=>K (.arr id n) os')).1 h7)
   |none=>
    rw[hds] at h7
    exact u0.1 ((A55 (K:=λes=>f6 os id (.rarr es sz false) λos'=>K (.rs id n) os')).1 h7)
  |_=>exact h6.elim
 |alloca id zs=>
  obtain⟨ob,h2,h3⟩:=Q6 h
  simp only[A7,h2]
  cases ob with
  |hole=>exact u0.1 (A0z.1 h3)
  |_=>exact h3.elim
 |boxa id n x=>
  obtain⟨xs,h1,h2⟩:=A8C (H1 h)
  obtain⟨h3,h4⟩:=Y4.1 h2
  obtain⟨ob,h5,h6⟩:=Q6 h4
  simp only[A7,h1,h5]
  cases ob with
  |hole=>exact⟨U3 h3,u0.1 h6⟩
  |_=>exact h6.elim
 |mkmap=>exact A06.1 (A2c h)
 |lkup sk ok g zs m k=>
  have h1:=H1 (H1 h)
  simp only[A7]
  split at h1
  ·rename_i id key e1 e2
   rw[e1,e2]
   obtain⟨ob,h2,h3⟩:=Q6 h1
   simp only[h2]
   cases ob with
   |map kvs=>
    simp only
    obtain⟨⟨⟨h4,r,h5,h6⟩⟩|⟨⟨h4,r,h5,h6⟩⟩⟩:=h3
    ·exact⟨h4,.inl (by rw[h5];exact A28.1 h6)⟩
    ·refine⟨h4,.inr ?_⟩
     split at h6
     ·obtain⟨ob,h7,h8⟩:=Q6 h6
      split at h8
      ·exact⟨h5,_,_,h7,h8⟩
      ·exact h8.elim
     ·exact h6.elim
   |_=>exact h3.elim
  ·exact h1.elim
 |mupd sk m k v=>
  have h1:=H1 (H1 (H1 h))
  simp only[A7]
  split at h1
  ·rename_i id key e1 e2
   rw[e1,e2]
   obtain⟨ob,h2,h3⟩:=Q6 h1
   simp only[h2]
   cases ob with
   |map kvs=>
    obtain⟨h4,⟨h5,h6⟩⟩:=Y4.1 h3
    exact⟨h5,h4,u0.1 h6⟩
   |_=>exact h3.elim
  ·exact h1.elim
 |rmap x=>
  have h1:=H1 h
  simp only[A7]
  split at h1
  ·rename_i id e
   rw[e]
   obtain⟨ob,h2,h3⟩:=Q6 h1
   simp only[h2]
   cases ob with
   |map kvs=>exact A06.1 (A2c h3)
   |_=>exact h3.elim
  ·exact h1.elim
 |nmap x=>
  have h1:=H1 h
  simp only[A7]
  split at h1
  ·rename_i id e
   rw[e]
   obtain⟨ob,h2,h3⟩:=Q6 h1
   simp only[h2]
   cases ob with
   |mit m n seen=>
    obtain⟨ob,h4,h5⟩:=Q6 h3
    simp only[h4]
    cases ob with
    |map kvs=>
     obtain⟨k0,k1,k2⟩:=h5
     exact⟨k0,λi p hi hp=>u0.1 (k1 i p hi hp),k2⟩
    |_=>exact h5.elim
   |_=>exact h3.elim
  ·exact h1.elim
 |entry x=>
  have h1:=H1 h
  simp only[A7]
  split at h1
  ·rename_i id e
   rw[e]
   obtain⟨ob,h2,h3⟩:=Q6 h1
   simp only[h2]
   cases ob with
   |mit m n seen=>
    obtain⟨ob,h4,h5⟩:=Q6 h3
    simp only[h4]
    cases ob with
    |map kvs=>
     obtain⟨⟨k0,i,p,k1,k2,k3⟩⟩:=h5
     simp only[k1,k2]
     exact⟨k0,k3⟩
    |_=>exact h5.elim
   |_=>exact h3.elim
  ·exact h1.elim
 |nilck x=>exact B3y (H1 h)
end Go.Bi
