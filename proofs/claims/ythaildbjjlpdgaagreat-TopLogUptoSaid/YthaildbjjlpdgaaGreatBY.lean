/- The evaluator: operations, regions, code; it is sound. No condition. -/
import Derived.Test.YthaildbjjlpdgaaGreatBX
set_option linter.unusedVariables false
namespace Go.Bi
set_option linter.unusedSectionVars false
variable [Globs]
def AV.isArr:AV->Bool
 |.arr _ _=>true
 |.full _=>true
 |.sub ..=>true
 |_=>false
def AV.isPart:AV->Bool
 |.full _=>true
 |.sub ..=>true
 |_=>false
def Go(X:Prop):Prop:=X
def bndK(v:Value)(as:List AV)(K:FuncId->List AV->Prop):Prop:=match bndF v with
 |some (g,ds)=>Cn (as.any AV.ref) False (mapK .d ds λcs=>K g (.agg cs::as))
 |none=>False
theorem bndK_ok{v:Value}{as:List AV}{K:FuncId->List AV->Prop}(h:bndK v as K):∃g ds,bndF v=some (g,ds)/\as.any AV.ref=false/\K g (.agg (ds.map .d)::as):=by
 unfold bndK at h
 split at h
 ·rename_i g ds e
  obtain⟨h1,h2⟩:=cn_both.1 h
  cases ha:as.any AV.ref with
  |true=>exact(h1 ha).elim
  |false=>exact⟨g,ds,e,rfl,mapK_eq.1 (h2 ha)⟩
 ·exact h.elim
def ownK(P:Program)(g:FuncId)(as:List AV)(os:List AO)(id:Nat)(K:AV->List AO->Prop):Prop:=Chk (as.all AV.isDF=true) (getO os id λob=>match ob with
 |.hole=>CallA (OwnC P g as λes sz nl=>setK os id (.arr es sz 0 nl) λos'=>K (.arr id es.length) os') (PureC P g as λr=>setK os id .hole λos'=>K r os')
 |_=>False)
def xOp(P:Program)(L:Sl)(os:List AO)(K:AV->List AO->Prop):IK->Prop
 |.mv x=>xV L x λv=>K v os
 |.pick c a b=>xV L c λv=>match v with
  |.d (.bool t)=>Cn t (xV L a λv=>K v os) (xV L b λv=>K v os)
  |_=>False
 |.un op x=>xV L x λv=>match v with
  |.d x=>xUn op x λr=>K (.d r) os
  |_=>False
 |.bin op x y=>xV L x λa=>xV L y λb=>xBin op a b λr=>K (.d r) os
 |.eqb neg x y=>xV L x λa=>xV L y λb=>match a,b with
  |.d (.bool a),.d (.bool b)=>Cn neg (K (.d (.bool (!(a==b)))) os) (K (.d (.bool (a==b))) os)
  |_,_=>False
 |.eqs neg ks x y=>xV L x λa=>xV L y λb=>match a,b with
  |.agg cs,.agg ds=>eqLK ks cs ds λr=>Cn neg (K (.d (.bool (!r))) os) (K (.d (.bool r)) os)
  |_,_=>False
 |.eqnil neg x=>xV L x λv=>match v with
  |.d .nil=>K (.d (.bool (!neg))) os
  |.d (.sl _)=>K (.d (.bool neg)) os
  |.arr id len=>getO os id λob=>match ob with
   |.arr es sz frz nl=>Chk (len=es.length) (Cn neg (K (.d (.bool (!nl))) os) (K (.d (.bool nl)) os))
   |_=>False
  |_=>False
 |.conv k x=>xV L x λv=>match v with
  |.d (.int _ n)=>WrK k n λr=>K (.d r) os
  |_=>False
 |.cvs x=>xV L x λv=>match v with
  |.d (.str s)=>K (.d (.str s)) os
  |_=>False
 |.faddr off x=>xV L x λv=>xSh os off v λr=>K r os
 |.field off n agg x=>xV L x λv=>match v with
  |.agg cs=>Cn agg (gcs cs off n λl=>K (.agg l) os) (gc cs off λc=>frc c λc=>K c os)
  |_=>False
 |.ixarr len sz x i=>xV L x λv=>xV L i λj=>match j with
  |.d (.int _ n)=>Chk (0<=n/\n<len) (xSh os (n.toNat*sz) v λr=>K r os)
  |_=>False
 |.ixsl sz x i=>xV L x λv=>xV L i λj=>match j with
  |.d (.int _ n)=>(match v with
   |.d d=>GetSl d λes=>Chk (0<=n/\n<es.length) (Chk (∀e∈es,e.length=sz) (K (.dptr es n.toNat 0) os))
   |.arr id len=>getO os id λob=>match ob with
    |.arr es sz' frz nl=>Chk (len=es.length) (Chk (nl=false) (Cn (Nat.beq sz' sz) (Chk (0<=n/\n<es.length) (K (.aptr id len n.toNat 0) os)) False))
    |_=>False
   |.rs id len=>getO os id λob=>match ob with
    |.rarr es sz' nl=>Chk (len=es.length) (Chk (nl=false) (Cn (Nat.beq sz' sz) (Chk (0<=n/\n<es.length) (K (.rp id len n.toNat 0) os)) False))
    |_=>False
   |.sub id tot lo k=>getO os id λob=>match ob with
    |.arr es sz' frz nl=>Chk (tot=es.length) (Chk (nl=false) (Cn (Nat.beq sz' sz) (Chk (0<=n/\n<k) (K (.aptr id tot (lo+n.toNat) 0) os)) False))
    |_=>False
   |_=>False)
  |_=>False
 |.ixstr x i=>xV L x λv=>xV L i λj=>match v,j with
  |.d (.str s),.d (.int _ n)=>Chk (0<=n/\n<s.length) (K (.d (.int .u8 (s.getD n.toNat 0).toNat)) os)
  |_,_=>False
 |.ixval len sz agg x i=>xV L x λv=>xV L i λj=>match v,j with
  |.agg cs,.d (.int _ n)=>Chk (0<=n/\n<len) (Cn agg (gcs cs (n.toNat*sz) sz λl=>K (.agg l) os) (Cn (Nat.beq sz 1) (gc cs n.toNat λc=>frc c λc=>K c os) False))
  |_,_=>False
 |.slstr x lo hi=>xV L x λv=>match v with
  |.d (.str s)=>xBnd L hi s.length λh=>xBnd L lo 0 λl=>Chk (0<=l/\l<=h/\h<=s.length) (K (.d (.str ((s.drop l.toNat).take (h.toNat-l.toNat)))) os)
  |_=>False
 |.slsl sz x lo hi=>xV L x λv=>frzCK os v λd os1=>match d with
  |.sl es=>xBnd L hi es.length λh=>xBnd L lo 0 λl=>Chk (0<=l/\l<=h/\h<=es.length) (Chk (∀e∈es,e.length=sz) (K (.d (.sl ((es.drop l.toNat).take (h.toNat-l.toNat)))) os1))
  |.nil=>xBnd L hi 0 λh=>xBnd L lo 0 λl=>Chk (l=0/\h=0) (K (.d .nil) os1)
  |_=>False
 |.slsld sz x lo hi=>xV L x λv=>match v with
  |.d d=>match d with
   |.sl es=>xBnd L hi es.length λh=>xBnd L lo 0 λl=>Chk (0<=l/\l<=h/\h<=es.length) (Chk (∀e∈es,e.length=sz) (K (.d (.sl ((es.drop l.toNat).take (h.toNat-l.toNat)))) os))
   |.nil=>xBnd L hi 0 λh=>xBnd L lo 0 λl=>Chk (l=0/\h=0) (K (.d .nil) os)
   |_=>False
  |_=>False
 |.stop=>False
 |.mkb f x=>xV L x λv=>match v with
  |.agg cs=>match simVs cs with
   |some vs=>K (.d (.lit (.func (.func f) ⟨[.agg ⟨vs⟩]⟩ ⟨[]⟩))) os
   |none=>False
  |.ptr id off=>match off with
   |0=>K (.bcl f id) os
   |_=>False
  |_=>False
 |.build zs parts=>mapK .d zs λcs=>fillK L parts cs λcs=>K (.agg cs) os
 |.bsl n sz zs parts=>mapK .d ((List.replicate n zs).flatten) λcs=>fillK L parts cs λcs=>frzCsK os cs λxs os1=>LkA (chunksK sz n xs λes=>lenK os1 0 λm=>appK os1 [.arr es sz 0 false] λos2=>K (.arr m n) os2) (Chk (os1=os) (chunksK sz n xs λes=>K (.d (.sl es)) os))
 |.bsld n sz zs parts=>mapK .d ((List.replicate n zs).flatten) λcs=>fillK L parts cs λcs=>frzCsK os cs λxs os1=>Chk (os1=os) (chunksK sz n xs λes=>K (.d (.sl es)) os)
 |.clo f caps=>match caps with
  |[]=>K (.d (.fn f)) os
  |_=>capsK L caps λids=>K (.clo f ids) os
 |.ext i x=>xV L x λv=>match v with
  |.tup vs=>gc vs i λc=>frc c λc=>K c os
  |_=>False
 |.lens x=>xV L x λv=>match v with
  |.d (.str s)=>K (.d (.int .i64 s.length)) os
  |_=>False
 |.len x=>xV L x λv=>match v with
  |.d d=>GetSl d λes=>K (.d (.int .i64 es.length)) os
  |.arr id len=>getO os id λob=>match ob with
   |.arr es sz frz nl=>Chk (len=es.length) (K (.d (.int .i64 es.length)) os)
   |_=>False
  |.rs id len=>getO os id λob=>match ob with
   |.rarr es sz nl=>Chk (len=es.length) (K (.d (.int .i64 es.length)) os)
   |_=>False
  |.sub id tot lo k=>getO os id λob=>match ob with
   |.arr es sz frz nl=>Chk (tot=es.length) (Chk (nl=false) (K (.d (.int .i64 k)) os))
   |_=>False
  |.full es=>K (.d (.int .i64 es.length)) os
  |_=>False
 |.lenk n=>K (.d (.int .i64 n)) os
 |.minmax mx x xs=>xV L x λv=>match v with
  |.d (.int k a)=>xVs L xs λl=>minmaxK mx k a l λr=>K r os
  |_=>False
 |.load agg n x=>xV L x λv=>xLoad os agg n v λr=>K r os
 |.store n x v=>xV L x λa=>xV L v λb=>xStore os n a b λos'=>K .junk os'
 |.alloc zs=>Cn (Nat.ble zs.length 40) (mapK .d zs λcs=>lenK os 0 λm=>appK os [.cells cs] λos'=>K (.ptr m 0) os') (lenK os 0 λm=>appK os [.cells (zs.map .d)] λos'=>K (.ptr m 0) os')
 |.box n x=>xV L x λv=>cellsK v λxs=>Cn (Nat.beq xs.length n) (lenK os 0 λm=>appK os [.cells xs] λos'=>K (.ptr m 0) os') False
 |.mksl sz bytes zs len cap=>xV L len λa=>xV L cap λb=>match a,b with
  |.d (.int _ l),.d (.int _ c)=>Chk (0<=l/\l<=c/\c*bytes<=140737488355328/\c<=9223372036854775807) (lenK os 0 λm=>appK os [.arr (List.replicate l.toNat zs) sz 0 false] λos'=>K (.arr m (List.replicate l.toNat zs).length) os')
  |_,_=>False
 |.app sz bytes s x=>xV L s λa=>xV L x λb=>match b with
  |.rs id2 len2=>getO os id2 λob=>match ob with
   |.rarr ns sz2 nl=>Chk (nl=false) (Chk (len2=ns.length) (Chk (0<ns.length) (xAppr os sz bytes a ns K)))
   |_=>False
  |.d d=>xNews os (.d d) λns=>xAppX os sz bytes a ns K
  |.arr id len=>xNews os (.arr id len) λns=>xAppX os sz bytes a ns K
  |_=>False
 |.appn id sz bytes s x=>xV L s λa=>xV L x λb=>xNews os b λns=>xAppN os id sz bytes a ns K
 |.ex e xs=>xVs L xs λvs=>xEx os K e vs
 |.call f args=>xVs L args λvs=>xV L f λg=>Cn (vs.any AV.isPart) (match g with
   |.d (.fn g)=>Cn (vs.all AV.isDF) (NewC P g vs os K) (Chk (vs.all AV.one=true) (CallW P g vs os K))
   |_=>False) (Cn (vs.any AV.isArr)
   (CallA (prepK os vs λas os1=>match g with
    |.d (.fn g)=>Cn (as.any AV.ref) (CallW P g as os1 K) (NewC P g as os1 K)
    |.clo g caps=>appK as (caps.map λid=>.ptr id 0) λas'=>CallW P g as' os1 K
    |.bcl g id=>CallW P g (.ptr id 0::as) os1 K
    |.d (.lit v)=>bndK v as λg as'=>NewC P g as' os1 K
    |_=>False) (match g with
    |.d (.fn g)=>Chk (vs.all AV.one=true) (CallW P g vs os K)
    |_=>False))
   (prepK os vs λas os1=>match g with
    |.d (.fn g)=>Cn (as.any AV.ref) (CallW P g as os1 K) (NewC P g as os1 K)
    |.clo g caps=>appK as (caps.map λid=>.ptr id 0) λas'=>CallW P g as' os1 K
    |.bcl g id=>CallW P g (.ptr id 0::as) os1 K
    |.d (.lit v)=>bndK v as λg as'=>NewC P g as' os1 K
    |_=>False))
 |.calld f args=>xVs L args λvs=>xV L f λg=>match g with
  |.d (.fn g)=>Cn (vs.any AV.ref) (prepK os vs λas os1=>Chk (os1=os) (PureR P g as os λr=>K r os)) (frzGsK os vs λas os1=>Chk (os1=os) (PureC P g as λr=>K r os))
  |.bcl g id=>prepK os vs λas os1=>Chk (os1=os) (PureR P g (.ptr id 0::as) os λr=>K r os)
  |_=>False
 |.rstr x=>xV L x λv=>match v with
  |.d (.str s)=>lenK os 0 λm=>appK os [.iter s 0] λos'=>K (.iter m) os'
  |_=>False
 |.nstr x=>xV L x λv=>match v with
  |.iter id=>getO os id λob=>match ob with
   |.iter s p=>Cn (decide (p<s.length))
     (setK os id (.iter s (p+(Utf8.decode ⟨⟨s⟩⟩ p).2)) λos'=>K (.tup [.d (.bool true),.d (.int .i64 p),.d (.int .i32 (Utf8.decode ⟨⟨s⟩⟩ p).1)]) os')
     (K (.tup [.d (.bool false)]) os)
   |_=>False
  |_=>False
 |.nilck x=>xV L x λv=>xSh os 0 v λr=>K r os
 |.callp f args=>xVs L args λvs=>xV L f λg=>match g with
  |.d (.fn g)=>match vs with
   |[]=>frzGsK os [] λas os1=>Chk (os1=os) (PureC P g as λr=>K r os)
   |v::as=>match v with
    |.ptr id off=>getO os id λob=>Chk (as.all AV.isDB=true) (PureA P g id off ob as λr ob'=>setK os id ob' λos'=>K r os')
    |v=>frzGsK os (v::as) λas os1=>Chk (os1=os) (PureC P g as λr=>K r os)
  |_=>False
 |.callo f args=>xVs L args λvs=>xV L f λg=>match g with
  |.d (.fn g)=>match vs with
   |[]=>frzGsK os [] λas os1=>Chk (os1=os) (PureC P g as λr=>K r os)
   |v::as=>match v with
    |.arr id len=>getO os id λob=>match ob with
     |.arr es sz frz nl=>Chk (as.all AV.isDB=true) (InPl P g id len as es sz frz nl λes' nl'=>setK os id (.arr es' sz frz nl') λos'=>K (.arr id es'.length) os')
     |_=>False
    |v=>frzGsK os (v::as) λas os1=>Chk (os1=os) (PureC P g as λr=>K r os)
  |_=>False
 |.calln id f args=>xVs L args λvs=>xV L f λg=>match g with
  |.d (.fn g)=>match vs with
   |[]=>ownK P g [] os id K
   |v::as=>match v with
    |.arr id0 len=>getO os id0 λob=>match ob with
     |.arr es sz frz nl=>Chk (as.all AV.isDB=true) (InPl P g id0 len as es sz frz nl λes' nl'=>setK os id0 (.arr es' sz frz nl') λos'=>K (.arr id0 es'.length) os')
     |_=>False
    |v=>ownK P g (v::as) os id K
  |_=>False
 |.bslr id n sz zs parts=>mapK .d ((List.replicate n zs).flatten) λcs=>fillK L parts cs λcs=>getO os id λob=>match ob with
  |.hole=>dsK cs (λds=>chunksK sz n ds λes=>setK os id (.arr es sz 0 false) λos'=>K (.arr id n) os') (chunksK sz n cs λes=>setK os id (.rarr es sz false) λos'=>K (.rs id n) os')
  |_=>False
 |.alloca id zs=>getO os id λob=>match ob with
  |.hole=>mapK .d zs λcs=>setK os id (.cells cs) λos'=>K (.ptr id 0) os'
  |_=>False
 |.boxa id n x=>xV L x λv=>cellsK v λxs=>Cn (Nat.beq xs.length n) (getO os id λob=>match ob with
  |.hole=>setK os id (.cells xs) λos'=>K (.ptr id 0) os'
  |_=>False) False
 |.mkmap=>lenK os 0 λm=>appK os [.map []] λos'=>K (.mp m) os'
 |.lkup sk ok g zs m k=>xV L m λa=>xV L k λb=>match a,b with
  |.mp id,.d key=>getO os id λob=>match ob with
   |.map kvs=>LkA (MGet sk ok g zs key kvs λr=>frc r λr=>K r os) (MGet sk ok g zs key kvs λr=>match r with
    |.d .nil=>getO os (id+1) λob=>match ob with
     |.arr [] _ _ true=>K (.arr (id+1) 0) os
     |_=>False
    |_=>False)
   |_=>False
  |_,_=>False
 |.mupd sk m k v=>xV L m λa=>xV L k λb=>xV L v λc=>match a,b with
  |.mp id,.d key=>getO os id λob=>match ob with
   |.map kvs=>Cn c.one (MPut sk key c kvs λkvs'=>setK os id (.map kvs') λos'=>K .junk os') False
   |_=>False
  |_,_=>False
 |.rmap x=>False
 |.nmap x=>False
 |.entry x=>False
theorem bndI_mono{ρ:Rho}{x:Option Opd}{dflt:Nat}{K K':Int->Prop}(hk:∀n,K n->K' n)(h:bndI ρ x dflt K):bndI ρ x dflt K':=by
 cases x with
 |none=>exact hk _ h
 |some x=>
  simp only[bndI] at h ⊢
  split at h
  ·rename_i e;exact hk _ h
  ·exact h.elim
theorem newsI_mono{os:List AO}{x:AV}{K K':List (List D)->Prop}(hk:∀n,K n->K' n)(h:newsI os x K):newsI os x K':=by
 unfold newsI at h ⊢
 split at h
 ·exact hk _ h
 ·exact hk _ h
 ·exact hk _ h
 ·split at h
  ·exact⟨h.1,hk _ h.2⟩
  ·exact h.elim
 ·exact h.elim
theorem fillA_mono{ρ:Rho}{K K':List AV->Prop}(hk:∀n,K n->K' n):∀{ps:List (Nat×Nat×Opd)} {cs:List AV},fillA ρ ps cs K->fillA ρ ps cs K'
 |[],cs,h=>hk _ h
 |(off,n,x)::ps,cs,h=>by
  unfold fillA at h ⊢
  split at h
  ·rename_i xs e
   exact⟨h.1,h.2.1,fillA_mono hk h.2.2⟩
  ·exact h.elim
theorem lenK0{os:List AO}{K:Nat->Prop}(h:lenK os 0 K):K os.length:=by
 have:=lenK_eq.1 h
 rwa [Nat.zero_add] at this
theorem vc_sh{M:Mem}{G:Gh}{n:Nat}{c:AV}{u:Value}(h:VC M G [] c u):shC n c=c:=by
 cases c with
 |ptr id off=>obtain⟨_,cs,h⟩:=h;simp at h
 |aptr id len i off=>obtain⟨_,es,sz,frz,nl,h,_⟩:=h;simp at h
 |arr id len=>obtain⟨_,es,sz,frz,nl,h,_⟩:=h;simp at h
 |sub id tot lo k=>obtain⟨_,es,sz,frz,nl,h,_⟩:=h;simp at h
 |rs id len=>obtain⟨_,es,sz,nl,h,_⟩:=h;simp at h
 |rp id len i off=>obtain⟨_,es,sz,nl,h,_⟩:=h;simp at h
 |iter id=>obtain⟨_,s,p,h⟩:=h;simp at h
 |mp id=>obtain⟨_,kvs,h⟩:=h;simp at h
 |mit id=>obtain⟨_,m,k,s,h⟩:=h;simp at h
 |clo f caps=>
  obtain⟨_,h⟩:=h
  cases caps with
  |nil=>rfl
  |cons c l=>obtain⟨cs,h⟩:=h c (by simp);simp at h
 |bcl f id=>obtain⟨_,cs,h⟩:=h;simp at h
 |_=>rfl
theorem vg_sh{M:Mem}{G:Gh}{n:Nat}{c:AV}{u:Value}(h:VG M G [] c u):shG n c=c:=by
 cases c with
 |agg cs=>
  obtain⟨vs,rfl,h1,h2⟩:=h
  simp only[shG]
  congr 1
  conv=>rhs;rw[<- List.map_id cs]
  refine List.map_congr_left λc hc=>?_
  obtain⟨j,hj⟩:=List.getElem?_of_mem hc
  have hlt:j<vs.size:=by rw[h1];exact(List.getElem?_eq_some_iff.1 hj).1
  exact vc_sh (h2 j c vs[j] hj (Array.getElem?_eq_getElem hlt))
 |ptr id off=>exact vc_sh (M:=M) (G:=G) (u:=u) (c:=.ptr id off) h
 |aptr id len i off=>exact vc_sh (M:=M) (G:=G) (u:=u) (c:=.aptr id len i off) h
 |arr id len=>exact vc_sh (M:=M) (G:=G) (u:=u) (c:=.arr id len) h
 |iter id=>exact vc_sh (M:=M) (G:=G) (u:=u) (c:=.iter id) h
 |mp id=>exact vc_sh (M:=M) (G:=G) (u:=u) (c:=.mp id) h
 |mit id=>exact vc_sh (M:=M) (G:=G) (u:=u) (c:=.mit id) h
 |rs id len=>exact vc_sh (M:=M) (G:=G) (u:=u) (c:=.rs id len) h
 |rp id len i off=>exact vc_sh (M:=M) (G:=G) (u:=u) (c:=.rp id len i off) h
 |full es=>rfl
 |sub id tot lo n=>exact vc_sh (M:=M) (G:=G) (u:=u) (c:=.sub id tot lo n) h
 |clo f caps=>exact vc_sh (M:=M) (G:=G) (u:=u) (c:=.clo f caps) h
 |bcl f id=>exact vc_sh (M:=M) (G:=G) (u:=u) (c:=.bcl f id) h
 |d x=>rfl
 |dptr es i off=>rfl
 |junk=>rfl
 |tup cs=>rfl
theorem va_sh{M:Mem}{G:Gh}{n:Nat}{c:AV}{u:Value}(h:VA M G [] c u):shA n c=c:=by
 cases c with
 |tup cs=>
  obtain⟨vs,rfl,h1,h2⟩:=h
  simp only[shA]
  congr 1
  conv=>rhs;rw[<- List.map_id cs]
  refine List.map_congr_left λc hc=>?_
  obtain⟨j,hj⟩:=List.getElem?_of_mem hc
  have hlt:j<vs.size:=by rw[h1];exact(List.getElem?_eq_some_iff.1 hj).1
  exact vg_sh (h2 j c vs[j] hj (Array.getElem?_eq_getElem hlt))
 |agg cs=>exact vg_sh (M:=M) (G:=G) (u:=u) (c:=.agg cs) h
 |ptr id off=>exact vg_sh (M:=M) (G:=G) (u:=u) (c:=.ptr id off) h
 |aptr id len i off=>exact vg_sh (M:=M) (G:=G) (u:=u) (c:=.aptr id len i off) h
 |arr id len=>exact vg_sh (M:=M) (G:=G) (u:=u) (c:=.arr id len) h
 |iter id=>exact vg_sh (M:=M) (G:=G) (u:=u) (c:=.iter id) h
 |mp id=>exact vg_sh (M:=M) (G:=G) (u:=u) (c:=.mp id) h
 |mit id=>exact vg_sh (M:=M) (G:=G) (u:=u) (c:=.mit id) h
 |rs id len=>exact vg_sh (M:=M) (G:=G) (u:=u) (c:=.rs id len) h
 |rp id len i off=>exact vg_sh (M:=M) (G:=G) (u:=u) (c:=.rp id len i off) h
 |full es=>rfl
 |sub id tot lo n=>exact vg_sh (M:=M) (G:=G) (u:=u) (c:=.sub id tot lo n) h
 |clo f caps=>exact vg_sh (M:=M) (G:=G) (u:=u) (c:=.clo f caps) h
 |bcl f id=>exact vg_sh (M:=M) (G:=G) (u:=u) (c:=.bcl f id) h
 |d x=>rfl
 |dptr es i off=>rfl
 |junk=>rfl
theorem pure_call{P:Program}{g:FuncId}{as:List AV}{r:AV}(h:Pure P g as r){os1:List AO}{K:AV->List AO->Prop}(hk:K r os1):CallSpec P g as [] λr os2=>K (shA os1.length r) (os1++os2.map (shO os1.length)):=by
 refine⟨h.1,λM G w vs he hl hv=>(h.2 M G w vs he hl hv).mono λe w' ⟨v,he,M',G',r',os',h1,h2,h3,h4,h5⟩=>?_⟩
 subst h4
 subst h5
 refine⟨v,he,M',G',r',[],h1,h2,h3,?_⟩
 show K (shA os1.length r') (os1++[])
 rw[va_sh h3]
 simpa using hk
theorem isDF_all{as:List AV}(h:as.all AV.isDF=true):as.all AV.one=true:=by
 rw[List.all_eq_true] at h ⊢
 intro x hx
 have:=h x hx
 cases x<;>first|rfl|cases this
theorem new_call{P:Program}{g:FuncId}{as:List AV}{os:List AO}{K:AV->List AO->Prop}(h:CallSpec P g as [] λr os2=>K (shA os.length r) (os++os2.map (shO os.length)))(hd:as.all AV.isDF=true):CallSpec P g as os K:=by
 refine⟨h.1,λM G w vs he hl hv=>?_⟩
 refine(h.2 M G w vs he.none hl λj a v ha hv'=>(hv j a v ha hv').of_isDF (List.all_eq_true.1 hd a (List.mem_of_getElem? ha))).mono ?_
 rintro e w' ⟨v,rfl,M',G',r,os2,h1,h2,h3,h4⟩
 obtain⟨q1,q2⟩:=env_join he h1 h2
 exact⟨v,rfl,M',_,_,_,q1,q2,VA.shift (G:=G) (os:=os) h3,h4⟩
theorem xOp_ok{P:Program}{L:Sl}{os:List AO}{K:AV->List AO->Prop}{op:IK}(h:xOp P L os K op):opI P (ofL L) os K op:=by
 cases op with
 |mv x=>exact xV_ok (K:=λv=>K v os) h
 |pick c a b=>
  have h1:=xV_ok h
  simp only[opI]
  split at h1
  ·rename_i t e
   rw[e]
   obtain⟨h2,h3⟩:=cn_both.1 h1
   exact⟨λht=>xV_ok (K:=λv=>K v os) (h2 ht),λht=>xV_ok (K:=λv=>K v os) (h3 ht)⟩
  ·exact h1.elim
 |un op x=>
  have h1:=xV_ok h
  simp only[opI]
  split at h1
  ·rename_i d e;rw[e];exact xUn_ok h1
  ·exact h1.elim
 |bin op x y=>exact xBin_ok (xV_ok (xV_ok h))
 |eqb neg x y=>
  have h1:=xV_ok (xV_ok h)
  simp only[opI]
  split at h1
  ·rename_i a b e1 e2
   rw[e1,e2]
   cases neg<;>exact h1
  ·exact h1.elim
 |eqs neg ks x y=>
  have h1:=xV_ok (xV_ok h)
  simp only[opI]
  split at h1
  ·rename_i a b e1 e2
   rw[e1,e2]
   obtain⟨r,h2,h3⟩:=eqLK_ok h1
   simp only[h2]
   cases neg<;>exact h3
  ·exact h1.elim
 |eqnil neg x=>
  have h1:=xV_ok h
  simp only[opI]
  split at h1
  ·rename_i e;rw[e];exact h1
  ·rename_i es e;rw[e];exact h1
  ·rename_i id len e
   rw[e]
   obtain⟨ob,h2,h3⟩:=nthK_ok h1
   cases ob with
   |arr es sz frz nl=>
    obtain⟨h4,h5⟩:=h3
    simp only[h2]
    refine⟨h4,?_⟩
    cases neg<;>exact h5
   |_=>exact h3.elim
  ·exact h1.elim
 |conv k x=>
  have h1:=xV_ok h
  simp only[opI]
  split at h1
  ·rename_i k n e;rw[e];exact h1.h
  ·exact h1.elim
 |cvs x=>
  have h1:=xV_ok h
  simp only[opI]
  split at h1
  ·rename_i s e;rw[e];exact h1
  ·exact h1.elim
 |faddr off x=>exact xSh_ok (xV_ok h)
 |field off n agg x=>
  have h1:=xV_ok h
  simp only[opI]
  split at h1
  ·rename_i cs e
   rw[e]
   cases agg with
   |true=>exact gcs_ok (K:=λl=>K (.agg l) os) h1
   |false=>
    obtain⟨c,h3,h4⟩:=gc_ok (K:=λc=>frc c λc=>K c os) h1
    exact⟨(List.getElem?_eq_some_iff.1 h3).1,by rw[getD_get h3];exact frc_eq.1 h4⟩
  ·exact h1.elim
 |ixarr len sz x i=>
  have h1:=xV_ok (xV_ok h)
  simp only[opI]
  split at h1
  ·rename_i k n e
   rw[e]
   obtain⟨⟨h2,h3⟩,h4⟩:=h1
   exact⟨h2,h3,xSh_ok h4⟩
  ·exact h1.elim
 |ixsl sz x i=>
  have h1:=xV_ok (xV_ok h)
  simp only[opI]
  split at h1
  ·rename_i k n e
   rw[e]
   simp only
   split at h1
   ·rename_i d e2
    rw[e2]
    obtain⟨⟨es,h2,⟨h3,h4⟩,h5,h6⟩⟩:=h1
    rcases h2 with ⟨rfl,rfl⟩|rfl
    ·simp at h4;omega
    ·exact⟨h3,h4,h5,h6⟩
   ·rename_i id len e2
    rw[e2]
    obtain⟨ob,h2,h3⟩:=nthK_ok h1
    cases ob with
    |arr es sz' frz nl=>
     obtain⟨a1,a2,a3⟩:=h3
     obtain⟨a4,⟨a5,a6⟩,a7⟩:=cn_false.1 a3
     simp only[h2]
     exact⟨a1,Nat.eq_of_beq_eq_true a4,a5,a6,a2,a7⟩
    |_=>exact h3.elim
   ·rename_i id len e2
    rw[e2]
    obtain⟨ob,h2,h3⟩:=nthK_ok h1
    cases ob with
    |rarr es sz' nl=>
     obtain⟨a1,a2,a3⟩:=h3
     obtain⟨a4,⟨a5,a6⟩,a7⟩:=cn_false.1 a3
     simp only[h2]
     exact⟨a1,Nat.eq_of_beq_eq_true a4,a5,a6,a2,a7⟩
    |_=>exact h3.elim
   ·rename_i id tot lo k e2
    rw[e2]
    obtain⟨ob,h2,h3⟩:=nthK_ok h1
    cases ob with
    |arr es sz' frz nl=>
     obtain⟨a1,a2,a3⟩:=h3
     obtain⟨a4,⟨a5,a6⟩,a7⟩:=cn_false.1 a3
     simp only[h2]
     exact⟨a1,Nat.eq_of_beq_eq_true a4,a5,a6,a2,a7⟩
    |_=>exact h3.elim
   ·exact h1.elim
  ·exact h1.elim
 |ixstr x i=>
  have h1:=xV_ok (xV_ok h)
  simp only[opI]
  split at h1
  ·rename_i s k n e1 e2
   rw[e1,e2]
   obtain⟨⟨h2,h3⟩,h4⟩:=h1
   exact⟨h2,h3,h4⟩
  ·exact h1.elim
 |ixval len sz agg x i=>
  have h1:=xV_ok (xV_ok h)
  simp only[opI]
  split at h1
  ·rename_i cs k n e1 e2
   rw[e1,e2]
   obtain⟨⟨h2,h3⟩,h4⟩:=h1
   refine⟨h2,h3,?_⟩
   cases agg with
   |true=>exact gcs_ok (K:=λl=>K (.agg l) os) h4
   |false=>
    obtain⟨h5,h6⟩:=cn_false.1 h4
    obtain⟨c,h7,h8⟩:=gc_ok h6
    exact⟨Nat.eq_of_beq_eq_true h5,(List.getElem?_eq_some_iff.1 h7).1,by rw[getD_get h7];exact frc_eq.1 h8⟩
  ·exact h1.elim
 |slstr x lo hi=>
  have h1:=xV_ok h
  simp only[opI]
  split at h1
  ·rename_i s e
   rw[e]
   have key:∀h,(xBnd L lo 0 λl=>Chk (0<=l/\l<=h/\h<=s.length) (K (.d (.str ((s.drop l.toNat).take (h.toNat-l.toNat)))) os))->bndI (ofL L) lo 0 λl=>0<=l/\l<=h/\h<=s.length/\K (.d (.str ((s.drop l.toNat).take (h.toNat-l.toNat)))) os:=by
    intro h hh
    refine bndI_mono (λl=>?_) (xBnd_ok hh)
    rintro⟨⟨a,b,c⟩,d⟩
    exact⟨a,b,c,d⟩
   exact bndI_mono (λh hh=>key h hh) (xBnd_ok h1)
  ·exact h1.elim
 |slsl sz x lo hi=>
  have h1:=xV_ok h
  simp only[opI]
  obtain⟨d,os1,h2,h3⟩:=frzCK_ok h1
  simp only[slI,h2]
  split at h3
  ·rename_i es
   simp only
   refine bndI_mono (λh hh=>?_) (xBnd_ok h3)
   refine bndI_mono (λl=>?_) (xBnd_ok hh)
   rintro⟨⟨a,b,c⟩,d,e⟩
   exact⟨a,b,c,d,e⟩
  ·simp only
   refine bndI_mono (λh hh=>?_) (xBnd_ok h3)
   refine bndI_mono (λl=>?_) (xBnd_ok hh)
   rintro⟨⟨a,b⟩,c⟩
   exact⟨a,b,c⟩
  ·exact h3.elim
 |slsld sz x lo hi=>
  have h1:=xV_ok h
  simp only[opI]
  split at h1
  ·rename_i d e
   rw[e]
   split at h1
   ·simp only[slDI]
    refine bndI_mono (λh hh=>?_) (xBnd_ok h1)
    refine bndI_mono (λl=>?_) (xBnd_ok hh)
    rintro⟨⟨a,b,c⟩,d,e⟩
    exact⟨a,b,c,d,e⟩
   ·simp only[slDI]
    refine bndI_mono (λh hh=>?_) (xBnd_ok h1)
    refine bndI_mono (λl=>?_) (xBnd_ok hh)
    rintro⟨⟨a,b⟩,c⟩
    exact⟨a,b,c⟩
   ·exact h1.elim
  ·exact h1.elim
 |stop=>exact h.elim
 |mkb f x=>
  have h1:=xV_ok h
  simp only[opI]
  split at h1
  ·rename_i cs e
   rw[e]
   exact h1
  ·rename_i id off e
   rw[e]
   cases off with
   |zero=>exact h1
   |succ _=>exact h1.elim
  ·exact h1.elim
 |build zs parts=>exact fillK_ok (K:=λcs=>K (.agg cs) os) (mapK_eq.1 h)
 |bsl n sz zs parts=>
  have h1:=fillK_ok (mapK_eq.1 h)
  simp only[opI]
  refine fillA_mono (λcs h1=>?_) h1
  obtain⟨xs,os1,h2,h3⟩:=frzCsK_ok h1
  simp only[h2]
  rcases h3.h with h3|h3
  ·exact .inl (appK_eq.1 (lenK0 (chunksK_eq.1 h3)))
  ·obtain⟨h4,h5⟩:=h3
   exact .inr ⟨h4,(chunksK_eq (K:=λes=>K (.d (.sl es)) os)).1 h5⟩
 |bsld n sz zs parts=>
  have h1:=fillK_ok (mapK_eq.1 h)
  simp only[opI]
  refine fillA_mono (λcs h1=>?_) h1
  obtain⟨xs,os1,h2,h3,h4⟩:=frzCsK_ok h1
  simp only[h2]
  exact⟨h3,(chunksK_eq (K:=λes=>K (.d (.sl es)) os)).1 h4⟩
 |clo f caps=>
  cases caps with
  |nil=>exact h
  |cons c l=>
   obtain⟨ids,h1,h2⟩:=capsK_ok (L:=L) (xs:=c::l) (K:=λids=>K (.clo f ids) os) h
   simp only[opI,h1]
   exact h2
 |ext i x=>
  have h1:=xV_ok h
  simp only[opI]
  split at h1
  ·rename_i vs e
   rw[e]
   obtain⟨c,h3,h4⟩:=gc_ok h1
   exact⟨(List.getElem?_eq_some_iff.1 h3).1,by rw[getD_get h3];exact frc_eq.1 h4⟩
  ·exact h1.elim
 |lens x=>
  have h1:=xV_ok h
  simp only[opI]
  split at h1
  ·rename_i s e;rw[e];exact h1
  ·exact h1.elim
 |len x=>
  have h1:=xV_ok h
  simp only[opI]
  split at h1
  ·rename_i d e
   rw[e]
   obtain⟨⟨es,h2,h3⟩⟩:=h1
   rcases h2 with ⟨rfl,rfl⟩|rfl
   ·exact h3
   ·exact h3
  ·rename_i id len e
   rw[e]
   obtain⟨ob,h2,h3⟩:=nthK_ok h1
   cases ob with
   |arr es sz frz nl=>simp only[h2];exact⟨h3.1,h3.2⟩
   |_=>exact h3.elim
  ·rename_i id len e
   rw[e]
   obtain⟨ob,h2,h3⟩:=nthK_ok h1
   cases ob with
   |rarr es sz nl=>simp only[h2];exact⟨h3.1,h3.2⟩
   |_=>exact h3.elim
  ·rename_i id tot lo k e
   rw[e]
   obtain⟨ob,h2,h3⟩:=nthK_ok h1
   cases ob with
   |arr es sz frz nl=>simp only[h2];exact⟨h3.1,h3.2.1,h3.2.2⟩
   |_=>exact h3.elim
  ·rename_i es e
   rw[e]
   exact h1
  ·exact h1.elim
 |lenk n=>exact h
 |minmax mx x xs=>
  have h1:=xV_ok h
  simp only[opI]
  split at h1
  ·rename_i k a e
   rw[e]
   exact minmaxK_ok (xVs_ok h1)
  ·exact h1.elim
 |load agg n x=>exact xLoad_ok (xV_ok h)
 |store n x v=>exact xStore_ok (xV_ok (xV_ok h))
 |alloc zs=>
  obtain⟨h1,h2⟩:=cn_both.1 h
  cases hb:Nat.ble zs.length 40 with
  |true=>exact appK_eq.1 (lenK0 ((mapK_eq (f:=AV.d)).1 (h1 hb)))
  |false=>exact appK_eq.1 (lenK0 (h2 hb))
 |box n x=>
  obtain⟨xs,h1,h2⟩:=cellsK_ok (xV_ok h)
  obtain⟨h3,h4⟩:=cn_false.1 h2
  simp only[opI,h1]
  exact⟨Nat.eq_of_beq_eq_true h3,appK_eq.1 (lenK0 h4)⟩
 |mksl sz bytes zs len cap=>
  have h1:=xV_ok (xV_ok h)
  simp only[opI]
  split at h1
  ·rename_i k l k' c e1 e2
   rw[e1,e2]
   obtain⟨⟨a,b,c,d⟩,h2⟩:=h1
   have:=appK_eq.1 (lenK0 h2)
   rw[List.length_replicate] at this
   exact⟨a,b,c,d,this⟩
  ·exact h1.elim
 |app sz bytes s x=>
  have h1:=xV_ok (xV_ok h)
  simp only[opI]
  split at h1
  ·rename_i id2 len2 e
   rw[e]
   obtain⟨ob,h2,h3⟩:=nthK_ok h1
   cases ob with
   |rarr ns sz2 nl=>
    obtain⟨h4,h5,h6,h7⟩:=h3
    subst h4
    simp only[h2]
    exact⟨h5,h6,xAppr_ok h7⟩
   |_=>exact h3.elim
  ·rename_i d e
   rw[e]
   exact newsI_mono (λns hn=>xAppX_ok hn) (xNews_ok h1)
  ·rename_i id len e
   rw[e]
   exact newsI_mono (λns hn=>xAppX_ok hn) (xNews_ok h1)
  ·exact h1.elim
 |call f args=>
  have hg:=xV_ok (xVs_ok h)
  have frz:(prepK os (args.map (evO (ofL L))) λas os1=>match evO (ofL L) f with
    |.d (.fn g)=>Cn (as.any AV.ref) (CallW P g as os1 K) (NewC P g as os1 K)
    |.clo g caps=>appK as (caps.map λid=>.ptr id 0) λas'=>CallW P g as' os1 K
    |.bcl g id=>CallW P g (.ptr id 0::as) os1 K
    |.d (.lit v)=>bndK v as λg as'=>NewC P g as' os1 K
    |_=>False)->opI P (ofL L) os K (.call f args):=by
   intro h
   obtain⟨as,os1,h1,h3⟩:=prepK_ok h
   simp only[opI,h1]
   refine .inl ?_
   split at h3
   ·rename_i g e
    rw[e]
    simp only
    cases hr:as.any AV.ref with
    |true=>
     rw[hr] at h3
     simp only[if_true]
     exact h3.h
    |false=>
     rw[hr] at h3
     simp only[Bool.false_eq_true,if_false]
     exact h3.h
   ·rename_i g caps e
    rw[e]
    exact(appK_eq.1 h3).h
   ·rename_i g id e
    rw[e]
    exact h3.h
   ·rename_i v e
    rw[e]
    obtain⟨g,ds,h4,h5,h6⟩:=bndK_ok h3
    simp only[h4]
    exact⟨h5,h6.h⟩
   ·exact h3.elim
  obtain⟨hp1,hg⟩:=cn_both.1 hg
  cases hp:(args.map (evO (ofL L))).any AV.isPart with
  |true=>
   have h3:=hp1 hp
   simp only[opI]
   refine .inr ?_
   split at h3
   ·rename_i g e
    rw[e]
    obtain⟨h4,h5⟩:=cn_both.1 h3
    cases hd:(args.map (evO (ofL L))).all AV.isDF with
    |true=>exact⟨isDF_all hd,new_call (h4 hd).h hd⟩
    |false=>
     have h6:=h5 hd
     exact⟨h6.1,h6.2.h⟩
   ·exact h3.elim
  |false=>
  obtain⟨h1,h2⟩:=cn_both.1 (hg hp)
  cases ha:(args.map (evO (ofL L))).any AV.isArr with
  |false=>exact frz (h2 ha)
  |true=>
   rcases(h1 ha).h with h3|h3
   ·exact frz h3
   ·simp only[opI]
    refine .inr ?_
    split at h3
    ·rename_i e
     rw[e]
     exact⟨h3.1,h3.2.h⟩
    ·exact h3.elim
 |calld f args=>
  have h2:=xV_ok (xVs_ok h)
  simp only[opI]
  split at h2
  ·rename_i g e
   rw[e]
   obtain⟨h3,h4⟩:=cn_both.1 h2
   cases hr:(List.map (evO (ofL L)) args).any AV.ref with
   |true=>
    obtain⟨as,os1,h1,h3,⟨r,h4,h5⟩⟩:=prepK_ok (h3 hr)
    refine .inr ?_
    simp only[h1]
    exact⟨h3,r,h4,h5⟩
   |false=>
    obtain⟨as,os1,h1,h3,⟨r,h4,h5⟩⟩:=frzGsK_ok (h4 hr)
    refine .inl ?_
    simp only[h1]
    exact⟨h3,r,h4,h5⟩
  ·rename_i g id e
   rw[e]
   obtain⟨as,os1,h1,h3,⟨r,h4,h5⟩⟩:=prepK_ok h2
   simp only[h1]
   exact⟨h3,r,h4,h5⟩
  ·exact h2.elim
 |rstr x=>
  have h1:=xV_ok h
  simp only[opI]
  split at h1
  ·rename_i s e;rw[e];exact appK_eq.1 (lenK0 h1)
  ·exact h1.elim
 |nstr x=>
  have h1:=xV_ok h
  simp only[opI]
  split at h1
  ·rename_i id e
   rw[e]
   obtain⟨ob,h2,h3⟩:=nthK_ok h1
   cases ob with
   |iter s p=>
    simp only[h2]
    obtain⟨h4,h5⟩:=cn_both.1 h3
    exact⟨λhp=>setK_eq.1 (h4 (decide_eq_true hp)),λhp=>h5 (decide_eq_false (by omega))⟩
   |_=>exact h3.elim
  ·exact h1.elim
 |callp f args=>
  have h2:=xV_ok (xVs_ok h)
  simp only[opI]
  split at h2
  ·rename_i g e
   rw[e]
   have pure:∀as:List AV,(frzGsK os as λas os1=>Chk (os1=os) (PureC P g as λr=>K r os))->match frzGs os as with
    |some (as,os1)=>os1=os/\∃r,CallSpec P g as [] (λr' os2=>r'=r/\os2=[])/\K r os
    |none=>False:=λas h=>by
    obtain⟨as',os1,h1,h3,⟨r,h4,h5⟩⟩:=frzGsK_ok h
    simp only[h1]
    exact⟨h3,r,h4,h5⟩
   generalize hvs:args.map (evO (ofL L))=vs at h2 ⊢
   match vs,h2 with
   |[],h2=>exact .inl (pure _ h2)
   |v::as,h2=>
    cases v with
    |ptr id off=>
     obtain⟨ob,h5,h6⟩:=nthK_ok h2
     obtain⟨h7,⟨r,ob',h8,h9⟩⟩:=h6
     refine .inr ?_
     simp only[h5]
     exact⟨h7,r,ob',h8,setK_eq.1 h9⟩
    |_=>exact .inl (pure _ h2)
  ·exact h2.elim
 |callo f args=>
  have h2:=xV_ok (xVs_ok h)
  simp only[opI]
  split at h2
  ·rename_i g e
   rw[e]
   have pure:∀as:List AV,(frzGsK os as λas os1=>Chk (os1=os) (PureC P g as λr=>K r os))->match frzGs os as with
    |some (as,os1)=>os1=os/\∃r,CallSpec P g as [] (λr' os2=>r'=r/\os2=[])/\K r os
    |none=>False:=λas h=>by
    obtain⟨as',os1,h1,h3,⟨r,h4,h5⟩⟩:=frzGsK_ok h
    simp only[h1]
    exact⟨h3,r,h4,h5⟩
   generalize hvs:args.map (evO (ofL L))=vs at h2 ⊢
   match vs,h2 with
   |[],h2=>exact pure _ h2
   |v::as,h2=>
    cases v with
    |arr id len=>
     obtain⟨ob,h5,h6⟩:=nthK_ok h2
     cases ob with
     |arr es sz frz nl=>
      obtain⟨h7,⟨es',nl',h8,h9⟩⟩:=h6
      simp only[h5]
      exact⟨h7,es',nl',h8,setK_eq.1 h9⟩
     |_=>exact h6.elim
    |_=>exact pure _ h2
  ·exact h2.elim
 |calln id f args=>
  have h2:=xV_ok (xVs_ok h)
  simp only[opI]
  split at h2
  ·rename_i g e
   rw[e]
   have own:∀as:List AV,ownK P g as os id K->as.all AV.isDF=true/\os[id]?=some .hole/\((∃es sz nl,CallSpec P g as [] (λr os2=>r=.arr 0 es.length/\os2=[.arr es sz 0 nl])/\K (.arr id es.length) (os.set id (.arr es sz 0 nl)))\/∃r,CallSpec P g as [] (λr' os2=>r'=r/\os2=[])/\K r (os.set id .hole)):=λas h=>by
    obtain⟨h3,h4⟩:=h
    obtain⟨ob,h5,h6⟩:=nthK_ok h4
    cases ob with
    |hole=>
     obtain⟨h6⟩:=h6
     rcases h6 with ⟨es,sz,nl,h7,h8⟩|⟨r,h7,h8⟩
     ·exact⟨h3,h5,.inl ⟨es,sz,nl,h7,setK_eq.1 h8⟩⟩
     ·exact⟨h3,h5,.inr ⟨r,h7,setK_eq.1 h8⟩⟩
    |_=>exact h6.elim
   generalize hvs:args.map (evO (ofL L))=vs at h2 ⊢
   match vs,h2 with
   |[],h2=>exact own _ h2
   |v::as,h2=>
    cases v with
    |arr id0 len=>
     obtain⟨ob,h5,h6⟩:=nthK_ok h2
     cases ob with
     |arr es sz frz nl=>
      obtain⟨h7,⟨es',nl',h8,h9⟩⟩:=h6
      simp only[h5]
      exact⟨h7,es',nl',h8,setK_eq.1 h9⟩
     |_=>exact h6.elim
    |_=>exact own _ h2
  ·exact h2.elim
 |appn id sz bytes s x=>exact newsI_mono (λns hn=>xAppN_ok hn) (xNews_ok (xV_ok (xV_ok h)))
 |ex e xs=>exact xEx_ok (xVs_ok h)
 |bslr id n sz zs parts=>
  have h1:=fillK_ok (mapK_eq.1 h)
  simp only[opI]
  refine fillA_mono (λcs h1=>?_) h1
  obtain⟨ob,h5,h6⟩:=nthK_ok h1
  simp only[h5]
  cases ob with
  |hole=>
   have h7:=dsK_ok h6
   simp only[litV,litO]
   cases hds:dsOf cs with
   |some ds=>
    rw[hds] at h7
    exact setK_eq.1 ((chunksK_eq (K:=λes=>setK os id (.arr es sz 0 false) λos'=>K (.arr id n) os')).1 h7)
   |none=>
    rw[hds] at h7
    exact setK_eq.1 ((chunksK_eq (K:=λes=>setK os id (.rarr es sz false) λos'=>K (.rs id n) os')).1 h7)
  |_=>exact h6.elim
 |alloca id zs=>
  obtain⟨ob,h2,h3⟩:=nthK_ok h
  simp only[opI,h2]
  cases ob with
  |hole=>exact setK_eq.1 (mapK_eq.1 h3)
  |_=>exact h3.elim
 |boxa id n x=>
  obtain⟨xs,h1,h2⟩:=cellsK_ok (xV_ok h)
  obtain⟨h3,h4⟩:=cn_false.1 h2
  obtain⟨ob,h5,h6⟩:=nthK_ok h4
  simp only[opI,h1,h5]
  cases ob with
  |hole=>exact⟨Nat.eq_of_beq_eq_true h3,setK_eq.1 h6⟩
  |_=>exact h6.elim
 |mkmap=>exact appK_eq.1 (lenK0 h)
 |lkup sk ok g zs m k=>
  have h1:=xV_ok (xV_ok h)
  simp only[opI]
  split at h1
  ·rename_i id key e1 e2
   rw[e1,e2]
   obtain⟨ob,h2,h3⟩:=nthK_ok h1
   simp only[h2]
   cases ob with
   |map kvs=>
    simp only
    obtain⟨⟨⟨h4,r,h5,h6⟩⟩|⟨⟨h4,r,h5,h6⟩⟩⟩:=h3
    ·exact⟨h4,.inl (by rw[h5];exact frc_eq.1 h6)⟩
    ·refine⟨h4,.inr ?_⟩
     split at h6
     ·obtain⟨ob,h7,h8⟩:=nthK_ok h6
      split at h8
      ·exact⟨h5,_,_,h7,h8⟩
      ·exact h8.elim
     ·exact h6.elim
   |_=>exact h3.elim
  ·exact h1.elim
 |mupd sk m k v=>
  have h1:=xV_ok (xV_ok (xV_ok h))
  simp only[opI]
  split at h1
  ·rename_i id key e1 e2
   rw[e1,e2]
   obtain⟨ob,h2,h3⟩:=nthK_ok h1
   simp only[h2]
   cases ob with
   |map kvs=>
    obtain⟨h4,⟨h5,h6⟩⟩:=cn_false.1 h3
    exact⟨h5,h4,setK_eq.1 h6⟩
   |_=>exact h3.elim
  ·exact h1.elim
 |rmap x=>exact h.elim
 |nmap x=>exact h.elim
 |entry x=>exact h.elim
 |nilck x=>exact xSh_ok (xV_ok h)
end Go.Bi
