/- The evaluator: operations, regions, code; it is sound. No condition. -/
import Derived.Test.YtnhhopmldgpglaaGreatBX
set_option linter.unusedVariables false
namespace Go.Bi
set_option linter.unusedSectionVars false
variable [K6]
def AV.isArr:AV->Bool
 |.arr _ _=>true
 |_=>false
def Go(X:Prop):Prop:=X
def A58(v:Value)(as:List AV)(K:FuncId->List AV->Prop):Prop:=match A57 v with
 |some (g,ds)=>Cn (as.any AV.ref) False (u9 .d ds λcs=>K g (.agg cs::as))
 |none=>False
theorem C8T{v:Value}{as:List AV}{K:FuncId->List AV->Prop}(h:A58 v as K):∃g ds,A57 v=some (g,ds)/\as.any AV.ref=false/\K g (.agg (ds.map .d)::as):=by
 unfold A58 at h
 split at h
 ·rename_i g ds e
  obtain⟨h1,h2⟩:=A0h.1 h
  cases ha:as.any AV.ref with
  |true=>exact(h1 ha).elim
  |false=>exact⟨g,ds,e,rfl,z8.1 (h2 ha)⟩
 ·exact h.elim
def xOp(P:Program)(L:Sl)(os:List AO)(K:AV->List AO->Prop):IK->Prop
 |.mv x=>xV L x λv=>K v os
 |.pick c a b=>xV L c λv=>match v with
  |.d (.bool t)=>Cn t (xV L a λv=>K v os) (xV L b λv=>K v os)
  |_=>False
 |.un op x=>xV L x λv=>match v with
  |.d x=>xUn op x λr=>K (.d r) os
  |_=>False
 |.bin op x y=>xV L x λa=>xV L y λb=>B9N op a b λr=>K (.d r) os
 |.eqb neg x y=>xV L x λa=>xV L y λb=>match a,b with
  |.d (.bool a),.d (.bool b)=>Cn neg (K (.d (.bool (!(a==b)))) os) (K (.d (.bool (a==b))) os)
  |_,_=>False
 |.eqs neg ks x y=>xV L x λa=>xV L y λb=>match a,b with
  |.agg cs,.agg ds=>A2Z ks cs ds λr=>Cn neg (K (.d (.bool (!r))) os) (K (.d (.bool r)) os)
  |_,_=>False
 |.eqnil neg x=>xV L x λv=>match v with
  |.d .nil=>K (.d (.bool (!neg))) os
  |.d (.sl _)=>K (.d (.bool neg)) os
  |.arr id len=>P9 os id λob=>match ob with
   |.arr es sz frz nl=>F7 (len=es.length) (Cn neg (K (.d (.bool (!nl))) os) (K (.d (.bool nl)) os))
   |_=>False
  |_=>False
 |.conv k x=>xV L x λv=>match v with
  |.d (.int _ n)=>WrK k n λr=>K (.d r) os
  |_=>False
 |.cvs x=>xV L x λv=>match v with
  |.d (.str s)=>K (.d (.str s)) os
  |_=>False
 |.faddr off x=>xV L x λv=>xSh os off v λr=>K r os
 |.field off n agg x=>xV L x λv=>match v with
  |.agg cs=>Cn agg (gcs cs off n λl=>K (.agg l) os) (gc cs off λc=>frc c λc=>K c os)
  |_=>False
 |.ixarr len sz x i=>xV L x λv=>xV L i λj=>match j with
  |.d (.int _ n)=>F7 (0<=n/\n<len) (xSh os (n.toNat*sz) v λr=>K r os)
  |_=>False
 |.ixsl sz x i=>xV L x λv=>xV L i λj=>match j with
  |.d (.int _ n)=>(match v with
   |.d d=>A6E d λes=>F7 (0<=n/\n<es.length) (F7 (∀e∈es,e.length=sz) (K (.dptr es n.toNat 0) os))
   |.arr id len=>P9 os id λob=>match ob with
    |.arr es sz' frz nl=>F7 (len=es.length) (F7 (nl=false) (Cn (Nat.beq sz' sz) (F7 (0<=n/\n<es.length) (K (.aptr id len n.toNat 0) os)) False))
    |_=>False
   |.rs id len=>P9 os id λob=>match ob with
    |.rarr es sz' nl=>F7 (len=es.length) (F7 (nl=false) (Cn (Nat.beq sz' sz) (F7 (0<=n/\n<es.length) (K (.rp id len n.toNat 0) os)) False))
    |_=>False
   |_=>False)
  |_=>False
 |.ixstr x i=>xV L x λv=>xV L i λj=>match v,j with
  |.d (.str s),.d (.int _ n)=>F7 (0<=n/\n<s.length) (K (.d (.int .u8 (s.getD n.toNat 0).toNat)) os)
  |_,_=>False
 |.ixval len sz agg x i=>xV L x λv=>xV L i λj=>match v,j with
  |.agg cs,.d (.int _ n)=>F7 (0<=n/\n<len) (Cn agg (gcs cs (n.toNat*sz) sz λl=>K (.agg l) os) (Cn (Nat.beq sz 1) (gc cs n.toNat λc=>frc c λc=>K c os) False))
  |_,_=>False
 |.slstr x lo hi=>xV L x λv=>match v with
  |.d (.str s)=>A0x L hi s.length λh=>A0x L lo 0 λl=>F7 (0<=l/\l<=h/\h<=s.length) (K (.d (.str ((s.drop l.toNat).take (h.toNat-l.toNat)))) os)
  |_=>False
 |.slsl sz x lo hi=>xV L x λv=>A7n os v λd os1=>match d with
  |.sl es=>A0x L hi es.length λh=>A0x L lo 0 λl=>F7 (0<=l/\l<=h/\h<=es.length) (F7 (∀e∈es,e.length=sz) (K (.d (.sl ((es.drop l.toNat).take (h.toNat-l.toNat)))) os1))
  |.nil=>A0x L hi 0 λh=>A0x L lo 0 λl=>F7 (l=0/\h=0) (K (.d .nil) os1)
  |_=>False
 |.slsld sz x lo hi=>xV L x λv=>match v with
  |.d d=>match d with
   |.sl es=>A0x L hi es.length λh=>A0x L lo 0 λl=>F7 (0<=l/\l<=h/\h<=es.length) (F7 (∀e∈es,e.length=sz) (K (.d (.sl ((es.drop l.toNat).take (h.toNat-l.toNat)))) os))
   |.nil=>A0x L hi 0 λh=>A0x L lo 0 λl=>F7 (l=0/\h=0) (K (.d .nil) os)
   |_=>False
  |_=>False
 |.stop=>False
 |.mkb f x=>xV L x λv=>match v with
  |.agg cs=>match A6c cs with
   |some vs=>K (.d (.lit (.func (.func f) ⟨[.agg ⟨vs⟩]⟩ ⟨[]⟩))) os
   |none=>False
  |_=>False
 |.build zs parts=>u9 .d zs λcs=>A3R L parts cs λcs=>K (.agg cs) os
 |.bsl n sz zs parts=>u9 .d ((List.replicate n zs).flatten) λcs=>A3R L parts cs λcs=>A31 os cs λxs os1=>LkA (A2W sz n xs λes=>n9 os1 0 λm=>Z8 os1 [.arr es sz 0 false] λos2=>K (.arr m n) os2) (F7 (os1=os) (A2W sz n xs λes=>K (.d (.sl es)) os))
 |.bsld n sz zs parts=>u9 .d ((List.replicate n zs).flatten) λcs=>A3R L parts cs λcs=>A31 os cs λxs os1=>F7 (os1=os) (A2W sz n xs λes=>K (.d (.sl es)) os)
 |.clo f caps=>match caps with
  |[]=>K (.d (.fn f)) os
  |_=>A9n L caps λids=>K (.clo f ids) os
 |.ext i x=>xV L x λv=>match v with
  |.tup vs=>gc vs i λc=>frc c λc=>K c os
  |_=>False
 |.lens x=>xV L x λv=>match v with
  |.d (.str s)=>K (.d (.int .i64 s.length)) os
  |_=>False
 |.len x=>xV L x λv=>match v with
  |.d d=>A6E d λes=>K (.d (.int .i64 es.length)) os
  |.arr id len=>P9 os id λob=>match ob with
   |.arr es sz frz nl=>F7 (len=es.length) (K (.d (.int .i64 es.length)) os)
   |_=>False
  |.rs id len=>P9 os id λob=>match ob with
   |.rarr es sz nl=>F7 (len=es.length) (K (.d (.int .i64 es.length)) os)
   |_=>False
  |_=>False
 |.lenk n=>K (.d (.int .i64 n)) os
 |.minmax mx x xs=>xV L x λv=>match v with
  |.d (.int k a)=>xVs L xs λl=>A7A mx k a l λr=>K r os
  |_=>False
 |.load agg n x=>xV L x λv=>B0I os agg n v λr=>K r os
 |.store n x v=>xV L x λa=>xV L v λb=>B9Y os n a b λos'=>K .junk os'
 |.alloc zs=>Cn (Nat.ble zs.length 40) (u9 .d zs λcs=>n9 os 0 λm=>Z8 os [.cells cs] λos'=>K (.ptr m 0) os') (n9 os 0 λm=>Z8 os [.cells (zs.map .d)] λos'=>K (.ptr m 0) os')
 |.box n x=>xV L x λv=>A5g v λxs=>Cn (Nat.beq xs.length n) (n9 os 0 λm=>Z8 os [.cells xs] λos'=>K (.ptr m 0) os') False
 |.mksl sz bytes zs len cap=>xV L len λa=>xV L cap λb=>match a,b with
  |.d (.int _ l),.d (.int _ c)=>F7 (0<=l/\l<=c/\c*bytes<=140737488355328/\c<=9223372036854775807) (n9 os 0 λm=>Z8 os [.arr (List.replicate l.toNat zs) sz 0 false] λos'=>K (.arr m (List.replicate l.toNat zs).length) os')
  |_,_=>False
 |.app sz bytes s x=>xV L s λa=>xV L x λb=>match b with
  |.rs id2 len2=>P9 os id2 λob=>match ob with
   |.rarr ns sz2 nl=>F7 (nl=false) (F7 (len2=ns.length) (F7 (0<ns.length) (B9M os sz bytes a ns K)))
   |_=>False
  |.d d=>B0J os (.d d) λns=>B0G os sz bytes a ns K
  |.arr id len=>B0J os (.arr id len) λns=>B0G os sz bytes a ns K
  |_=>False
 |.call f args=>xVs L args λvs=>xV L f λg=>Cn (vs.any AV.isArr)
   (A8p (A1U os vs λas os1=>match g with
    |.d (.fn g)=>Cn (as.any AV.ref) (A24 P g as os1 K) (A2b P g as os1 K)
    |.clo g caps=>Z8 as (caps.map λid=>.ptr id 0) λas'=>A24 P g as' os1 K
    |.d (.lit v)=>A58 v as λg as'=>A2b P g as' os1 K
    |_=>False) (match g with
    |.d (.fn g)=>F7 (vs.all AV.one=true) (A24 P g vs os K)
    |_=>False))
   (A1U os vs λas os1=>match g with
    |.d (.fn g)=>Cn (as.any AV.ref) (A24 P g as os1 K) (A2b P g as os1 K)
    |.clo g caps=>Z8 as (caps.map λid=>.ptr id 0) λas'=>A24 P g as' os1 K
    |.d (.lit v)=>A58 v as λg as'=>A2b P g as' os1 K
    |_=>False)
 |.calld f args=>xVs L args λvs=>xV L f λg=>match g with
  |.d (.fn g)=>Cn (vs.any AV.ref) (A1U os vs λas os1=>F7 (os1=os) (B5C P g as os λr=>K r os)) (A32 os vs λas os1=>F7 (os1=os) (A95 P g as λr=>K r os))
  |_=>False
 |.rstr x=>xV L x λv=>match v with
  |.d (.str s)=>n9 os 0 λm=>Z8 os [.iter s 0] λos'=>K (.iter m) os'
  |_=>False
 |.nstr x=>xV L x λv=>match v with
  |.iter id=>P9 os id λob=>match ob with
   |.iter s p=>Cn (decide (p<s.length))
     (p8 os id (.iter s (p+(Utf8.decode ⟨⟨s⟩⟩ p).2)) λos'=>K (.tup [.d (.bool true),.d (.int .i64 p),.d (.int .i32 (Utf8.decode ⟨⟨s⟩⟩ p).1)]) os')
     (K (.tup [.d (.bool false)]) os)
   |_=>False
  |_=>False
 |.nilck x=>xV L x λv=>xSh os 0 v λr=>K r os
 |.callp f args=>xVs L args λvs=>xV L f λg=>match g with
  |.d (.fn g)=>A32 os vs λas os1=>F7 (os1=os) (A95 P g as λr=>K r os)
  |_=>False
 |.calln id f args=>xVs L args λvs=>xV L f λg=>match g with
  |.d (.fn g)=>A32 os vs λas os1=>F7 (os1=os) (P9 os id λob=>match ob with
   |.hole=>B5B P g as λes sz nl=>p8 os id (.arr es sz 0 nl) λos'=>K (.arr id es.length) os'
   |_=>False)
  |_=>False
 |.bslr id n sz zs parts=>u9 .d ((List.replicate n zs).flatten) λcs=>A3R L parts cs λcs=>P9 os id λob=>match ob with
  |.hole=>A2W sz n cs λes=>p8 os id (.rarr es sz false) λos'=>K (.rs id n) os'
  |_=>False
 |.alloca id zs=>P9 os id λob=>match ob with
  |.hole=>u9 .d zs λcs=>p8 os id (.cells cs) λos'=>K (.ptr id 0) os'
  |_=>False
 |.boxa id n x=>xV L x λv=>A5g v λxs=>Cn (Nat.beq xs.length n) (P9 os id λob=>match ob with
  |.hole=>p8 os id (.cells xs) λos'=>K (.ptr id 0) os'
  |_=>False) False
 |.mkmap=>n9 os 0 λm=>Z8 os [.map []] λos'=>K (.mp m) os'
 |.lkup sk ok g zs m k=>xV L m λa=>xV L k λb=>match a,b with
  |.mp id,.d key=>P9 os id λob=>match ob with
   |.map kvs=>LkA (A8A sk ok g zs key kvs λr=>frc r λr=>K r os) (A8A sk ok g zs key kvs λr=>match r with
    |.d .nil=>P9 os (id+1) λob=>match ob with
     |.arr [] _ _ true=>K (.arr (id+1) 0) os
     |_=>False
    |_=>False)
   |_=>False
  |_,_=>False
 |.mupd sk m k v=>xV L m λa=>xV L k λb=>xV L v λc=>match a,b with
  |.mp id,.d key=>P9 os id λob=>match ob with
   |.map kvs=>Cn c.one (B4o sk key c kvs λkvs'=>p8 os id (.map kvs') λos'=>K .junk os') False
   |_=>False
  |_,_=>False
 |.rmap x=>xV L x λv=>match v with
  |.mp id=>P9 os id λob=>match ob with
   |.map kvs=>n9 os 0 λm=>Z8 os [.mit id kvs.length []] λos'=>K (.mit m) os'
   |_=>False
  |_=>False
 |.nmap x=>xV L x λv=>match v with
  |.mit id=>P9 os id λob=>match ob with
   |.mit m n seen=>P9 os m λob=>match ob with
    |.map kvs=>C65 n seen kvs (λi p=>Go (p8 os id (.mit m n (seen++[i])) λos'=>K (.tup [.d (.bool true),.d p.1,p.2]) os')) (Go (K (.tup [.d (.bool false)]) os))
    |_=>False
   |_=>False
  |_=>False
 |.entry x=>xV L x λv=>match v with
  |.mit id=>P9 os id λob=>match ob with
   |.mit m n seen=>P9 os m λob=>match ob with
    |.map kvs=>C64 n seen kvs λp=>K (.tup [.d p.1,p.2]) os
    |_=>False
   |_=>False
  |_=>False
theorem A15{ρ:C7}{x:Option B7}{dflt:Nat}{K K':Int->Prop}(hk:∀n,K n->K' n)(h:S3 ρ x dflt K):S3 ρ x dflt K':=by
 cases x with
 |none=>exact hk _ h
 |some x=>
  simp only[S3] at h ⊢
  split at h
  ·rename_i e;exact hk _ h
  ·exact h.elim
theorem B8e{os:List AO}{x:AV}{K K':List (List D)->Prop}(hk:∀n,K n->K' n)(h:f9 os x K):f9 os x K':=by
 unfold f9 at h ⊢
 split at h
 ·exact hk _ h
 ·exact hk _ h
 ·split at h
  ·exact⟨h.1,hk _ h.2⟩
  ·exact h.elim
 ·exact h.elim
theorem A7h{ρ:C7}{K K':List AV->Prop}(hk:∀n,K n->K' n):∀{ps:List (Nat×Nat×B7)}{cs:List AV},O7 ρ ps cs K->O7 ρ ps cs K'
 |[],cs,h=>hk _ h
 |(off,n,x)::ps,cs,h=>by
  unfold O7 at h ⊢
  split at h
  ·rename_i xs e
   exact⟨h.1,h.2.1,A7h hk h.2.2⟩
  ·exact h.elim
theorem A1i{os:List AO}{K:Nat->Prop}(h:n9 os 0 K):K os.length:=by
 have:=A9Y.1 h
 rwa [x8] at this
theorem A1v{M:C5}{G:Gh}{n:Nat}{c:AV}{u:Value}(h:VC M G [] c u):l7 n c=c:=by
 cases c with
 |ptr id off=>obtain⟨_,cs,h⟩:=h;simp at h
 |aptr id len i off=>obtain⟨_,es,sz,frz,nl,h,_⟩:=h;simp at h
 |arr id len=>obtain⟨_,es,sz,frz,nl,h,_⟩:=h;simp at h
 |rs id len=>obtain⟨_,es,sz,nl,h,_⟩:=h;simp at h
 |rp id len i off=>obtain⟨_,es,sz,nl,h,_⟩:=h;simp at h
 |iter id=>obtain⟨_,s,p,h⟩:=h;simp at h
 |mp id=>obtain⟨_,kvs,h⟩:=h;simp at h
 |mit id=>obtain⟨_,m,k,s,h⟩:=h;simp at h
 |clo f caps=>
  obtain⟨_,h⟩:=h
  cases caps with
  |nil=>rfl
  |cons c l=>obtain⟨cs,h⟩:=h c (by simp);simp at h
 |_=>rfl
theorem A0U{M:C5}{G:Gh}{n:Nat}{c:AV}{u:Value}(h:VG M G [] c u):shG n c=c:=by
 cases c with
 |agg cs=>
  obtain⟨vs,rfl,h1,h2⟩:=h
  simp only[shG]
  congr 1
  conv=>rhs;rw[<- w9 cs]
  refine S8 λc hc=>?_
  obtain⟨j,hj⟩:=A2K hc
  have hlt:j<vs.size:=by rw[h1];exact(B2.1 hj).1
  exact A1v (h2 j c vs[j] hj (K5 hlt))
 |ptr id off=>exact A1v (M:=M) (G:=G) (u:=u) (c:=.ptr id off) h
 |aptr id len i off=>exact A1v (M:=M) (G:=G) (u:=u) (c:=.aptr id len i off) h
 |arr id len=>exact A1v (M:=M) (G:=G) (u:=u) (c:=.arr id len) h
 |iter id=>exact A1v (M:=M) (G:=G) (u:=u) (c:=.iter id) h
 |mp id=>exact A1v (M:=M) (G:=G) (u:=u) (c:=.mp id) h
 |mit id=>exact A1v (M:=M) (G:=G) (u:=u) (c:=.mit id) h
 |rs id len=>exact A1v (M:=M) (G:=G) (u:=u) (c:=.rs id len) h
 |rp id len i off=>exact A1v (M:=M) (G:=G) (u:=u) (c:=.rp id len i off) h
 |clo f caps=>exact A1v (M:=M) (G:=G) (u:=u) (c:=.clo f caps) h
 |d x=>rfl
 |dptr es i off=>rfl
 |junk=>rfl
 |tup cs=>rfl
theorem D3q{M:C5}{G:Gh}{n:Nat}{c:AV}{u:Value}(h:VA M G [] c u):shA n c=c:=by
 cases c with
 |tup cs=>
  obtain⟨vs,rfl,h1,h2⟩:=h
  simp only[shA]
  congr 1
  conv=>rhs;rw[<- w9 cs]
  refine S8 λc hc=>?_
  obtain⟨j,hj⟩:=A2K hc
  have hlt:j<vs.size:=by rw[h1];exact(B2.1 hj).1
  exact A0U (h2 j c vs[j] hj (K5 hlt))
 |agg cs=>exact A0U (M:=M) (G:=G) (u:=u) (c:=.agg cs) h
 |ptr id off=>exact A0U (M:=M) (G:=G) (u:=u) (c:=.ptr id off) h
 |aptr id len i off=>exact A0U (M:=M) (G:=G) (u:=u) (c:=.aptr id len i off) h
 |arr id len=>exact A0U (M:=M) (G:=G) (u:=u) (c:=.arr id len) h
 |iter id=>exact A0U (M:=M) (G:=G) (u:=u) (c:=.iter id) h
 |mp id=>exact A0U (M:=M) (G:=G) (u:=u) (c:=.mp id) h
 |mit id=>exact A0U (M:=M) (G:=G) (u:=u) (c:=.mit id) h
 |rs id len=>exact A0U (M:=M) (G:=G) (u:=u) (c:=.rs id len) h
 |rp id len i off=>exact A0U (M:=M) (G:=G) (u:=u) (c:=.rp id len i off) h
 |clo f caps=>exact A0U (M:=M) (G:=G) (u:=u) (c:=.clo f caps) h
 |d x=>rfl
 |dptr es i off=>rfl
 |junk=>rfl
theorem D2r{P:Program}{g:FuncId}{as:List AV}{r:AV}(h:Pure P g as r){os1:List AO}{K:AV->List AO->Prop}(hk:K r os1):B4 P g as [] λr os2=>K (shA os1.length r) (os1++os2.map (U5 os1.length)):=by
 refine⟨h.1,λM G w vs he hl hv=>(h.2 M G w vs he hl hv).mono λe w' ⟨v,he,M',G',r',os',h1,h2,h3,h4,h5⟩=>?_⟩
 subst h4
 subst h5
 refine⟨v,he,M',G',r',[],h1,h2,h3,?_⟩
 show K (shA os1.length r') (os1++[])
 rw[D3q h3]
 simpa using hk
theorem B9S{P:Program}{L:Sl}{os:List AO}{K:AV->List AO->Prop}{op:IK}(h:xOp P L os K op):B1 P (D5 L) os K op:=by
 cases op with
 |mv x=>exact F6 (K:=λv=>K v os) h
 |pick c a b=>
  have h1:=F6 h
  simp only[B1]
  split at h1
  ·rename_i t e
   rw[e]
   obtain⟨h2,h3⟩:=A0h.1 h1
   exact⟨λht=>F6 (K:=λv=>K v os) (h2 ht),λht=>F6 (K:=λv=>K v os) (h3 ht)⟩
  ·exact h1.elim
 |un op x=>
  have h1:=F6 h
  simp only[B1]
  split at h1
  ·rename_i d e;rw[e];exact D3Q h1
  ·exact h1.elim
 |bin op x y=>exact D3M (F6 (F6 h))
 |eqb neg x y=>
  have h1:=F6 (F6 h)
  simp only[B1]
  split at h1
  ·rename_i a b e1 e2
   rw[e1,e2]
   cases neg<;>exact h1
  ·exact h1.elim
 |eqs neg ks x y=>
  have h1:=F6 (F6 h)
  simp only[B1]
  split at h1
  ·rename_i a b e1 e2
   rw[e1,e2]
   obtain⟨r,h2,h3⟩:=D0e h1
   simp only[h2]
   cases neg<;>exact h3
  ·exact h1.elim
 |eqnil neg x=>
  have h1:=F6 h
  simp only[B1]
  split at h1
  ·rename_i e;rw[e];exact h1
  ·rename_i es e;rw[e];exact h1
  ·rename_i id len e
   rw[e]
   obtain⟨ob,h2,h3⟩:=P3 h1
   cases ob with
   |arr es sz frz nl=>
    obtain⟨h4,h5⟩:=h3
    simp only[h2]
    refine⟨h4,?_⟩
    cases neg<;>exact h5
   |_=>exact h3.elim
  ·exact h1.elim
 |conv k x=>
  have h1:=F6 h
  simp only[B1]
  split at h1
  ·rename_i k n e;rw[e];exact h1.h
  ·exact h1.elim
 |cvs x=>
  have h1:=F6 h
  simp only[B1]
  split at h1
  ·rename_i s e;rw[e];exact h1
  ·exact h1.elim
 |faddr off x=>exact B0L (F6 h)
 |field off n agg x=>
  have h1:=F6 h
  simp only[B1]
  split at h1
  ·rename_i cs e
   rw[e]
   cases agg with
   |true=>exact A7p (K:=λl=>K (.agg l) os) h1
   |false=>
    obtain⟨c,h3,h4⟩:=A0M (K:=λc=>frc c λc=>K c os) h1
    exact⟨(B2.1 h3).1,by rw[A0N h3];exact A1f.1 h4⟩
  ·exact h1.elim
 |ixarr len sz x i=>
  have h1:=F6 (F6 h)
  simp only[B1]
  split at h1
  ·rename_i k n e
   rw[e]
   obtain⟨⟨h2,h3⟩,h4⟩:=h1
   exact⟨h2,h3,B0L h4⟩
  ·exact h1.elim
 |ixsl sz x i=>
  have h1:=F6 (F6 h)
  simp only[B1]
  split at h1
  ·rename_i k n e
   rw[e]
   simp only
   split at h1
   ·rename_i d e2
    rw[e2]
    obtain⟨⟨es,h2,⟨h3,h4⟩,h5,h6⟩⟩:=h1
    rcases h2 with ⟨rfl,rfl⟩|rfl
    ·simp at h4;omega
    ·exact⟨h3,h4,h5,h6⟩
   ·rename_i id len e2
    rw[e2]
    obtain⟨ob,h2,h3⟩:=P3 h1
    cases ob with
    |arr es sz' frz nl=>
     obtain⟨a1,a2,a3⟩:=h3
     obtain⟨a4,⟨a5,a6⟩,a7⟩:=Y0.1 a3
     simp only[h2]
     exact⟨a1,Q5 a4,a5,a6,a2,a7⟩
    |_=>exact h3.elim
   ·rename_i id len e2
    rw[e2]
    obtain⟨ob,h2,h3⟩:=P3 h1
    cases ob with
    |rarr es sz' nl=>
     obtain⟨a1,a2,a3⟩:=h3
     obtain⟨a4,⟨a5,a6⟩,a7⟩:=Y0.1 a3
     simp only[h2]
     exact⟨a1,Q5 a4,a5,a6,a2,a7⟩
    |_=>exact h3.elim
   ·exact h1.elim
  ·exact h1.elim
 |ixstr x i=>
  have h1:=F6 (F6 h)
  simp only[B1]
  split at h1
  ·rename_i s k n e1 e2
   rw[e1,e2]
   obtain⟨⟨h2,h3⟩,h4⟩:=h1
   exact⟨h2,h3,h4⟩
  ·exact h1.elim
 |ixval len sz agg x i=>
  have h1:=F6 (F6 h)
  simp only[B1]
  split at h1
  ·rename_i cs k n e1 e2
   rw[e1,e2]
   obtain⟨⟨h2,h3⟩,h4⟩:=h1
   refine⟨h2,h3,?_⟩
   cases agg with
   |true=>exact A7p (K:=λl=>K (.agg l) os) h4
   |false=>
    obtain⟨h5,h6⟩:=Y0.1 h4
    obtain⟨c,h7,h8⟩:=A0M h6
    exact⟨Q5 h5,(B2.1 h7).1,by rw[A0N h7];exact A1f.1 h8⟩
  ·exact h1.elim
 |slstr x lo hi=>
  have h1:=F6 h
  simp only[B1]
  split at h1
  ·rename_i s e
   rw[e]
   have key:∀h,(A0x L lo 0 λl=>F7 (0<=l/\l<=h/\h<=s.length) (K (.d (.str ((s.drop l.toNat).take (h.toNat-l.toNat)))) os))->S3 (D5 L) lo 0 λl=>0<=l/\l<=h/\h<=s.length/\K (.d (.str ((s.drop l.toNat).take (h.toNat-l.toNat)))) os:=by
    intro h hh
    refine A15 (λl=>?_) (A1x hh)
    rintro⟨⟨a,b,c⟩,d⟩
    exact⟨a,b,c,d⟩
   exact A15 (λh hh=>key h hh) (A1x h1)
  ·exact h1.elim
 |slsl sz x lo hi=>
  have h1:=F6 h
  simp only[B1]
  obtain⟨d,os1,h2,h3⟩:=A9P h1
  simp only[slI,h2]
  split at h3
  ·rename_i es
   simp only
   refine A15 (λh hh=>?_) (A1x h3)
   refine A15 (λl=>?_) (A1x hh)
   rintro⟨⟨a,b,c⟩,d,e⟩
   exact⟨a,b,c,d,e⟩
  ·simp only
   refine A15 (λh hh=>?_) (A1x h3)
   refine A15 (λl=>?_) (A1x hh)
   rintro⟨⟨a,b⟩,c⟩
   exact⟨a,b,c⟩
  ·exact h3.elim
 |slsld sz x lo hi=>
  have h1:=F6 h
  simp only[B1]
  split at h1
  ·rename_i d e
   rw[e]
   split at h1
   ·simp only[A1Y]
    refine A15 (λh hh=>?_) (A1x h1)
    refine A15 (λl=>?_) (A1x hh)
    rintro⟨⟨a,b,c⟩,d,e⟩
    exact⟨a,b,c,d,e⟩
   ·simp only[A1Y]
    refine A15 (λh hh=>?_) (A1x h1)
    refine A15 (λl=>?_) (A1x hh)
    rintro⟨⟨a,b⟩,c⟩
    exact⟨a,b,c⟩
   ·exact h1.elim
  ·exact h1.elim
 |stop=>exact h.elim
 |mkb f x=>
  have h1:=F6 h
  simp only[B1]
  split at h1
  ·rename_i cs e
   rw[e]
   exact h1
  ·exact h1.elim
 |build zs parts=>exact A5t (K:=λcs=>K (.agg cs) os) (z8.1 h)
 |bsl n sz zs parts=>
  have h1:=A5t (z8.1 h)
  simp only[B1]
  refine A7h (λcs h1=>?_) h1
  obtain⟨xs,os1,h2,h3⟩:=A5y h1
  simp only[h2]
  rcases h3.h with h3|h3
  ·exact .inl (t6.1 (A1i (A5k.1 h3)))
  ·obtain⟨h4,h5⟩:=h3
   exact .inr ⟨h4,(A5k (K:=λes=>K (.d (.sl es)) os)).1 h5⟩
 |bsld n sz zs parts=>
  have h1:=A5t (z8.1 h)
  simp only[B1]
  refine A7h (λcs h1=>?_) h1
  obtain⟨xs,os1,h2,h3,h4⟩:=A5y h1
  simp only[h2]
  exact⟨h3,(A5k (K:=λes=>K (.d (.sl es)) os)).1 h4⟩
 |clo f caps=>
  cases caps with
  |nil=>exact h
  |cons c l=>
   obtain⟨ids,h1,h2⟩:=B69 (L:=L) (xs:=c::l) (K:=λids=>K (.clo f ids) os) h
   simp only[B1,h1]
   exact h2
 |ext i x=>
  have h1:=F6 h
  simp only[B1]
  split at h1
  ·rename_i vs e
   rw[e]
   obtain⟨c,h3,h4⟩:=A0M h1
   exact⟨(B2.1 h3).1,by rw[A0N h3];exact A1f.1 h4⟩
  ·exact h1.elim
 |lens x=>
  have h1:=F6 h
  simp only[B1]
  split at h1
  ·rename_i s e;rw[e];exact h1
  ·exact h1.elim
 |len x=>
  have h1:=F6 h
  simp only[B1]
  split at h1
  ·rename_i d e
   rw[e]
   obtain⟨⟨es,h2,h3⟩⟩:=h1
   rcases h2 with ⟨rfl,rfl⟩|rfl
   ·exact h3
   ·exact h3
  ·rename_i id len e
   rw[e]
   obtain⟨ob,h2,h3⟩:=P3 h1
   cases ob with
   |arr es sz frz nl=>simp only[h2];exact⟨h3.1,h3.2⟩
   |_=>exact h3.elim
  ·rename_i id len e
   rw[e]
   obtain⟨ob,h2,h3⟩:=P3 h1
   cases ob with
   |rarr es sz nl=>simp only[h2];exact⟨h3.1,h3.2⟩
   |_=>exact h3.elim
  ·exact h1.elim
 |lenk n=>exact h
 |minmax mx x xs=>
  have h1:=F6 h
  simp only[B1]
  split at h1
  ·rename_i k a e
   rw[e]
   exact B05 (A22 h1)
  ·exact h1.elim
 |load agg n x=>exact B9Q (F6 h)
 |store n x v=>exact D3P (F6 (F6 h))
 |alloc zs=>
  obtain⟨h1,h2⟩:=A0h.1 h
  cases hb:Nat.ble zs.length 40 with
  |true=>exact t6.1 (A1i ((z8 (f:=AV.d)).1 (h1 hb)))
  |false=>exact t6.1 (A1i (h2 hb))
 |box n x=>
  obtain⟨xs,h1,h2⟩:=A76 (F6 h)
  obtain⟨h3,h4⟩:=Y0.1 h2
  simp only[B1,h1]
  exact⟨Q5 h3,t6.1 (A1i h4)⟩
 |mksl sz bytes zs len cap=>
  have h1:=F6 (F6 h)
  simp only[B1]
  split at h1
  ·rename_i k l k' c e1 e2
   rw[e1,e2]
   obtain⟨⟨a,b,c,d⟩,h2⟩:=h1
   have:=t6.1 (A1i h2)
   rw[List.length_replicate] at this
   exact⟨a,b,c,d,this⟩
  ·exact h1.elim
 |app sz bytes s x=>
  have h1:=F6 (F6 h)
  simp only[B1]
  split at h1
  ·rename_i id2 len2 e
   rw[e]
   obtain⟨ob,h2,h3⟩:=P3 h1
   cases ob with
   |rarr ns sz2 nl=>
    obtain⟨h4,h5,h6,h7⟩:=h3
    subst h4
    simp only[h2]
    exact⟨h5,h6,D3J h7⟩
   |_=>exact h3.elim
  ·rename_i d e
   rw[e]
   exact B8e (λns hn=>B9L hn) (B9R h1)
  ·rename_i id len e
   rw[e]
   exact B8e (λns hn=>B9L hn) (B9R h1)
  ·exact h1.elim
 |call f args=>
  have hg:=F6 (A22 h)
  have frz:(A1U os (args.map (B9 (D5 L))) λas os1=>match B9 (D5 L) f with
    |.d (.fn g)=>Cn (as.any AV.ref) (A24 P g as os1 K) (A2b P g as os1 K)
    |.clo g caps=>Z8 as (caps.map λid=>.ptr id 0) λas'=>A24 P g as' os1 K
    |.d (.lit v)=>A58 v as λg as'=>A2b P g as' os1 K
    |_=>False)->B1 P (D5 L) os K (.call f args):=by
   intro h
   obtain⟨as,os1,h1,h3⟩:=A7F h
   simp only[B1,h1]
   refine .inl ?_
   split at h3
   ·rename_i g e
    rw[e]
    simp only
    cases hr:as.any AV.ref with
    |true=>
     rw[hr] at h3
     simp only[if_true]
     exact h3.h
    |false=>
     rw[hr] at h3
     simp only[L8,if_false]
     exact h3.h
   ·rename_i g caps e
    rw[e]
    exact(t6.1 h3).h
   ·rename_i v e
    rw[e]
    obtain⟨g,ds,h4,h5,h6⟩:=C8T h3
    simp only[h4]
    exact⟨h5,h6.h⟩
   ·exact h3.elim
  obtain⟨h1,h2⟩:=A0h.1 hg
  cases ha:(args.map (B9 (D5 L))).any AV.isArr with
  |false=>exact frz (h2 ha)
  |true=>
   rcases(h1 ha).h with h3|h3
   ·exact frz h3
   ·simp only[B1]
    refine .inr ?_
    split at h3
    ·rename_i e
     rw[e]
     exact⟨h3.1,h3.2.h⟩
    ·exact h3.elim
 |calld f args=>
  have h2:=F6 (A22 h)
  simp only[B1]
  split at h2
  ·rename_i g e
   rw[e]
   obtain⟨h3,h4⟩:=A0h.1 h2
   cases hr:(List.map (B9 (D5 L)) args).any AV.ref with
   |true=>
    obtain⟨as,os1,h1,h3,⟨r,h4,h5⟩⟩:=A7F (h3 hr)
    refine .inr ?_
    simp only[h1]
    exact⟨h3,r,h4,h5⟩
   |false=>
    obtain⟨as,os1,h1,h3,⟨r,h4,h5⟩⟩:=A3T (h4 hr)
    refine .inl ?_
    simp only[h1]
    exact⟨h3,r,h4,h5⟩
  ·exact h2.elim
 |rstr x=>
  have h1:=F6 h
  simp only[B1]
  split at h1
  ·rename_i s e;rw[e];exact t6.1 (A1i h1)
  ·exact h1.elim
 |nstr x=>
  have h1:=F6 h
  simp only[B1]
  split at h1
  ·rename_i id e
   rw[e]
   obtain⟨ob,h2,h3⟩:=P3 h1
   cases ob with
   |iter s p=>
    simp only[h2]
    obtain⟨h4,h5⟩:=A0h.1 h3
    exact⟨λhp=>A01.1 (h4 (decide_eq_true hp)),λhp=>h5 (decide_eq_false (by omega))⟩
   |_=>exact h3.elim
  ·exact h1.elim
 |callp f args=>
  have h2:=F6 (A22 h)
  simp only[B1]
  split at h2
  ·rename_i g e
   rw[e]
   obtain⟨as,os1,h1,h3,⟨r,h4,h5⟩⟩:=A3T h2
   simp only[h1]
   exact⟨h3,r,h4,h5⟩
  ·exact h2.elim
 |calln id f args=>
  have h2:=F6 (A22 h)
  simp only[B1]
  split at h2
  ·rename_i g e
   rw[e]
   obtain⟨as,os1,h1,h3,h4⟩:=A3T h2
   simp only[h1]
   obtain⟨ob,h5,h6⟩:=P3 h4
   cases ob with
   |hole=>
    obtain⟨es,sz,nl,h7,h8⟩:=h6
    exact⟨h3,h5,es,sz,nl,h7,A01.1 h8⟩
   |_=>exact h6.elim
  ·exact h2.elim
 |bslr id n sz zs parts=>
  have h1:=A5t (z8.1 h)
  simp only[B1]
  refine A7h (λcs h1=>?_) h1
  obtain⟨ob,h5,h6⟩:=P3 h1
  simp only[h5]
  cases ob with
  |hole=>exact A01.1 ((A5k (K:=λes=>p8 os id (.rarr es sz false) λos'=>K (.rs id n) os')).1 h6)
  |_=>exact h6.elim
 |alloca id zs=>
  obtain⟨ob,h2,h3⟩:=P3 h
  simp only[B1,h2]
  cases ob with
  |hole=>exact A01.1 (z8.1 h3)
  |_=>exact h3.elim
 |boxa id n x=>
  obtain⟨xs,h1,h2⟩:=A76 (F6 h)
  obtain⟨h3,h4⟩:=Y0.1 h2
  obtain⟨ob,h5,h6⟩:=P3 h4
  simp only[B1,h1,h5]
  cases ob with
  |hole=>exact⟨Q5 h3,A01.1 h6⟩
  |_=>exact h6.elim
 |mkmap=>exact t6.1 (A1i h)
 |lkup sk ok g zs m k=>
  have h1:=F6 (F6 h)
  simp only[B1]
  split at h1
  ·rename_i id key e1 e2
   rw[e1,e2]
   obtain⟨ob,h2,h3⟩:=P3 h1
   simp only[h2]
   cases ob with
   |map kvs=>
    simp only
    obtain⟨⟨⟨h4,r,h5,h6⟩⟩|⟨⟨h4,r,h5,h6⟩⟩⟩:=h3
    ·exact⟨h4,.inl (by rw[h5];exact A1f.1 h6)⟩
    ·refine⟨h4,.inr ?_⟩
     split at h6
     ·obtain⟨ob,h7,h8⟩:=P3 h6
      split at h8
      ·exact⟨h5,_,_,h7,h8⟩
      ·exact h8.elim
     ·exact h6.elim
   |_=>exact h3.elim
  ·exact h1.elim
 |mupd sk m k v=>
  have h1:=F6 (F6 (F6 h))
  simp only[B1]
  split at h1
  ·rename_i id key e1 e2
   rw[e1,e2]
   obtain⟨ob,h2,h3⟩:=P3 h1
   simp only[h2]
   cases ob with
   |map kvs=>
    obtain⟨h4,⟨h5,h6⟩⟩:=Y0.1 h3
    exact⟨h5,h4,A01.1 h6⟩
   |_=>exact h3.elim
  ·exact h1.elim
 |rmap x=>
  have h1:=F6 h
  simp only[B1]
  split at h1
  ·rename_i id e
   rw[e]
   obtain⟨ob,h2,h3⟩:=P3 h1
   simp only[h2]
   cases ob with
   |map kvs=>exact t6.1 (A1i h3)
   |_=>exact h3.elim
  ·exact h1.elim
 |nmap x=>
  have h1:=F6 h
  simp only[B1]
  split at h1
  ·rename_i id e
   rw[e]
   obtain⟨ob,h2,h3⟩:=P3 h1
   simp only[h2]
   cases ob with
   |mit m n seen=>
    obtain⟨ob,h4,h5⟩:=P3 h3
    simp only[h4]
    cases ob with
    |map kvs=>
     obtain⟨k0,k1,k2⟩:=h5
     exact⟨k0,λi p hi hp=>A01.1 (k1 i p hi hp),k2⟩
    |_=>exact h5.elim
   |_=>exact h3.elim
  ·exact h1.elim
 |entry x=>
  have h1:=F6 h
  simp only[B1]
  split at h1
  ·rename_i id e
   rw[e]
   obtain⟨ob,h2,h3⟩:=P3 h1
   simp only[h2]
   cases ob with
   |mit m n seen=>
    obtain⟨ob,h4,h5⟩:=P3 h3
    simp only[h4]
    cases ob with
    |map kvs=>
     obtain⟨⟨k0,i,p,k1,k2,k3⟩⟩:=h5
     simp only[k1,k2]
     exact⟨k0,k3⟩
    |_=>exact h5.elim
   |_=>exact h3.elim
  ·exact h1.elim
 |nilck x=>exact B0L (F6 h)
end Go.Bi
