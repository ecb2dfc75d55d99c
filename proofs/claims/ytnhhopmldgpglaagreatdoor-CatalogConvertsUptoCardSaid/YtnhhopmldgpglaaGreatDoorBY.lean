/- The evaluator: operations, regions, code; it is sound. No condition. -/
import Derived.Test.YtnhhopmldgpglaaGreatDoorBX
set_option linter.unusedVariables false
namespace Go.Bi
set_option linter.unusedSectionVars false
variable [J9]
def AV.isArr:AV->Bool
 |.arr _ _=>true
 |_=>false
def Go(X:Prop):Prop:=X
def A5T(v:Value)(as:List AV)(K:FuncId->List AV->Prop):Prop:=match A5S v with
 |some (g,ds)=>Cn (as.any AV.ref) False (y0 .d ds λcs=>K g (.agg cs::as))
 |none=>False
theorem D2G{v:Value}{as:List AV}{K:FuncId->List AV->Prop}(h:A5T v as K):∃g ds,A5S v=some (g,ds)/\as.any AV.ref=false/\K g (.agg (ds.map .d)::as):=by
 unfold A5T at h
 split at h
 ·rename_i g ds e
  obtain⟨h1,h2⟩:=A0z.1 h
  cases ha:as.any AV.ref with
  |true=>exact(h1 ha).elim
  |false=>exact⟨g,ds,e,rfl,A0d.1 (h2 ha)⟩
 ·exact h.elim
def xOp(P:Program)(L:Sl)(os:List AO)(K:AV->List AO->Prop):IK->Prop
 |.mv x=>xV L x λv=>K v os
 |.pick c a b=>xV L c λv=>match v with
  |.d (.bool t)=>Cn t (xV L a λv=>K v os) (xV L b λv=>K v os)
  |_=>False
 |.un op x=>xV L x λv=>match v with
  |.d x=>xUn op x λr=>K (.d r) os
  |_=>False
 |.bin op x y=>xV L x λa=>xV L y λb=>C2q op a b λr=>K (.d r) os
 |.eqb neg x y=>xV L x λa=>xV L y λb=>match a,b with
  |.d (.bool a),.d (.bool b)=>Cn neg (K (.d (.bool (!(a==b)))) os) (K (.d (.bool (a==b))) os)
  |_,_=>False
 |.eqs neg ks x y=>xV L x λa=>xV L y λb=>match a,b with
  |.agg cs,.agg ds=>A3M ks cs ds λr=>Cn neg (K (.d (.bool (!r))) os) (K (.d (.bool r)) os)
  |_,_=>False
 |.eqnil neg x=>xV L x λv=>match v with
  |.d .nil=>K (.d (.bool (!neg))) os
  |.d (.sl _)=>K (.d (.bool neg)) os
  |.arr id len=>Q7 os id λob=>match ob with
   |.arr es sz frz nl=>F1 (len=es.length) (Cn neg (K (.d (.bool (!nl))) os) (K (.d (.bool nl)) os))
   |_=>False
  |_=>False
 |.conv k x=>xV L x λv=>match v with
  |.d (.int _ n)=>WrK k n λr=>K (.d r) os
  |_=>False
 |.cvs x=>xV L x λv=>match v with
  |.d (.str s)=>K (.d (.str s)) os
  |_=>False
 |.faddr off x=>xV L x λv=>xSh os off v λr=>K r os
 |.field off n agg x=>xV L x λv=>match v with
  |.agg cs=>Cn agg (gcs cs off n λl=>K (.agg l) os) (gc cs off λc=>frc c λc=>K c os)
  |_=>False
 |.ixarr len sz x i=>xV L x λv=>xV L i λj=>match j with
  |.d (.int _ n)=>F1 (0<=n/\n<len) (xSh os (n.toNat*sz) v λr=>K r os)
  |_=>False
 |.ixsl sz x i=>xV L x λv=>xV L i λj=>match j with
  |.d (.int _ n)=>(match v with
   |.d d=>A7F d λes=>F1 (0<=n/\n<es.length) (F1 (∀e∈es,e.length=sz) (K (.dptr es n.toNat 0) os))
   |.arr id len=>Q7 os id λob=>match ob with
    |.arr es sz' frz nl=>F1 (len=es.length) (F1 (nl=false) (Cn (Nat.beq sz' sz) (F1 (0<=n/\n<es.length) (K (.aptr id len n.toNat 0) os)) False))
    |_=>False
   |.rs id len=>Q7 os id λob=>match ob with
    |.rarr es sz' nl=>F1 (len=es.length) (F1 (nl=false) (Cn (Nat.beq sz' sz) (F1 (0<=n/\n<es.length) (K (.rp id len n.toNat 0) os)) False))
    |_=>False
   |_=>False)
  |_=>False
 |.ixstr x i=>xV L x λv=>xV L i λj=>match v,j with
  |.d (.str s),.d (.int _ n)=>F1 (0<=n/\n<s.length) (K (.d (.int .u8 (s.getD n.toNat 0).toNat)) os)
  |_,_=>False
 |.ixval len sz agg x i=>xV L x λv=>xV L i λj=>match v,j with
  |.agg cs,.d (.int _ n)=>F1 (0<=n/\n<len) (Cn agg (gcs cs (n.toNat*sz) sz λl=>K (.agg l) os) (Cn (Nat.beq sz 1) (gc cs n.toNat λc=>frc c λc=>K c os) False))
  |_,_=>False
 |.slstr x lo hi=>xV L x λv=>match v with
  |.d (.str s)=>A0R L hi s.length λh=>A0R L lo 0 λl=>F1 (0<=l/\l<=h/\h<=s.length) (K (.d (.str ((s.drop l.toNat).take (h.toNat-l.toNat)))) os)
  |_=>False
 |.slsl sz x lo hi=>xV L x λv=>A8y os v λd os1=>match d with
  |.sl es=>A0R L hi es.length λh=>A0R L lo 0 λl=>F1 (0<=l/\l<=h/\h<=es.length) (F1 (∀e∈es,e.length=sz) (K (.d (.sl ((es.drop l.toNat).take (h.toNat-l.toNat)))) os1))
  |.nil=>A0R L hi 0 λh=>A0R L lo 0 λl=>F1 (l=0/\h=0) (K (.d .nil) os1)
  |_=>False
 |.slsld sz x lo hi=>xV L x λv=>match v with
  |.d d=>match d with
   |.sl es=>A0R L hi es.length λh=>A0R L lo 0 λl=>F1 (0<=l/\l<=h/\h<=es.length) (F1 (∀e∈es,e.length=sz) (K (.d (.sl ((es.drop l.toNat).take (h.toNat-l.toNat)))) os))
   |.nil=>A0R L hi 0 λh=>A0R L lo 0 λl=>F1 (l=0/\h=0) (K (.d .nil) os)
   |_=>False
  |_=>False
 |.stop=>False
 |.mkb f x=>xV L x λv=>match v with
  |.agg cs=>match A73 cs with
   |some vs=>K (.d (.lit (.func (.func f) ⟨[.agg ⟨vs⟩]⟩ ⟨[]⟩))) os
   |none=>False
  |_=>False
 |.build zs parts=>y0 .d zs λcs=>A4H L parts cs λcs=>K (.agg cs) os
 |.bsl n sz zs parts=>y0 .d ((List.replicate n zs).flatten) λcs=>A4H L parts cs λcs=>A3P os cs λxs os1=>LkA (A3G sz n xs λes=>r8 os1 0 λm=>j4 os1 [.arr es sz 0 false] λos2=>K (.arr m n) os2) (F1 (os1=os) (A3G sz n xs λes=>K (.d (.sl es)) os))
 |.bsld n sz zs parts=>y0 .d ((List.replicate n zs).flatten) λcs=>A4H L parts cs λcs=>A3P os cs λxs os1=>F1 (os1=os) (A3G sz n xs λes=>K (.d (.sl es)) os)
 |.clo f caps=>match caps with
  |[]=>K (.d (.fn f)) os
  |_=>B0T L caps λids=>K (.clo f ids) os
 |.ext i x=>xV L x λv=>match v with
  |.tup vs=>gc vs i λc=>frc c λc=>K c os
  |_=>False
 |.lens x=>xV L x λv=>match v with
  |.d (.str s)=>K (.d (.int .i64 s.length)) os
  |_=>False
 |.len x=>xV L x λv=>match v with
  |.d d=>A7F d λes=>K (.d (.int .i64 es.length)) os
  |.arr id len=>Q7 os id λob=>match ob with
   |.arr es sz frz nl=>F1 (len=es.length) (K (.d (.int .i64 es.length)) os)
   |_=>False
  |.rs id len=>Q7 os id λob=>match ob with
   |.rarr es sz nl=>F1 (len=es.length) (K (.d (.int .i64 es.length)) os)
   |_=>False
  |_=>False
 |.lenk n=>K (.d (.int .i64 n)) os
 |.minmax mx x xs=>xV L x λv=>match v with
  |.d (.int k a)=>xVs L xs λl=>A8M mx k a l λr=>K r os
  |_=>False
 |.load agg n x=>xV L x λv=>B2x os agg n v λr=>K r os
 |.store n x v=>xV L x λa=>xV L v λb=>C2B os n a b λos'=>K .junk os'
 |.alloc zs=>Cn (Nat.ble zs.length 40) (y0 .d zs λcs=>r8 os 0 λm=>j4 os [.cells cs] λos'=>K (.ptr m 0) os') (r8 os 0 λm=>j4 os [.cells (zs.map .d)] λos'=>K (.ptr m 0) os')
 |.box n x=>xV L x λv=>A60 v λxs=>Cn (Nat.beq xs.length n) (r8 os 0 λm=>j4 os [.cells xs] λos'=>K (.ptr m 0) os') False
 |.mksl sz bytes zs len cap=>xV L len λa=>xV L cap λb=>match a,b with
  |.d (.int _ l),.d (.int _ c)=>F1 (0<=l/\l<=c/\c*bytes<=140737488355328/\c<=9223372036854775807) (r8 os 0 λm=>j4 os [.arr (List.replicate l.toNat zs) sz 0 false] λos'=>K (.arr m (List.replicate l.toNat zs).length) os')
  |_,_=>False
 |.app sz bytes s x=>xV L s λa=>xV L x λb=>match b with
  |.rs id2 len2=>Q7 os id2 λob=>match ob with
   |.rarr ns sz2 nl=>F1 (nl=false) (F1 (len2=ns.length) (F1 (0<ns.length) (C2p os sz bytes a ns K)))
   |_=>False
  |.d d=>B2y os (.d d) λns=>B2v os sz bytes a ns K
  |.arr id len=>B2y os (.arr id len) λns=>B2v os sz bytes a ns K
  |_=>False
 |.call f args=>xVs L args λvs=>xV L f λg=>Cn (vs.any AV.isArr)
   (A9H (A2r os vs λas os1=>match g with
    |.d (.fn g)=>Cn (as.any AV.ref) (A2H P g as os1 K) (A2M P g as os1 K)
    |.clo g caps=>j4 as (caps.map λid=>.ptr id 0) λas'=>A2H P g as' os1 K
    |.d (.lit v)=>A5T v as λg as'=>A2M P g as' os1 K
    |_=>False) (match g with
    |.d (.fn g)=>F1 (vs.all AV.one=true) (A2H P g vs os K)
    |_=>False))
   (A2r os vs λas os1=>match g with
    |.d (.fn g)=>Cn (as.any AV.ref) (A2H P g as os1 K) (A2M P g as os1 K)
    |.clo g caps=>j4 as (caps.map λid=>.ptr id 0) λas'=>A2H P g as' os1 K
    |.d (.lit v)=>A5T v as λg as'=>A2M P g as' os1 K
    |_=>False)
 |.calld f args=>xVs L args λvs=>xV L f λg=>match g with
  |.d (.fn g)=>Cn (vs.any AV.ref) (A2r os vs λas os1=>F1 (os1=os) (B7Z P g as os λr=>K r os)) (A3Q os vs λas os1=>F1 (os1=os) (B0C P g as λr=>K r os))
  |_=>False
 |.rstr x=>xV L x λv=>match v with
  |.d (.str s)=>r8 os 0 λm=>j4 os [.iter s 0] λos'=>K (.iter m) os'
  |_=>False
 |.nstr x=>xV L x λv=>match v with
  |.iter id=>Q7 os id λob=>match ob with
   |.iter s p=>Cn (decide (p<s.length))
     (t6 os id (.iter s (p+(Utf8.decode ⟨⟨s⟩⟩ p).2)) λos'=>K (.tup [.d (.bool true),.d (.int .i64 p),.d (.int .i32 (Utf8.decode ⟨⟨s⟩⟩ p).1)]) os')
     (K (.tup [.d (.bool false)]) os)
   |_=>False
  |_=>False
 |.nilck x=>xV L x λv=>xSh os 0 v λr=>K r os
 |.callp f args=>xVs L args λvs=>xV L f λg=>match g with
  |.d (.fn g)=>A3Q os vs λas os1=>F1 (os1=os) (B0C P g as λr=>K r os)
  |_=>False
 |.calln id f args=>xVs L args λvs=>xV L f λg=>match g with
  |.d (.fn g)=>A3Q os vs λas os1=>F1 (os1=os) (Q7 os id λob=>match ob with
   |.hole=>B7Y P g as λes sz nl=>t6 os id (.arr es sz 0 nl) λos'=>K (.arr id es.length) os'
   |_=>False)
  |_=>False
 |.bslr id n sz zs parts=>y0 .d ((List.replicate n zs).flatten) λcs=>A4H L parts cs λcs=>Q7 os id λob=>match ob with
  |.hole=>A3G sz n cs λes=>t6 os id (.rarr es sz false) λos'=>K (.rs id n) os'
  |_=>False
 |.alloca id zs=>Q7 os id λob=>match ob with
  |.hole=>y0 .d zs λcs=>t6 os id (.cells cs) λos'=>K (.ptr id 0) os'
  |_=>False
 |.boxa id n x=>xV L x λv=>A60 v λxs=>Cn (Nat.beq xs.length n) (Q7 os id λob=>match ob with
  |.hole=>t6 os id (.cells xs) λos'=>K (.ptr id 0) os'
  |_=>False) False
 |.mkmap=>r8 os 0 λm=>j4 os [.map []] λos'=>K (.mp m) os'
 |.lkup sk ok g zs m k=>xV L m λa=>xV L k λb=>match a,b with
  |.mp id,.d key=>Q7 os id λob=>match ob with
   |.map kvs=>LkA (A9T sk ok g zs key kvs λr=>frc r λr=>K r os) (A9T sk ok g zs key kvs λr=>match r with
    |.d .nil=>Q7 os (id+1) λob=>match ob with
     |.arr [] _ _ true=>K (.arr (id+1) 0) os
     |_=>False
    |_=>False)
   |_=>False
  |_,_=>False
 |.mupd sk m k v=>xV L m λa=>xV L k λb=>xV L v λc=>match a,b with
  |.mp id,.d key=>Q7 os id λob=>match ob with
   |.map kvs=>Cn c.one (B6y sk key c kvs λkvs'=>t6 os id (.map kvs') λos'=>K .junk os') False
   |_=>False
  |_,_=>False
 |.rmap x=>xV L x λv=>match v with
  |.mp id=>Q7 os id λob=>match ob with
   |.map kvs=>r8 os 0 λm=>j4 os [.mit id kvs.length []] λos'=>K (.mit m) os'
   |_=>False
  |_=>False
 |.nmap x=>xV L x λv=>match v with
  |.mit id=>Q7 os id λob=>match ob with
   |.mit m n seen=>Q7 os m λob=>match ob with
    |.map kvs=>C9w n seen kvs (λi p=>Go (t6 os id (.mit m n (seen++[i])) λos'=>K (.tup [.d (.bool true),.d p.1,p.2]) os')) (Go (K (.tup [.d (.bool false)]) os))
    |_=>False
   |_=>False
  |_=>False
 |.entry x=>xV L x λv=>match v with
  |.mit id=>Q7 os id λob=>match ob with
   |.mit m n seen=>Q7 os m λob=>match ob with
    |.map kvs=>C9v n seen kvs λp=>K (.tup [.d p.1,p.2]) os
    |_=>False
   |_=>False
  |_=>False
theorem A1F{ρ:C5}{x:Option B6}{dflt:Nat}{K K':Int->Prop}(hk:∀n,K n->K' n)(h:S2 ρ x dflt K):S2 ρ x dflt K':=by
 cases x with
 |none=>exact hk _ h
 |some x=>
  simp only[S2] at h ⊢
  split at h
  ·rename_i e;exact hk _ h
  ·exact h.elim
theorem C0K{os:List AO}{x:AV}{K K':List (List D)->Prop}(hk:∀n,K n->K' n)(h:j9 os x K):j9 os x K':=by
 unfold j9 at h ⊢
 split at h
 ·exact hk _ h
 ·exact hk _ h
 ·split at h
  ·exact⟨h.1,hk _ h.2⟩
  ·exact h.elim
 ·exact h.elim
theorem A8q{ρ:C5}{K K':List AV->Prop}(hk:∀n,K n->K' n):∀{ps:List (Nat×Nat×B6)}{cs:List AV},O9 ρ ps cs K->O9 ρ ps cs K'
 |[],cs,h=>hk _ h
 |(off,n,x)::ps,cs,h=>by
  unfold O9 at h ⊢
  split at h
  ·rename_i xs e
   exact⟨h.1,h.2.1,A8q hk h.2.2⟩
  ·exact h.elim
theorem A1R{os:List AO}{K:Nat->Prop}(h:r8 os 0 K):K os.length:=by
 have:=B1E.1 h
 rwa [v7] at this
theorem A22{M:C2}{G:Gh}{n:Nat}{c:AV}{u:Value}(h:VC M G [] c u):n7 n c=c:=by
 cases c with
 |ptr id off=>obtain⟨_,cs,h⟩:=h;simp at h
 |aptr id len i off=>obtain⟨_,es,sz,frz,nl,h,_⟩:=h;simp at h
 |arr id len=>obtain⟨_,es,sz,frz,nl,h,_⟩:=h;simp at h
 |rs id len=>obtain⟨_,es,sz,nl,h,_⟩:=h;simp at h
 |rp id len i off=>obtain⟨_,es,sz,nl,h,_⟩:=h;simp at h
 |iter id=>obtain⟨_,s,p,h⟩:=h;simp at h
 |mp id=>obtain⟨_,kvs,h⟩:=h;simp at h
 |mit id=>obtain⟨_,m,k,s,h⟩:=h;simp at h
 |clo f caps=>
  obtain⟨_,h⟩:=h
  cases caps with
  |nil=>rfl
  |cons c l=>obtain⟨cs,h⟩:=h c (by simp);simp at h
 |_=>rfl
theorem A1q{M:C2}{G:Gh}{n:Nat}{c:AV}{u:Value}(h:VG M G [] c u):shG n c=c:=by
 cases c with
 |agg cs=>
  obtain⟨vs,rfl,h1,h2⟩:=h
  simp only[shG]
  congr 1
  conv=>rhs;rw[<- A02 cs]
  refine T9 λc hc=>?_
  obtain⟨j,hj⟩:=A3q hc
  have hlt:j<vs.size:=by rw[h1];exact(A7.1 hj).1
  exact A22 (h2 j c vs[j] hj (J4 hlt))
 |ptr id off=>exact A22 (M:=M) (G:=G) (u:=u) (c:=.ptr id off) h
 |aptr id len i off=>exact A22 (M:=M) (G:=G) (u:=u) (c:=.aptr id len i off) h
 |arr id len=>exact A22 (M:=M) (G:=G) (u:=u) (c:=.arr id len) h
 |iter id=>exact A22 (M:=M) (G:=G) (u:=u) (c:=.iter id) h
 |mp id=>exact A22 (M:=M) (G:=G) (u:=u) (c:=.mp id) h
 |mit id=>exact A22 (M:=M) (G:=G) (u:=u) (c:=.mit id) h
 |rs id len=>exact A22 (M:=M) (G:=G) (u:=u) (c:=.rs id len) h
 |rp id len i off=>exact A22 (M:=M) (G:=G) (u:=u) (c:=.rp id len i off) h
 |clo f caps=>exact A22 (M:=M) (G:=G) (u:=u) (c:=.clo f caps) h
 |d x=>rfl
 |dptr es i off=>rfl
 |junk=>rfl
 |tup cs=>rfl
theorem D7W{M:C2}{G:Gh}{n:Nat}{c:AV}{u:Value}(h:VA M G [] c u):shA n c=c:=by
 cases c with
 |tup cs=>
  obtain⟨vs,rfl,h1,h2⟩:=h
  simp only[shA]
  congr 1
  conv=>rhs;rw[<- A02 cs]
  refine T9 λc hc=>?_
  obtain⟨j,hj⟩:=A3q hc
  have hlt:j<vs.size:=by rw[h1];exact(A7.1 hj).1
  exact A1q (h2 j c vs[j] hj (J4 hlt))
 |agg cs=>exact A1q (M:=M) (G:=G) (u:=u) (c:=.agg cs) h
 |ptr id off=>exact A1q (M:=M) (G:=G) (u:=u) (c:=.ptr id off) h
 |aptr id len i off=>exact A1q (M:=M) (G:=G) (u:=u) (c:=.aptr id len i off) h
 |arr id len=>exact A1q (M:=M) (G:=G) (u:=u) (c:=.arr id len) h
 |iter id=>exact A1q (M:=M) (G:=G) (u:=u) (c:=.iter id) h
 |mp id=>exact A1q (M:=M) (G:=G) (u:=u) (c:=.mp id) h
 |mit id=>exact A1q (M:=M) (G:=G) (u:=u) (c:=.mit id) h
 |rs id len=>exact A1q (M:=M) (G:=G) (u:=u) (c:=.rs id len) h
 |rp id len i off=>exact A1q (M:=M) (G:=G) (u:=u) (c:=.rp id len i off) h
 |clo f caps=>exact A1q (M:=M) (G:=G) (u:=u) (c:=.clo f caps) h
 |d x=>rfl
 |dptr es i off=>rfl
 |junk=>rfl
theorem D6J{P:Program}{g:FuncId}{as:List AV}{r:AV}(h:Pure P g as r){os1:List AO}{K:AV->List AO->Prop}(hk:K r os1):B0 P g as [] λr os2=>K (shA os1.length r) (os1++os2.map (U3 os1.length)):=by
 refine⟨h.1,λM G w vs he hl hv=>(h.2 M G w vs he hl hv).mono λe w' ⟨v,he,M',G',r',os',h1,h2,h3,h4,h5⟩=>?_⟩
 subst h4
 subst h5
 refine⟨v,he,M',G',r',[],h1,h2,h3,?_⟩
 show K (shA os1.length r') (os1++[])
 rw[D7W h3]
 simpa using hk
theorem C2v{P:Program}{L:Sl}{os:List AO}{K:AV->List AO->Prop}{op:IK}(h:xOp P L os K op):A8 P (D1 L) os K op:=by
 cases op with
 |mv x=>exact E9 (K:=λv=>K v os) h
 |pick c a b=>
  have h1:=E9 h
  simp only[A8]
  split at h1
  ·rename_i t e
   rw[e]
   obtain⟨h2,h3⟩:=A0z.1 h1
   exact⟨λht=>E9 (K:=λv=>K v os) (h2 ht),λht=>E9 (K:=λv=>K v os) (h3 ht)⟩
  ·exact h1.elim
 |un op x=>
  have h1:=E9 h
  simp only[A8]
  split at h1
  ·rename_i d e;rw[e];exact D8s h1
  ·exact h1.elim
 |bin op x y=>exact D8o (E9 (E9 h))
 |eqb neg x y=>
  have h1:=E9 (E9 h)
  simp only[A8]
  split at h1
  ·rename_i a b e1 e2
   rw[e1,e2]
   cases neg<;>exact h1
  ·exact h1.elim
 |eqs neg ks x y=>
  have h1:=E9 (E9 h)
  simp only[A8]
  split at h1
  ·rename_i a b e1 e2
   rw[e1,e2]
   obtain⟨r,h2,h3⟩:=D4f h1
   simp only[h2]
   cases neg<;>exact h3
  ·exact h1.elim
 |eqnil neg x=>
  have h1:=E9 h
  simp only[A8]
  split at h1
  ·rename_i e;rw[e];exact h1
  ·rename_i es e;rw[e];exact h1
  ·rename_i id len e
   rw[e]
   obtain⟨ob,h2,h3⟩:=P6 h1
   cases ob with
   |arr es sz frz nl=>
    obtain⟨h4,h5⟩:=h3
    simp only[h2]
    refine⟨h4,?_⟩
    cases neg<;>exact h5
   |_=>exact h3.elim
  ·exact h1.elim
 |conv k x=>
  have h1:=E9 h
  simp only[A8]
  split at h1
  ·rename_i k n e;rw[e];exact h1.h
  ·exact h1.elim
 |cvs x=>
  have h1:=E9 h
  simp only[A8]
  split at h1
  ·rename_i s e;rw[e];exact h1
  ·exact h1.elim
 |faddr off x=>exact B2A (E9 h)
 |field off n agg x=>
  have h1:=E9 h
  simp only[A8]
  split at h1
  ·rename_i cs e
   rw[e]
   cases agg with
   |true=>exact A8B (K:=λl=>K (.agg l) os) h1
   |false=>
    obtain⟨c,h3,h4⟩:=A1g (K:=λc=>frc c λc=>K c os) h1
    exact⟨(A7.1 h3).1,by rw[A1h h3];exact A1P.1 h4⟩
  ·exact h1.elim
 |ixarr len sz x i=>
  have h1:=E9 (E9 h)
  simp only[A8]
  split at h1
  ·rename_i k n e
   rw[e]
   obtain⟨⟨h2,h3⟩,h4⟩:=h1
   exact⟨h2,h3,B2A h4⟩
  ·exact h1.elim
 |ixsl sz x i=>
  have h1:=E9 (E9 h)
  simp only[A8]
  split at h1
  ·rename_i k n e
   rw[e]
   simp only
   split at h1
   ·rename_i d e2
    rw[e2]
    obtain⟨⟨es,h2,⟨h3,h4⟩,h5,h6⟩⟩:=h1
    rcases h2 with ⟨rfl,rfl⟩|rfl
    ·simp at h4;omega
    ·exact⟨h3,h4,h5,h6⟩
   ·rename_i id len e2
    rw[e2]
    obtain⟨ob,h2,h3⟩:=P6 h1
    cases ob with
    |arr es sz' frz nl=>
     obtain⟨a1,a2,a3⟩:=h3
     obtain⟨a4,⟨a5,a6⟩,a7⟩:=Y6.1 a3
     simp only[h2]
     exact⟨a1,R0 a4,a5,a6,a2,a7⟩
    |_=>exact h3.elim
   ·rename_i id len e2
    rw[e2]
    obtain⟨ob,h2,h3⟩:=P6 h1
    cases ob with
    |rarr es sz' nl=>
     obtain⟨a1,a2,a3⟩:=h3
     obtain⟨a4,⟨a5,a6⟩,a7⟩:=Y6.1 a3
     simp only[h2]
     exact⟨a1,R0 a4,a5,a6,a2,a7⟩
    |_=>exact h3.elim
   ·exact h1.elim
  ·exact h1.elim
 |ixstr x i=>
  have h1:=E9 (E9 h)
  simp only[A8]
  split at h1
  ·rename_i s k n e1 e2
   rw[e1,e2]
   obtain⟨⟨h2,h3⟩,h4⟩:=h1
   exact⟨h2,h3,h4⟩
  ·exact h1.elim
 |ixval len sz agg x i=>
  have h1:=E9 (E9 h)
  simp only[A8]
  split at h1
  ·rename_i cs k n e1 e2
   rw[e1,e2]
   obtain⟨⟨h2,h3⟩,h4⟩:=h1
   refine⟨h2,h3,?_⟩
   cases agg with
   |true=>exact A8B (K:=λl=>K (.agg l) os) h4
   |false=>
    obtain⟨h5,h6⟩:=Y6.1 h4
    obtain⟨c,h7,h8⟩:=A1g h6
    exact⟨R0 h5,(A7.1 h7).1,by rw[A1h h7];exact A1P.1 h8⟩
  ·exact h1.elim
 |slstr x lo hi=>
  have h1:=E9 h
  simp only[A8]
  split at h1
  ·rename_i s e
   rw[e]
   have key:∀h,(A0R L lo 0 λl=>F1 (0<=l/\l<=h/\h<=s.length) (K (.d (.str ((s.drop l.toNat).take (h.toNat-l.toNat)))) os))->S2 (D1 L) lo 0 λl=>0<=l/\l<=h/\h<=s.length/\K (.d (.str ((s.drop l.toNat).take (h.toNat-l.toNat)))) os:=by
    intro h hh
    refine A1F (λl=>?_) (A24 hh)
    rintro⟨⟨a,b,c⟩,d⟩
    exact⟨a,b,c,d⟩
   exact A1F (λh hh=>key h hh) (A24 h1)
  ·exact h1.elim
 |slsl sz x lo hi=>
  have h1:=E9 h
  simp only[A8]
  obtain⟨d,os1,h2,h3⟩:=B1t h1
  simp only[slI,h2]
  split at h3
  ·rename_i es
   simp only
   refine A1F (λh hh=>?_) (A24 h3)
   refine A1F (λl=>?_) (A24 hh)
   rintro⟨⟨a,b,c⟩,d,e⟩
   exact⟨a,b,c,d,e⟩
  ·simp only
   refine A1F (λh hh=>?_) (A24 h3)
   refine A1F (λl=>?_) (A24 hh)
   rintro⟨⟨a,b⟩,c⟩
   exact⟨a,b,c⟩
  ·exact h3.elim
 |slsld sz x lo hi=>
  have h1:=E9 h
  simp only[A8]
  split at h1
  ·rename_i d e
   rw[e]
   split at h1
   ·simp only[A2w]
    refine A1F (λh hh=>?_) (A24 h1)
    refine A1F (λl=>?_) (A24 hh)
    rintro⟨⟨a,b,c⟩,d,e⟩
    exact⟨a,b,c,d,e⟩
   ·simp only[A2w]
    refine A1F (λh hh=>?_) (A24 h1)
    refine A1F (λl=>?_) (A24 hh)
    rintro⟨⟨a,b⟩,c⟩
    exact⟨a,b,c⟩
   ·exact h1.elim
  ·exact h1.elim
 |stop=>exact h.elim
 |mkb f x=>
  have h1:=E9 h
  simp only[A8]
  split at h1
  ·rename_i cs e
   rw[e]
   exact h1
  ·exact h1.elim
 |build zs parts=>exact A6g (K:=λcs=>K (.agg cs) os) (A0d.1 h)
 |bsl n sz zs parts=>
  have h1:=A6g (A0d.1 h)
  simp only[A8]
  refine A8q (λcs h1=>?_) h1
  obtain⟨xs,os1,h2,h3⟩:=A6k h1
  simp only[h2]
  rcases h3.h with h3|h3
  ·exact .inl (v8.1 (A1R (A67.1 h3)))
  ·obtain⟨h4,h5⟩:=h3
   exact .inr ⟨h4,(A67 (K:=λes=>K (.d (.sl es)) os)).1 h5⟩
 |bsld n sz zs parts=>
  have h1:=A6g (A0d.1 h)
  simp only[A8]
  refine A8q (λcs h1=>?_) h1
  obtain⟨xs,os1,h2,h3,h4⟩:=A6k h1
  simp only[h2]
  exact⟨h3,(A67 (K:=λes=>K (.d (.sl es)) os)).1 h4⟩
 |clo f caps=>
  cases caps with
  |nil=>exact h
  |cons c l=>
   obtain⟨ids,h1,h2⟩:=B8D (L:=L) (xs:=c::l) (K:=λids=>K (.clo f ids) os) h
   simp only[A8,h1]
   exact h2
 |ext i x=>
  have h1:=E9 h
  simp only[A8]
  split at h1
  ·rename_i vs e
   rw[e]
   obtain⟨c,h3,h4⟩:=A1g h1
   exact⟨(A7.1 h3).1,by rw[A1h h3];exact A1P.1 h4⟩
  ·exact h1.elim
 |lens x=>
  have h1:=E9 h
  simp only[A8]
  split at h1
  ·rename_i s e;rw[e];exact h1
  ·exact h1.elim
 |len x=>
  have h1:=E9 h
  simp only[A8]
  split at h1
  ·rename_i d e
   rw[e]
   obtain⟨⟨es,h2,h3⟩⟩:=h1
   rcases h2 with ⟨rfl,rfl⟩|rfl
   ·exact h3
   ·exact h3
  ·rename_i id len e
   rw[e]
   obtain⟨ob,h2,h3⟩:=P6 h1
   cases ob with
   |arr es sz frz nl=>simp only[h2];exact⟨h3.1,h3.2⟩
   |_=>exact h3.elim
  ·rename_i id len e
   rw[e]
   obtain⟨ob,h2,h3⟩:=P6 h1
   cases ob with
   |rarr es sz nl=>simp only[h2];exact⟨h3.1,h3.2⟩
   |_=>exact h3.elim
  ·exact h1.elim
 |lenk n=>exact h
 |minmax mx x xs=>
  have h1:=E9 h
  simp only[A8]
  split at h1
  ·rename_i k a e
   rw[e]
   exact B1L (A2E h1)
  ·exact h1.elim
 |load agg n x=>exact C2t (E9 h)
 |store n x v=>exact D8r (E9 (E9 h))
 |alloc zs=>
  obtain⟨h1,h2⟩:=A0z.1 h
  cases hb:Nat.ble zs.length 40 with
  |true=>exact v8.1 (A1R ((A0d (f:=AV.d)).1 (h1 hb)))
  |false=>exact v8.1 (A1R (h2 hb))
 |box n x=>
  obtain⟨xs,h1,h2⟩:=A8e (E9 h)
  obtain⟨h3,h4⟩:=Y6.1 h2
  simp only[A8,h1]
  exact⟨R0 h3,v8.1 (A1R h4)⟩
 |mksl sz bytes zs len cap=>
  have h1:=E9 (E9 h)
  simp only[A8]
  split at h1
  ·rename_i k l k' c e1 e2
   rw[e1,e2]
   obtain⟨⟨a,b,c,d⟩,h2⟩:=h1
   have:=v8.1 (A1R h2)
   rw[List.length_replicate] at this
   exact⟨a,b,c,d,this⟩
  ·exact h1.elim
 |app sz bytes s x=>
  have h1:=E9 (E9 h)
  simp only[A8]
  split at h1
  ·rename_i id2 len2 e
   rw[e]
   obtain⟨ob,h2,h3⟩:=P6 h1
   cases ob with
   |rarr ns sz2 nl=>
    obtain⟨h4,h5,h6,h7⟩:=h3
    subst h4
    simp only[h2]
    exact⟨h5,h6,D8l h7⟩
   |_=>exact h3.elim
  ·rename_i d e
   rw[e]
   exact C0K (λns hn=>C2o hn) (C2u h1)
  ·rename_i id len e
   rw[e]
   exact C0K (λns hn=>C2o hn) (C2u h1)
  ·exact h1.elim
 |call f args=>
  have hg:=E9 (A2E h)
  have frz:(A2r os (args.map (B8 (D1 L))) λas os1=>match B8 (D1 L) f with
    |.d (.fn g)=>Cn (as.any AV.ref) (A2H P g as os1 K) (A2M P g as os1 K)
    |.clo g caps=>j4 as (caps.map λid=>.ptr id 0) λas'=>A2H P g as' os1 K
    |.d (.lit v)=>A5T v as λg as'=>A2M P g as' os1 K
    |_=>False)->A8 P (D1 L) os K (.call f args):=by
   intro h
   obtain⟨as,os1,h1,h3⟩:=A8T h
   simp only[A8,h1]
   refine .inl ?_
   split at h3
   ·rename_i g e
    rw[e]
    simp only
    cases hr:as.any AV.ref with
    |true=>
     rw[hr] at h3
     simp only[if_true]
     exact h3.h
    |false=>
     rw[hr] at h3
     simp only[L8,if_false]
     exact h3.h
   ·rename_i g caps e
    rw[e]
    exact(v8.1 h3).h
   ·rename_i v e
    rw[e]
    obtain⟨g,ds,h4,h5,h6⟩:=D2G h3
    simp only[h4]
    exact⟨h5,h6.h⟩
   ·exact h3.elim
  obtain⟨h1,h2⟩:=A0z.1 hg
  cases ha:(args.map (B8 (D1 L))).any AV.isArr with
  |false=>exact frz (h2 ha)
  |true=>
   rcases(h1 ha).h with h3|h3
   ·exact frz h3
   ·simp only[A8]
    refine .inr ?_
    split at h3
    ·rename_i e
     rw[e]
     exact⟨h3.1,h3.2.h⟩
    ·exact h3.elim
 |calld f args=>
  have h2:=E9 (A2E h)
  simp only[A8]
  split at h2
  ·rename_i g e
   rw[e]
   obtain⟨h3,h4⟩:=A0z.1 h2
   cases hr:(List.map (B8 (D1 L)) args).any AV.ref with
   |true=>
    obtain⟨as,os1,h1,h3,⟨r,h4,h5⟩⟩:=A8T (h3 hr)
    refine .inr ?_
    simp only[h1]
    exact⟨h3,r,h4,h5⟩
   |false=>
    obtain⟨as,os1,h1,h3,⟨r,h4,h5⟩⟩:=A4J (h4 hr)
    refine .inl ?_
    simp only[h1]
    exact⟨h3,r,h4,h5⟩
  ·exact h2.elim
 |rstr x=>
  have h1:=E9 h
  simp only[A8]
  split at h1
  ·rename_i s e;rw[e];exact v8.1 (A1R h1)
  ·exact h1.elim
 |nstr x=>
  have h1:=E9 h
  simp only[A8]
  split at h1
  ·rename_i id e
   rw[e]
   obtain⟨ob,h2,h3⟩:=P6 h1
   cases ob with
   |iter s p=>
    simp only[h2]
    obtain⟨h4,h5⟩:=A0z.1 h3
    exact⟨λhp=>A0g.1 (h4 (decide_eq_true hp)),λhp=>h5 (decide_eq_false (by omega))⟩
   |_=>exact h3.elim
  ·exact h1.elim
 |callp f args=>
  have h2:=E9 (A2E h)
  simp only[A8]
  split at h2
  ·rename_i g e
   rw[e]
   obtain⟨as,os1,h1,h3,⟨r,h4,h5⟩⟩:=A4J h2
   simp only[h1]
   exact⟨h3,r,h4,h5⟩
  ·exact h2.elim
 |calln id f args=>
  have h2:=E9 (A2E h)
  simp only[A8]
  split at h2
  ·rename_i g e
   rw[e]
   obtain⟨as,os1,h1,h3,h4⟩:=A4J h2
   simp only[h1]
   obtain⟨ob,h5,h6⟩:=P6 h4
   cases ob with
   |hole=>
    obtain⟨es,sz,nl,h7,h8⟩:=h6
    exact⟨h3,h5,es,sz,nl,h7,A0g.1 h8⟩
   |_=>exact h6.elim
  ·exact h2.elim
 |bslr id n sz zs parts=>
  have h1:=A6g (A0d.1 h)
  simp only[A8]
  refine A8q (λcs h1=>?_) h1
  obtain⟨ob,h5,h6⟩:=P6 h1
  simp only[h5]
  cases ob with
  |hole=>exact A0g.1 ((A67 (K:=λes=>t6 os id (.rarr es sz false) λos'=>K (.rs id n) os')).1 h6)
  |_=>exact h6.elim
 |alloca id zs=>
  obtain⟨ob,h2,h3⟩:=P6 h
  simp only[A8,h2]
  cases ob with
  |hole=>exact A0g.1 (A0d.1 h3)
  |_=>exact h3.elim
 |boxa id n x=>
  obtain⟨xs,h1,h2⟩:=A8e (E9 h)
  obtain⟨h3,h4⟩:=Y6.1 h2
  obtain⟨ob,h5,h6⟩:=P6 h4
  simp only[A8,h1,h5]
  cases ob with
  |hole=>exact⟨R0 h3,A0g.1 h6⟩
  |_=>exact h6.elim
 |mkmap=>exact v8.1 (A1R h)
 |lkup sk ok g zs m k=>
  have h1:=E9 (E9 h)
  simp only[A8]
  split at h1
  ·rename_i id key e1 e2
   rw[e1,e2]
   obtain⟨ob,h2,h3⟩:=P6 h1
   simp only[h2]
   cases ob with
   |map kvs=>
    simp only
    obtain⟨⟨⟨h4,r,h5,h6⟩⟩|⟨⟨h4,r,h5,h6⟩⟩⟩:=h3
    ·exact⟨h4,.inl (by rw[h5];exact A1P.1 h6)⟩
    ·refine⟨h4,.inr ?_⟩
     split at h6
     ·obtain⟨ob,h7,h8⟩:=P6 h6
      split at h8
      ·exact⟨h5,_,_,h7,h8⟩
      ·exact h8.elim
     ·exact h6.elim
   |_=>exact h3.elim
  ·exact h1.elim
 |mupd sk m k v=>
  have h1:=E9 (E9 (E9 h))
  simp only[A8]
  split at h1
  ·rename_i id key e1 e2
   rw[e1,e2]
   obtain⟨ob,h2,h3⟩:=P6 h1
   simp only[h2]
   cases ob with
   |map kvs=>
    obtain⟨h4,⟨h5,h6⟩⟩:=Y6.1 h3
    exact⟨h5,h4,A0g.1 h6⟩
   |_=>exact h3.elim
  ·exact h1.elim
 |rmap x=>
  have h1:=E9 h
  simp only[A8]
  split at h1
  ·rename_i id e
   rw[e]
   obtain⟨ob,h2,h3⟩:=P6 h1
   simp only[h2]
   cases ob with
   |map kvs=>exact v8.1 (A1R h3)
   |_=>exact h3.elim
  ·exact h1.elim
 |nmap x=>
  have h1:=E9 h
  simp only[A8]
  split at h1
  ·rename_i id e
   rw[e]
   obtain⟨ob,h2,h3⟩:=P6 h1
   simp only[h2]
   cases ob with
   |mit m n seen=>
    obtain⟨ob,h4,h5⟩:=P6 h3
    simp only[h4]
    cases ob with
    |map kvs=>
     obtain⟨k0,k1,k2⟩:=h5
     exact⟨k0,λi p hi hp=>A0g.1 (k1 i p hi hp),k2⟩
    |_=>exact h5.elim
   |_=>exact h3.elim
  ·exact h1.elim
 |entry x=>
  have h1:=E9 h
  simp only[A8]
  split at h1
  ·rename_i id e
   rw[e]
   obtain⟨ob,h2,h3⟩:=P6 h1
   simp only[h2]
   cases ob with
   |mit m n seen=>
    obtain⟨ob,h4,h5⟩:=P6 h3
    simp only[h4]
    cases ob with
    |map kvs=>
     obtain⟨⟨k0,i,p,k1,k2,k3⟩⟩:=h5
     simp only[k1,k2]
     exact⟨k0,k3⟩
    |_=>exact h5.elim
   |_=>exact h3.elim
  ·exact h1.elim
 |nilck x=>exact B2A (E9 h)
end Go.Bi
