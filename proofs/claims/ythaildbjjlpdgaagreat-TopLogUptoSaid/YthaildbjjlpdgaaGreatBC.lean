/- The compiled form of the code, what it does to abstract states, and the translation from the model's code. No condition. -/
import Derived.Test.YthaildbjjlpdgaaGreatBB
set_option linter.unusedVariables false
namespace Go.Bi
set_option linter.unusedSectionVars false
variable [Globs]
inductive Opd where
 |t (n:Nat)
 |c (x:D)
 |g (cs:List D)
 deriving Inhabited
inductive SK where
 |i|b|s
 deriving Inhabited,DecidableEq
inductive XO where
 |eqp (neg:Bool)
 |s2b
 |b2s
 |cpy (sz:Nat)
 |sl3
 |apps (sz bytes:Nat)
 |appd (sz bytes:Nat)
 |mdel (sk:SK)
 |slu (l h:Bool)
 deriving Inhabited,DecidableEq
inductive IK where
 |mv (x:Opd)
 |pick (c a b:Opd)
 |un (op:UnOp) (x:Opd)
 |bin (op:BinOp) (x y:Opd)
 |eqb (neg:Bool) (x y:Opd)
 |eqs (neg:Bool) (ks:List SK) (x y:Opd)
 |eqnil (neg:Bool) (x:Opd)
 |conv (k:IntKind) (x:Opd)
 |cvs (x:Opd)
 |faddr (off:Nat) (x:Opd)
 |field (off n:Nat) (agg:Bool) (x:Opd)
 |ixarr (len sz:Nat) (x i:Opd)
 |ixsl (sz:Nat) (x i:Opd)
 |ixstr (x i:Opd)
 |ixval (len sz:Nat) (agg:Bool) (x i:Opd)
 |slstr (x:Opd) (lo hi:Option Opd)
 |slsl (sz:Nat) (x:Opd) (lo hi:Option Opd)
 |build (zs:List D) (parts:List (Nat×Nat×Opd))
 |bsl (n sz:Nat) (zs:List D) (parts:List (Nat×Nat×Opd))
 |bsld (n sz:Nat) (zs:List D) (parts:List (Nat×Nat×Opd))
 |clo (f:FuncId) (caps:List Opd)
 |ext (i:Nat) (x:Opd)
 |len (x:Opd)
 |lens (x:Opd)
 |lenk (n:Nat)
 |minmax (mx:Bool) (x:Opd) (xs:List Opd)
 |load (agg:Bool) (n:Nat) (x:Opd)
 |store (n:Nat) (x v:Opd)
 |alloc (zs:List D)
 |box (n:Nat) (x:Opd)
 |mksl (sz bytes:Nat) (zs:List D) (len cap:Opd)
 |app (sz bytes:Nat) (s x:Opd)
 |appn (id sz bytes:Nat) (s x:Opd)
 |call (f:Opd) (args:List Opd)
 |calld (f:Opd) (args:List Opd)
 |rstr (x:Opd)
 |nstr (x:Opd)
 |nilck (x:Opd)
 |alloca (id:Nat) (zs:List D)
 |callp (f:Opd) (args:List Opd)
 |boxa (id n:Nat) (x:Opd)
 |calln (id:Nat) (f:Opd) (args:List Opd)
 |callo (f:Opd) (args:List Opd)
 |bslr (id n sz:Nat) (zs:List D) (parts:List (Nat×Nat×Opd))
 |mkmap
 |lkup (sk:SK) (ok g:Bool) (zs:List D) (m k:Opd)
 |mupd (sk:SK) (m k v:Opd)
 |rmap (x:Opd)
 |nmap (x:Opd)
 |entry (x:Opd)
 |slsld (sz:Nat) (x:Opd) (lo hi:Option Opd)
 |stop
 |mkb (f:FuncId) (x:Opd)
 |ex (e:XO) (xs:List Opd)
 deriving Inhabited
structure IOp where
 dst:Option Nat
 guard:Option (Nat×Bool)
 op:IK
 deriving Inhabited
inductive IC where
 |skip
 |region (ops:List IOp)
 |dreg (h:Nat) (ps:List (Nat×Nat)) (ops:List IOp)
 |seq (a b:IC)
 |cond (c:Opd) (x y:IC)
 |block (id:Nat) (c:IC)
 |loop (c:IC)
 |exit (id:Nat)
 |ret
 deriving Inhabited
abbrev Rho:=Nat->AV
def upd(t:Nat)(v:AV)(ρ:Rho):Rho:=λs=>if s=t then v else ρ s
def updo(t:Option Nat)(v:AV)(ρ:Rho):Rho:=match t with|some t=>upd t v ρ|none=>ρ
def evO(ρ:Rho):Opd->AV
 |.t n=>ρ n
 |.c x=>.d x
 |.g cs=>.agg (cs.map .d)
def frzC(os:List AO):AV->Option (D×List AO)
 |.d x=>some (x,os)
 |.arr id len=>match os[id]? with
  |some (.arr es sz frz nl)=>if len=es.length then some (if nl then .nil else .sl es,os.set id (.arr es sz es.length nl)) else none
  |_=>none
 |.full es=>some (.sl es,os)
 |.sub id tot lo n=>match os[id]? with
  |some (.arr es sz frz nl)=>if tot=es.length then some (if nl then .nil else .sl ((es.drop lo).take n),os.set id (.arr es sz (max frz (lo+n)) nl)) else none
  |_=>none
 |_=>none
def frzCs(os:List AO):List AV->Option (List D×List AO)
 |[]=>some ([],os)
 |c::cs=>match frzC os c with
  |some (x,os1)=>match frzCs os1 cs with
   |some (xs,os2)=>some (x::xs,os2)
   |none=>none
  |none=>none
def frzG(os:List AO):AV->Option (AV×List AO)
 |.agg cs=>match frzCs os cs with
  |some (xs,os1)=>some (.agg (xs.map .d),os1)
  |none=>none
 |a=>match frzC os a with
  |some (x,os1)=>some (.d x,os1)
  |none=>none
def frzGs(os:List AO):List AV->Option (List AV×List AO)
 |[]=>some ([],os)
 |c::cs=>match frzG os c with
  |some (x,os1)=>match frzGs os1 cs with
   |some (xs,os2)=>some (x::xs,os2)
   |none=>none
  |none=>none
def frzA(os:List AO):AV->Option (AV×List AO)
 |.tup cs=>match frzGs os cs with
  |some (xs,os1)=>some (.tup xs,os1)
  |none=>none
 |a=>frzG os a
def AV.ref1:AV->Bool
 |.ptr ..=>true
 |.aptr ..=>true
 |.dptr ..=>true
 |.clo ..=>true
 |.bcl ..=>true
 |.iter ..=>true
 |.mp ..=>true
 |.mit ..=>true
 |.rs ..=>true
 |.rp ..=>true
 |_=>false
def AV.ref:AV->Bool
 |.agg cs=>cs.any AV.ref1
 |a=>a.ref1
def AV.isd:AV->Bool
 |.d _=>true
 |_=>false
def AV.isDB:AV->Bool
 |.d _=>true
 |.agg cs=>cs.all AV.isd
 |_=>false
def AV.isDF:AV->Bool
 |.full _=>true
 |a=>a.isDB
def AV.one:AV->Bool
 |.tup _=>false
 |.junk=>false
 |_=>true
def prepGs(os:List AO):List AV->Option (List AV×List AO)
 |[]=>some ([],os)
 |c::cs=>if c.ref then match prepGs os cs with
   |some (xs,os2)=>some (c::xs,os2)
   |none=>none
  else match frzG os c with
  |some (x,os1)=>match prepGs os1 cs with
   |some (xs,os2)=>some (x::xs,os2)
   |none=>none
  |none=>none
def shC(n:Nat):AV->AV
 |.ptr id off=>.ptr (id+n) off
 |.aptr id len i off=>.aptr (id+n) len i off
 |.arr id len=>.arr (id+n) len
 |.clo f caps=>.clo f (caps.map (·+n))
 |.bcl f id=>.bcl f (id+n)
 |.iter id=>.iter (id+n)
 |.mp id=>.mp (id+n)
 |.mit id=>.mit (id+n)
 |.rs id len=>.rs (id+n) len
 |.rp id len i off=>.rp (id+n) len i off
 |.sub id tot lo k=>.sub (id+n) tot lo k
 |a=>a
def shG(n:Nat):AV->AV
 |.agg cs=>.agg (cs.map (shC n))
 |a=>shC n a
def shA(n:Nat):AV->AV
 |.tup cs=>.tup (cs.map (shG n))
 |a=>shG n a
def shO(n:Nat):AO->AO
 |.cells cs=>.cells (cs.map (shC n))
 |.map kvs=>.map (kvs.map λp=>(p.1,shG n p.2))
 |.mit m k s=>.mit (m+n) k s
 |.rarr es sz nl=>.rarr (es.map λe=>e.map (shC n)) sz nl
 |o=>o
def Enters(P:Program)(f:FuncId):Prop:=∃fn,P.funcs[f]?=some fn/\fn.body.isSome=true/\fn.name≠ "runtime.NumGoroutine"
def CallSpec(P:Program)(f:FuncId)(args:List AV)(bs:List AO)(Q:AV->List AO->Prop):Prop:=
 Enters P f/\∀(M:Mem) (G:Gh) (w:World) (vs:Array Value),Env M G bs w->vs.size=args.length->(∀(j:Nat) a v,args[j]?=some a->vs[j]?=some v->VG M G bs a v)->
  Calls P f vs w λe w'=>∃v,e=.returned v/\∃M' G' r os',Env M' G' os' w'/\Since M G bs w M' G' os' w'/\VA M' G' os' r v/\Q r os'
def AV.cells:AV->Option (List AV)
 |.agg cs=>some cs
 |.tup _=>none
 |.junk=>none
 |a=>some [a]
def setR{α:Type}(cs:List α)(off:Nat)(ps:List α):List α:=cs.take off++ps++cs.drop (off+ps.length)
def fillA(ρ:Rho):List (Nat×Nat×Opd)->List AV->(List AV->Prop)->Prop
 |[],cs,K=>K cs
 |(off,n,x)::ps,cs,K=>match (evO ρ x).cells with
  |some xs=>xs.length=n/\off+n<=cs.length/\fillA ρ ps (setR cs off xs) K
  |none=>False
def chunks{α:Type}(sz:Nat):Nat->List α->List (List α)
 |0,_=>[]
 |n+1,l=>l.take sz::chunks sz n (l.drop sz)
def unD(op:UnOp)(x:D)(K:D->Prop):Prop:=
 match op,x with
 |.neg,.int k n=>K (.int k (k.wrap (0-n)))
 |.xor,.int k n=>K (.int k (k.wrap (BitVec.ofInt k.bits (if k.signed then -1 else k.max) ^^^ BitVec.ofInt k.bits n).toNat))
 |.not,.bool b=>K (.bool !b)
 |_,_=>False
def binI(op:BinOp)(k:IntKind)(a b:Int)(K:D->Prop):Prop:=
 match op with
 |.add=>K (.int k (k.wrap (a+b)))
 |.sub=>K (.int k (k.wrap (a-b)))
 |.mul=>K (.int k (k.wrap (a*b)))
 |.quo=>b≠0/\K (.int k (k.wrap (a.tdiv b)))
 |.rem=>b≠0/\K (.int k (a.tmod b))
 |.and=>K (.int k (k.wrap (BitVec.ofInt k.bits a &&& BitVec.ofInt k.bits b).toNat))
 |.or=>K (.int k (k.wrap (BitVec.ofInt k.bits a|||BitVec.ofInt k.bits b).toNat))
 |.xor=>K (.int k (k.wrap (BitVec.ofInt k.bits a ^^^ BitVec.ofInt k.bits b).toNat))
 |.andNot=>K (.int k (k.wrap (BitVec.ofInt k.bits a &&& ~~~ BitVec.ofInt k.bits b).toNat))
 |.eql=>K (.bool (a==b))
 |.neq=>K (.bool (a != b))
 |.lss=>K (.bool (a<b))
 |.leq=>K (.bool (a<=b))
 |.gtr=>K (.bool (a > b))
 |.geq=>K (.bool (a>=b))
 |_=>False
def binS(op:BinOp)(x y:List UInt8)(K:D->Prop):Prop:=
 match op with
 |.add=>x.length+y.length<=9223372036854775807/\K (.str (x++y))
 |.eql=>K (.bool (x==y))
 |.neq=>K (.bool !(x==y))
 |.lss=>K (.bool (Op.bytesLess x y))
 |.leq=>K (.bool (Op.bytesLess x y||x==y))
 |.gtr=>K (.bool !(Op.bytesLess x y||x==y))
 |.geq=>K (.bool !(Op.bytesLess x y))
 |_=>False
def binD(op:BinOp)(x y:AV)(K:D->Prop):Prop:=
 match x,y with
 |.d (.int k a),.d (.int k' b)=>match op with
  |.shl=>0<=b/\K (.int k (k.wrap (a*2 ^ (min b.toNat k.bits))))
  |.shr=>0<=b/\K (.int k (a.fdiv (2 ^ (min b.toNat k.bits))))
  |op=>k=k'/\binI op k a b K
 |.d (.str s),.d (.str t)=>binS op s t K
 |_,_=>False
def eqD:SK->D->D->Option Bool
 |.i,.int k a,.int k' b=>if k=k' then some (a==b) else none
 |.b,.bool a,.bool b=>some (a==b)
 |.s,.str a,.str b=>some (a==b)
 |_,_,_=>none
def eqL:List SK->List AV->List AV->Option Bool
 |[],[],[]=>some true
 |k::ks,.d x::xs,.d y::ys=>match eqD k x y,eqL ks xs ys with
  |some a,some b=>some (a&&b)
  |_,_=>none
 |_,_,_=>none
def loadI(os:List AO)(agg:Bool)(n:Nat)(x:AV)(K:AV->Prop):Prop:=
 match x with
 |.ptr id off=>match os[id]? with
  |some (.cells cs)=>if agg then off+n<=cs.length/\K (.agg ((cs.drop off).take n)) else off<cs.length/\K (cs.getD off .junk)
  |_=>False
 |.aptr id len i off=>match os[id]? with
  |some (.arr es sz frz nl)=>len=es.length/\i<es.length/\nl=false/\
   (if agg then off+n<=sz/\K (.agg ((((es.getD i []).drop off).take n).map .d)) else off<sz/\K (.d ((es.getD i []).getD off .nil)))
  |_=>False
 |.rp id len i off=>match os[id]? with
  |some (.rarr es sz nl)=>len=es.length/\i<es.length/\nl=false/\
   (if agg then off+n<=sz/\K (.agg (((es.getD i []).drop off).take n)) else off<sz/\K ((es.getD i []).getD off .junk))
  |_=>False
 |.dptr es i off=>i<es.length/\
   (if agg then off+n<=(es.getD i []).length/\K (.agg ((((es.getD i []).drop off).take n).map .d)) else off<(es.getD i []).length/\K (.d ((es.getD i []).getD off .nil)))
 |_=>False
def storeI(os:List AO)(n:Nat)(x v:AV)(K:List AO->Prop):Prop:=
 match v.cells with
 |none=>False
 |some vc=>match x with
 |.ptr id off=>match os[id]? with
  |some (.cells cs)=>vc.length=n/\off+n<=cs.length/\K (os.set id (.cells (setR cs off vc)))
  |_=>False
 |.aptr id len i off=>match frzCs os vc with
  |some (xs,os1)=>match os1[id]? with
   |some (.arr es sz frz nl)=>len=es.length/\frz<=i/\i<es.length/\nl=false/\xs.length=n/\off+n<=sz/\K (os1.set id (.arr (es.set i (setR (es.getD i []) off xs)) sz frz nl))
   |_=>False
  |none=>False
 |_=>False
def bndI(ρ:Rho)(x:Option Opd)(dflt:Nat)(K:Int->Prop):Prop:=
 match x with
 |none=>K dflt
 |some x=>match evO ρ x with
  |.d (.int _ n)=>K n
  |_=>False
def slI(ρ:Rho)(os:List AO)(sz:Nat)(x:AV)(lo hi:Option Opd)(K:AV->List AO->Prop):Prop:=
 match frzC os x with
 |some (.sl es,os1)=>bndI ρ hi es.length λh=>bndI ρ lo 0 λl=>
   0<=l/\l<=h/\h<=es.length/\(∀e∈es,e.length=sz)/\K (.d (.sl ((es.drop l.toNat).take (h.toNat-l.toNat)))) os1
 |some (.nil,os1)=>bndI ρ hi 0 λh=>bndI ρ lo 0 λl=>l=0/\h=0/\K (.d .nil) os1
 |_=>False
def slDI(ρ:Rho)(sz:Nat)(x:AV)(lo hi:Option Opd)(K:AV->Prop):Prop:=
 match x with
 |.d (.sl es)=>bndI ρ hi es.length λh=>bndI ρ lo 0 λl=>
   0<=l/\l<=h/\h<=es.length/\(∀e∈es,e.length=sz)/\K (.d (.sl ((es.drop l.toNat).take (h.toNat-l.toNat))))
 |.d .nil=>bndI ρ hi 0 λh=>bndI ρ lo 0 λl=>l=0/\h=0/\K (.d .nil)
 |_=>False
theorem slDI_sl{ρ:Rho}{os:List AO}{sz:Nat}{x:AV}{lo hi:Option Opd}{K:AV->List AO->Prop}(h:slDI ρ sz x lo hi λr=>K r os):slI ρ os sz x lo hi K:=by
 unfold slDI at h
 split at h
 ·exact h
 ·exact h
 ·exact h.elim
def simV:AV->Option Value
 |.d (.int k n)=>some (.int k n)
 |.d (.bool b)=>some (.bool b)
 |.d (.str s)=>some (.string ⟨⟨s⟩⟩)
 |_=>none
def simVs:List AV->Option (List Value)
 |[]=>some []
 |c::cs=>match simV c,simVs cs with
  |some v,some vs=>some (v::vs)
  |_,_=>none
def unS:Value->Option D
 |.int k n=>some (.int k n)
 |.bool b=>some (.bool b)
 |.string ⟨⟨s⟩⟩=>some (.str s)
 |_=>none
def unSs:List Value->Option (List D)
 |[]=>some []
 |v::vs=>match unS v,unSs vs with
  |some d,some ds=>some (d::ds)
  |_,_=>none
def bndF:Value->Option (FuncId×List D)
 |.func (.func g) ⟨[.agg ⟨vs⟩]⟩ ⟨[]⟩=>match unSs vs with
  |some ds=>some (g,ds)
  |none=>none
 |_=>none
theorem unS_rd{M:Mem}{v:Value}{d:D}(h:unS v=some d):Rd M d v:=by
 unfold unS at h
 split at h
 ·cases h;exact .int ..
 ·cases h;exact .bool ..
 ·cases h;exact .str ..
 ·cases h
theorem unSs_rd{M:Mem}:∀{vs:List Value} {ds:List D},unSs vs=some ds->ds.length=vs.length/\∀(j:Nat) d v,ds[j]?=some d->vs[j]?=some v->Rd M d v
 |[],ds,h=>by cases h;exact⟨rfl,λj d v hd=>by simp at hd⟩
 |v::vs,ds,h=>by
  unfold unSs at h
  split at h
  ·rename_i d ds' h1 h2
   cases h
   obtain⟨h3,h4⟩:=unSs_rd h2
   refine⟨by simp[h3],λj d v hd hv=>?_⟩
   cases j with
   |zero=>simp at hd hv;subst hd;subst hv;exact unS_rd h1
   |succ j=>exact h4 j d v (by simpa using hd) (by simpa using hv)
  ·cases h
theorem bndF_inv{v:Value}{g:FuncId}{ds:List D}(h:bndF v=some (g,ds)):∃vs:List Value,v=.func (.func g) #[.agg ⟨vs⟩] #[]/\unSs vs=some ds:=by
 unfold bndF at h
 split at h
 ·rename_i g' vs
  split at h
  ·rename_i ds' h1
   cases h
   exact⟨vs,rfl,h1⟩
  ·cases h
 ·cases h
def dsOf:List AV->Option (List D)
 |[]=>some []
 |c::l=>match c with
  |.d x=>match dsOf l with
   |some r=>some (x::r)
   |none=>none
  |_=>none
theorem dsOf_ok:∀{cs:List AV} {ds:List D},dsOf cs=some ds->cs=ds.map .d
 |[],ds,h=>by cases h;rfl
 |c::l,ds,h=>by
  unfold dsOf at h
  cases c with
  |d x=>
   simp only at h
   split at h
   ·rename_i r hr
    cases h
    rw[dsOf_ok hr];rfl
   ·cases h
  |_=>cases h
def litV(n id:Nat)(cs:List AV):AV:=match dsOf cs with
 |some _=>.arr id n
 |none=>.rs id n
def litO(n sz:Nat)(cs:List AV):AO:=match dsOf cs with
 |some ds=>.arr (chunks sz n ds) sz 0 false
 |none=>.rarr (chunks sz n cs) sz false
def appI(os:List AO)(sz bytes:Nat)(s:AV)(ns:List (List D))(K:AV->List AO->Prop):Prop:=
 match s with
 |.d .nil=>ns.length*bytes<=140737488355328/\ns.length<=9223372036854775807/\(∀e∈ns,e.length=sz)/\K (.arr os.length ns.length) (os++[.arr ns sz 0 ns.isEmpty])
 |.arr id len=>match os[id]? with
  |some (.arr es sz' frz nl)=>len=es.length/\sz'=sz/\(es.length+ns.length)*bytes<=140737488355328/\es.length+ns.length<=9223372036854775807/\
    (∀e∈ns,e.length=sz)/\K (.arr id (es.length+ns.length)) (os.set id (.arr (es++ns) sz frz (nl&&ns.isEmpty)))
  |_=>False
 |_=>False
def appXI(os:List AO)(sz bytes:Nat)(s:AV)(ns:List (List D))(K:AV->List AO->Prop):Prop:=
 match s with
 |.full es=>(∀e∈ns,e.length=sz)/\(∀e∈es,e.length=sz)/\(es.length+ns.length)*bytes<=140737488355328/\es.length+ns.length<=9223372036854775807/\ns≠[]/\K (.arr os.length (es.length+ns.length)) (os++[.arr (es++ns) sz 0 false])
 |.d (.lit (.slice none 0 0))=>appI os sz bytes (.d .nil) ns K
 |_=>appI os sz bytes s ns K
def appNI(os:List AO)(id sz bytes:Nat)(s:AV)(ns:List (List D))(K:AV->List AO->Prop):Prop:=
 match s with
 |.full es=>os[id]?=some .hole/\(∀e∈ns,e.length=sz)/\(∀e∈es,e.length=sz)/\(es.length+ns.length)*bytes<=140737488355328/\es.length+ns.length<=9223372036854775807/\ns≠[]/\K (.arr id (es.length+ns.length)) (os.set id (.arr (es++ns) sz 0 false))
 |.d (.lit (.slice none 0 0))=>os[id]?=some .hole/\(∀e∈ns,e.length=sz)/\ns.length*bytes<=140737488355328/\ns.length<=9223372036854775807/\ns≠[]/\K (.arr id ns.length) (os.set id (.arr ns sz 0 false))
 |.d .nil=>os[id]?=some .hole/\(∀e∈ns,e.length=sz)/\ns.length*bytes<=140737488355328/\ns.length<=9223372036854775807/\ns≠[]/\K (.arr id ns.length) (os.set id (.arr ns sz 0 false))
 |.arr ..=>appI os sz bytes s ns K
 |_=>False
def appDI(os:List AO)(sz bytes:Nat)(s:AV)(ns:List (List D))(K:AV->Prop):Prop:=
 match s with
 |.full es=>(∀e∈ns,e.length=sz)/\(∀e∈es,e.length=sz)/\(es.length+ns.length)*bytes<=140737488355328/\es.length+ns.length<=9223372036854775807/\K (.d (.sl (es++ns)))
 |.d (.lit (.slice none 0 0))=>(∀e∈ns,e.length=sz)/\ns.length*bytes<=140737488355328/\ns.length<=9223372036854775807/\K (.d (if ns.isEmpty then .nil else .sl ns))
 |_=>False
def apprI(os:List AO)(sz bytes:Nat)(s:AV)(ns:List (List AV))(K:AV->List AO->Prop):Prop:=
 match s with
 |.rs id len=>match os[id]? with
  |some (.rarr es sz' nl)=>len=es.length/\sz'=sz/\(es.length+ns.length)*bytes<=140737488355328/\es.length+ns.length<=9223372036854775807/\
    (∀e∈ns,e.length=sz)/\K (.rs id (es.length+ns.length)) (os.set id (.rarr (es++ns) sz (nl&&ns.isEmpty)))
  |_=>False
 |_=>False
def byteL(s:List UInt8):List (List D):=s.map λc=>[.int .u8 c.toNat]
def unB1:List D->Option UInt8
 |[.int .u8 n]=>some (UInt8.ofNat n.toNat)
 |_=>none
def unbyte:List (List D)->Option (List UInt8)
 |[]=>some []
 |e::l=>match unB1 e,unbyte l with
  |some c,some s=>some (c::s)
  |_,_=>none
def newsI(os:List AO)(x:AV)(K:List (List D)->Prop):Prop:=
 match x with
 |.d .nil=>K []
 |.d (.sl es)=>K es
 |.full es=>K es
 |.arr id len=>match os[id]? with
  |some (.arr es sz frz nl)=>len=es.length/\K es
  |_=>False
 |_=>False
def minmaxI(mx:Bool)(k:IntKind)(a:Int):List AV->(AV->Prop)->Prop
 |[],K=>K (.d (.int k a))
 |.d (.int k' b)::xs,K=>if mx then (b<=a->minmaxI mx k a xs K)/\(a<b->minmaxI mx k b xs K) else (a<=b->minmaxI mx k a xs K)/\(b<a->minmaxI mx k b xs K)
 |_,_=>False
def shI(os:List AO)(d:Nat)(x:AV)(K:AV->Prop):Prop:=
 match x with
 |.ptr id o=>K (.ptr id (o+d))
 |.aptr id l i o=>match os[id]? with
  |some (.arr es _ _ _)=>l=es.length/\K (.aptr id l i (o+d))
  |_=>False
 |.dptr es i o=>K (.dptr es i (o+d))
 |_=>False
def mget(sk:SK)(key:D):List (D×AV)->Option AV
 |[]=>none
 |p::ps=>if eqD sk key p.1=some true then some p.2 else mget sk key ps
def mput(sk:SK)(key:D)(v:AV):List (D×AV)->List (D×AV)
 |[]=>[(key,v)]
 |p::ps=>if eqD sk key p.1=some true then (key,v)::ps else p::mput sk key v ps
def mok(sk:SK)(key:D)(kvs:List (D×AV)):Prop:=(∀p∈kvs,eqD sk key p.1≠none)/\eqD sk key key≠none
def zv(g:Bool)(zs:List D):AV:=if g then .agg (zs.map .d) else match zs with
 |[x]=>.d x
 |_=>.junk
def lkR(ok:Bool)(z:AV):Option AV->AV
 |some v=>if ok then .tup [v,.d (.bool true)] else v
 |none=>if ok then .tup [z,.d (.bool false)] else z
def lkK(os:List AO)(id:Nat)(r:AV)(K:AV->Prop):Prop:=K r\/(r=.d .nil/\∃sz frz,os[id+1]?=some (.arr [] sz frz true)/\K (.arr (id+1) 0))
def mdelL(sk:SK)(key:D):List (D×AV)->List (D×AV)
 |[]=>[]
 |p::ps=>if eqD sk key p.1=some true then ps else p::mdelL sk key ps
def partI(os:List AO)(x:AV)(K:(id lo n:Nat)->List (List D)->(sz frz:Nat)->Bool->Prop):Prop:=
 match x with
 |.arr id len=>match os[id]? with
  |some (.arr es sz frz nl)=>len=es.length/\K id 0 len es sz frz nl
  |_=>False
 |.sub id tot lo n=>match os[id]? with
  |some (.arr es sz frz nl)=>tot=es.length/\K id lo n es sz frz nl
  |_=>False
 |_=>False
def bndV(b:Bool)(dflt:Int)(vs:List AV)(K:Int->List AV->Prop):Prop:=
 if b then (match vs with
  |.d (.int _ n)::r=>K n r
  |_=>False) else K dflt vs
def sluI(os:List AO)(l h:Bool)(x:AV)(vs:List AV)(K:AV->Prop):Prop:=
 match x with
 |.d .nil=>bndV l 0 vs λlo vs=>bndV h 0 vs λhi _=>lo=0/\hi=0/\K (.d .nil)
 |.d (.sl es)=>bndV l 0 vs λlo vs=>bndV h es.length vs λhi _=>0<=lo/\lo<=hi/\hi<=es.length/\(∀e∈es,e.length=1)/\K (.d (.sl ((es.drop lo.toNat).take (hi.toNat-lo.toNat))))
 |.arr id len=>partI os x λid0 lo0 n es sz frz nl=>bndV l 0 vs λlo vs=>bndV h n vs λhi _=>0<=lo/\lo<=hi/\hi<=n/\sz=1/\K (.sub id len lo.toNat (hi.toNat-lo.toNat))
 |.sub id tot l1 n1=>partI os x λid0 lo0 n es sz frz nl=>bndV l 0 vs λlo vs=>bndV h n vs λhi _=>0<=lo/\lo<=hi/\hi<=n/\sz=1/\K (.sub id tot (l1+lo.toNat) (hi.toNat-lo.toNat))
 |_=>False
def exI(os:List AO)(K:AV->List AO->Prop):XO->List AV->Prop
 |.eqp neg,[.ptr _ _]=>K (.d (.bool neg)) os
 |.s2b,[.d (.str s)]=>K (.d (.sl (byteL s))) os
 |.b2s,[x]=>newsI os x λns=>match unbyte ns with
  |some s=>K (.d (.str s)) os
  |none=>False
 |.cpy sz,[dst,src]=>newsI os src λns=>partI os dst λid lo n es sz' frz nl=>sz'=sz/\(∀e∈ns,e.length=sz)/\(ns.length=0\/frz<=lo)/\K (.d (.int .i64 (min ns.length n:Nat))) (os.set id (.arr (es.take lo++ns.take n++es.drop (lo+min ns.length n)) sz frz nl))
 |.sl3,[.d .nil,.d (.int _ h),.d (.int _ m)]=>h=0/\m=0/\K (.d (.lit (.slice none 0 0))) os
 |.sl3,[.d (.sl es),.d (.int _ h),.d (.int _ m)]=>h=es.length/\m=es.length/\K (.full es) os
 |.apps sz bytes,[s,.d (.str t)]=>appI os sz bytes s (byteL t) K
 |.appd sz bytes,[s,x]=>newsI os x λns=>appDI os sz bytes s ns λr=>K r os
 |.mdel sk,[.mp id,.d key]=>match os[id]? with
  |some (.map kvs)=>mok sk key kvs/\K .junk (os.set id (.map (mdelL sk key kvs)))
  |_=>False
 |.slu l h,x::vs=>sluI os l h x vs λr=>K r os
 |_,_=>False
def XO.wr:XO->Bool
 |.cpy _=>true
 |.mdel _=>true
 |.apps ..=>true
 |_=>false
def XO.rd:XO->Bool
 |.eqp _=>false
 |.s2b=>false
 |.sl3=>false
 |_=>true
def capId:AV->Option Nat
 |.ptr id 0=>some id
 |_=>none
def opI(P:Program)(ρ:Rho)(os:List AO)(K:AV->List AO->Prop):IK->Prop
 |.mv x=>K (evO ρ x) os
 |.pick c a b=>match evO ρ c with
  |.d (.bool t)=>(t=true->K (evO ρ a) os)/\(t=false->K (evO ρ b) os)
  |_=>False
 |.un op x=>match evO ρ x with
  |.d x=>unD op x λr=>K (.d r) os
  |_=>False
 |.bin op x y=>binD op (evO ρ x) (evO ρ y) λr=>K (.d r) os
 |.eqb neg x y=>match evO ρ x,evO ρ y with
  |.d (.bool a),.d (.bool b)=>K (.d (.bool (if neg then !(a==b) else a==b))) os
  |_,_=>False
 |.eqs neg ks x y=>match evO ρ x,evO ρ y with
  |.agg cs,.agg ds=>match eqL ks cs ds with
   |some b=>K (.d (.bool (if neg then !b else b))) os
   |none=>False
  |_,_=>False
 |.eqnil neg x=>match evO ρ x with
  |.d .nil=>K (.d (.bool (!neg))) os
  |.d (.sl _)=>K (.d (.bool neg)) os
  |.arr id len=>match os[id]? with
   |some (.arr es sz frz nl)=>len=es.length/\K (.d (.bool (if neg then !nl else nl))) os
   |_=>False
  |_=>False
 |.conv k x=>match evO ρ x with
  |.d (.int _ n)=>K (.d (.int k (k.wrap n))) os
  |_=>False
 |.cvs x=>match evO ρ x with
  |.d (.str s)=>K (.d (.str s)) os
  |_=>False
 |.faddr off x=>shI os off (evO ρ x) λr=>K r os
 |.field off n agg x=>match evO ρ x with
  |.agg cs=>if agg then off+n<=cs.length/\K (.agg ((cs.drop off).take n)) os else off<cs.length/\K (cs.getD off .junk) os
  |_=>False
 |.ixarr len sz x i=>match evO ρ i with
  |.d (.int _ n)=>0<=n/\n<len/\shI os (n.toNat*sz) (evO ρ x) λr=>K r os
  |_=>False
 |.ixsl sz x i=>match evO ρ i with
  |.d (.int _ n)=>(match evO ρ x with
   |.d (.sl es)=>0<=n/\n<es.length/\(∀e∈es,e.length=sz)/\K (.dptr es n.toNat 0) os
   |.arr id len=>(match os[id]? with
    |some (.arr es sz' frz nl)=>len=es.length/\sz'=sz/\0<=n/\n<es.length/\nl=false/\K (.aptr id len n.toNat 0) os
    |_=>False)
   |.rs id len=>(match os[id]? with
    |some (.rarr es sz' nl)=>len=es.length/\sz'=sz/\0<=n/\n<es.length/\nl=false/\K (.rp id len n.toNat 0) os
    |_=>False)
   |.sub id tot lo k=>(match os[id]? with
    |some (.arr es sz' frz nl)=>tot=es.length/\sz'=sz/\0<=n/\n<k/\nl=false/\K (.aptr id tot (lo+n.toNat) 0) os
    |_=>False)
   |_=>False)
  |_=>False
 |.ixstr x i=>match evO ρ x,evO ρ i with
  |.d (.str s),.d (.int _ n)=>0<=n/\n<s.length/\K (.d (.int .u8 (s.getD n.toNat 0).toNat)) os
  |_,_=>False
 |.ixval len sz agg x i=>match evO ρ x,evO ρ i with
  |.agg cs,.d (.int _ n)=>0<=n/\n<len/\(if agg then n.toNat*sz+sz<=cs.length/\K (.agg ((cs.drop (n.toNat*sz)).take sz)) os else sz=1/\n.toNat<cs.length/\K (cs.getD n.toNat .junk) os)
  |_,_=>False
 |.slstr x lo hi=>match evO ρ x with
  |.d (.str s)=>bndI ρ hi s.length λh=>bndI ρ lo 0 λl=>0<=l/\l<=h/\h<=s.length/\K (.d (.str ((s.drop l.toNat).take (h.toNat-l.toNat)))) os
  |_=>False
 |.slsl sz x lo hi=>slI ρ os sz (evO ρ x) lo hi K
 |.slsld sz x lo hi=>slDI ρ sz (evO ρ x) lo hi λr=>K r os
 |.stop=>False
 |.ex e xs=>exI os K e (xs.map (evO ρ))
 |.mkb f x=>match evO ρ x with
  |.agg cs=>match simVs cs with
   |some vs=>K (.d (.lit (.func (.func f) ⟨[.agg ⟨vs⟩]⟩ ⟨[]⟩))) os
   |none=>False
  |.ptr id 0=>K (.bcl f id) os
  |_=>False
 |.build zs parts=>fillA ρ parts (zs.map .d) λcs=>K (.agg cs) os
 |.bsl n sz zs parts=>fillA ρ parts (((List.replicate n zs).flatten).map .d) λcs=>match frzCs os cs with
  |some (xs,os1)=>K (.arr os1.length n) (os1++[.arr (chunks sz n xs) sz 0 false])\/(os1=os/\K (.d (.sl (chunks sz n xs))) os)
  |none=>False
 |.bsld n sz zs parts=>fillA ρ parts (((List.replicate n zs).flatten).map .d) λcs=>match frzCs os cs with
  |some (xs,os1)=>os1=os/\K (.d (.sl (chunks sz n xs))) os
  |none=>False
 |.clo f caps=>match caps with
  |[]=>K (.d (.fn f)) os
  |_=>match caps.mapM (λc=>capId (evO ρ c)) with
   |some ids=>K (.clo f ids) os
   |none=>False
 |.ext i x=>match evO ρ x with
  |.tup vs=>i<vs.length/\K (vs.getD i .junk) os
  |_=>False
 |.lens x=>match evO ρ x with
  |.d (.str s)=>K (.d (.int .i64 s.length)) os
  |_=>False
 |.len x=>match evO ρ x with
  |.d .nil=>K (.d (.int .i64 0)) os
  |.d (.sl es)=>K (.d (.int .i64 es.length)) os
  |.arr id len=>match os[id]? with
   |some (.arr es sz frz nl)=>len=es.length/\K (.d (.int .i64 es.length)) os
   |_=>False
  |.rs id len=>match os[id]? with
   |some (.rarr es sz nl)=>len=es.length/\K (.d (.int .i64 es.length)) os
   |_=>False
  |.sub id tot lo k=>match os[id]? with
   |some (.arr es sz frz nl)=>tot=es.length/\nl=false/\K (.d (.int .i64 k)) os
   |_=>False
  |.full es=>K (.d (.int .i64 es.length)) os
  |_=>False
 |.lenk n=>K (.d (.int .i64 n)) os
 |.minmax mx x xs=>match evO ρ x with
  |.d (.int k a)=>minmaxI mx k a (xs.map (evO ρ)) λr=>K r os
  |_=>False
 |.load agg n x=>loadI os agg n (evO ρ x) λr=>K r os
 |.store n x v=>storeI os n (evO ρ x) (evO ρ v) λos'=>K .junk os'
 |.alloc zs=>K (.ptr os.length 0) (os++[.cells (zs.map .d)])
 |.box n x=>match (evO ρ x).cells with
  |some xs=>xs.length=n/\K (.ptr os.length 0) (os++[.cells xs])
  |none=>False
 |.mksl sz bytes zs len cap=>match evO ρ len,evO ρ cap with
  |.d (.int _ l),.d (.int _ c)=>0<=l/\l<=c/\c*bytes<=140737488355328/\c<=9223372036854775807/\K (.arr os.length l.toNat) (os++[.arr (List.replicate l.toNat zs) sz 0 false])
  |_,_=>False
 |.app sz bytes s x=>match evO ρ x with
  |.rs id2 len2=>match os[id2]? with
   |some (.rarr ns sz2 false)=>len2=ns.length/\0<ns.length/\apprI os sz bytes (evO ρ s) ns K
   |_=>False
  |_=>newsI os (evO ρ x) λns=>appXI os sz bytes (evO ρ s) ns K
 |.appn id sz bytes s x=>newsI os (evO ρ x) λns=>appNI os id sz bytes (evO ρ s) ns K
 |.call f args=>(match prepGs os (args.map (evO ρ)) with
  |some (as,os1)=>match evO ρ f with
   |.d (.fn g)=>if as.any AV.ref then CallSpec P g as os1 K else CallSpec P g as [] λr os2=>K (shA os1.length r) (os1++os2.map (shO os1.length))
   |.clo g caps=>CallSpec P g (as++caps.map λid=>.ptr id 0) os1 K
   |.bcl g id=>CallSpec P g (.ptr id 0::as) os1 K
   |.d (.lit v)=>match bndF v with
    |some (g,ds)=>as.any AV.ref=false/\CallSpec P g (.agg (ds.map .d)::as) [] λr os2=>K (shA os1.length r) (os1++os2.map (shO os1.length))
    |none=>False
   |_=>False
  |none=>False)\/(match evO ρ f with
   |.d (.fn g)=>(args.map (evO ρ)).all AV.one=true/\CallSpec P g (args.map (evO ρ)) os K
   |_=>False)
 |.calld f args=>match evO ρ f with
  |.d (.fn g)=>(match frzGs os (args.map (evO ρ)) with
   |some (as,os1)=>os1=os/\∃r,CallSpec P g as [] (λr' os2=>r'=r/\os2=[])/\K r os
   |none=>False)\/(match prepGs os (args.map (evO ρ)) with
   |some (as,os1)=>os1=os/\∃r,CallSpec P g as os (λr' os2=>r'=r/\os2=os)/\K r os
   |none=>False)
  |.bcl g id=>match prepGs os (args.map (evO ρ)) with
   |some (as,os1)=>os1=os/\∃r,CallSpec P g (.ptr id 0::as) os (λr' os2=>r'=r/\os2=os)/\K r os
   |none=>False
  |_=>False
 |.nilck x=>shI os 0 (evO ρ x) λr=>K r os
 |.callp f args=>match evO ρ f with
  |.d (.fn g)=>(match frzGs os (args.map (evO ρ)) with
   |some (as,os1)=>os1=os/\∃r,CallSpec P g as [] (λr' os2=>r'=r/\os2=[])/\K r os
   |none=>False)\/(match args.map (evO ρ) with
   |.ptr id off::as=>match os[id]? with
    |some ob=>as.all AV.isDB=true/\∃r ob',(∀os2:List AO,os2[id]?=some ob->CallSpec P g (.ptr id off::as) os2 (λr' os3=>r'=r/\os3=os2.set id ob'))/\K r (os.set id ob')
    |none=>False
   |_=>False)
  |_=>False
 |.callo f args=>match evO ρ f with
  |.d (.fn g)=>match args.map (evO ρ) with
   |.arr id len::as=>match os[id]? with
    |some (.arr es sz frz nl)=>as.all AV.isDB=true/\∃es' nl',(∀os2:List AO,os2[id]?=some (.arr es sz frz nl)->CallSpec P g (.arr id len::as) os2 λr os3=>r=.arr id es'.length/\os3=os2.set id (.arr es' sz frz nl'))/\K (.arr id es'.length) (os.set id (.arr es' sz frz nl'))
    |_=>False
   |as=>match frzGs os as with
    |some (as,os1)=>os1=os/\∃r,CallSpec P g as [] (λr' os2=>r'=r/\os2=[])/\K r os
    |none=>False
  |_=>False
 |.alloca id zs=>match os[id]? with
  |some .hole=>K (.ptr id 0) (os.set id (.cells (zs.map .d)))
  |_=>False
 |.boxa id n x=>match os[id]?,(evO ρ x).cells with
  |some .hole,some xs=>xs.length=n/\K (.ptr id 0) (os.set id (.cells xs))
  |_,_=>False
 |.calln id f args=>match evO ρ f with
  |.d (.fn g)=>match args.map (evO ρ) with
   |.arr id0 len::as=>match os[id0]? with
    |some (.arr es sz frz nl)=>as.all AV.isDB=true/\∃es' nl',(∀os2:List AO,os2[id0]?=some (.arr es sz frz nl)->CallSpec P g (.arr id0 len::as) os2 λr os3=>r=.arr id0 es'.length/\os3=os2.set id0 (.arr es' sz frz nl'))/\K (.arr id0 es'.length) (os.set id0 (.arr es' sz frz nl'))
    |_=>False
   |as=>as.all AV.isDF=true/\os[id]?=some .hole/\((∃es sz nl,CallSpec P g as [] (λr os2=>r=.arr 0 es.length/\os2=[.arr es sz 0 nl])/\K (.arr id es.length) (os.set id (.arr es sz 0 nl)))\/∃r,CallSpec P g as [] (λr' os2=>r'=r/\os2=[])/\K r (os.set id .hole))
  |_=>False
 |.bslr id n sz zs parts=>fillA ρ parts (((List.replicate n zs).flatten).map .d) λcs=>match os[id]? with
  |some .hole=>K (litV n id cs) (os.set id (litO n sz cs))
  |_=>False
 |.mkmap=>K (.mp os.length) (os++[.map []])
 |.lkup sk ok g zs m k=>match evO ρ m,evO ρ k with
  |.mp id,.d key=>match os[id]? with
   |some (.map kvs)=>mok sk key kvs/\lkK os id (lkR ok (zv g zs) (mget sk key kvs)) λr=>K r os
   |_=>False
  |_,_=>False
 |.mupd sk m k v=>match evO ρ m,evO ρ k with
  |.mp id,.d key=>match os[id]? with
   |some (.map kvs)=>mok sk key kvs/\(evO ρ v).one=true/\K .junk (os.set id (.map (mput sk key (evO ρ v) kvs)))
   |_=>False
  |_,_=>False
 |.rmap _=>False
 |.nmap _=>False
 |.entry _=>False
 |.rstr x=>match evO ρ x with
  |.d (.str s)=>K (.iter os.length) (os++[.iter s 0])
  |_=>False
 |.nstr x=>match evO ρ x with
  |.iter id=>match os[id]? with
   |some (.iter s p)=>
    (p<s.length->K (.tup [.d (.bool true),.d (.int .i64 p),.d (.int .i32 (Utf8.decode ⟨⟨s⟩⟩ p).1)]) (os.set id (.iter s (p+(Utf8.decode ⟨⟨s⟩⟩ p).2))))/\
    (s.length<=p->K (.tup [.d (.bool false)]) os)
   |_=>False
  |_=>False
def gI(ρ:Rho)(g:Option (Nat×Bool))(yes no:Prop):Prop:=
 match g with
 |none=>yes
 |some (t,want)=>match ρ t with
  |.d (.bool b)=>(b=want->yes)/\(b=!want->no)
  |.tup []=>no
  |_=>False
def stepI(P:Program)(o:IOp)(ρ:Rho)(os:List AO)(K:Rho->List AO->Prop):Prop:=
 gI ρ o.guard (opI P ρ os (λr os'=>K (updo o.dst r ρ) os') o.op) (K (updo o.dst (.tup []) ρ) os)
def opsI(P:Program):List IOp->Rho->List AO->(Rho->List AO->Prop)->Prop
 |[],ρ,os,K=>K ρ os
 |o::rest,ρ,os,K=>stepI P o ρ os λρ' os'=>opsI P rest ρ' os' K
def toD:Value->Option D
 |.int k n=>some (.int k n)
 |.bool b=>some (.bool b)
 |.string s=>some (.str s.data.toList)
 |.slice none 0 0=>some .nil
 |.func (.func f) a b=>if a.size=0/\b.size=0 then some (.fn f) else none
 |.pointer none=>some (.lit (.pointer none))
 |.nilFunc=>some (.lit .nilFunc)
 |.nilIface=>some (.lit .nilIface)
 |.map none=>some (.lit (.map none))
 |_=>none
def cO:Operand->Option Opd
 |.tmp t=>some (.t t)
 |.const (.agg cs)=>(cs.toList.mapM toD).map .g
 |.const v=>(toD v).map .c
 |.func f=>some (.c (.fn f))
 |.global _=>none
def tsz(P:Program)(t:TypeId):Option Nat:=(P.info? t).map (·.size)
def tby(P:Program)(t:TypeId):Option Nat:=(P.info? t).map (·.bytes)
def tz(P:Program)(t:TypeId):Option (List D):=(P.info? t).bind λi=>i.zero.bind λz=>z.cells.toList.mapM toD
def tzv(P:Program)(t:TypeId):Option (Bool×List D):=(P.info? t).bind λi=>i.zero.bind λz=>match z with
 |.agg cs=>(cs.toList.mapM toD).map λl=>(true,l)
 |v=>(toD v).map λx=>(false,[x])
def tagg(P:Program)(t:TypeId):Option Bool:=
 match P.underlying t with
 |some (.struct _)=>some true
 |some (.array _ _)=>some true
 |some _=>some false
 |none=>none
def flatFs(P:Program)(fl:TypeId->Option (List SK)):Nat->List Field->Option (List SK)
 |_,[]=>some []
 |n,f::fs=>if f.name = "_" then none else if f.offset=n then match fl f.type,tsz P f.type with
  |some ks,some m=>if m=ks.length/\0<m then match flatFs P fl (n+m) fs with
   |some r=>some (ks++r)
   |none=>none
   else none
  |_,_=>none else none
def flat(P:Program):Nat->TypeId->Option (List SK)
 |0,_=>none
 |d+1,t=>match P.underlying t with
  |some .bool=>some [.b]
  |some (.int _)=>some [.i]
  |some .string=>some [.s]
  |some (.struct fs)=>if P.stoodInHeld t then none else flatFs P (flat P d) 0 fs.toList
  |some (.array n e)=>match flat P d e,tsz P e with
   |some ks,some m=>if m=ks.length then some (List.replicate n ks).flatten else none
   |_,_=>none
  |_=>none
def isNeg:BinOp->Option Bool
 |.eql=>some false
 |.neq=>some true
 |_=>none
def cParts(place:Nat->Option (Nat×Nat)):List (Nat×Operand)->Option (List (Nat×Nat×Opd))
 |[]=>some []
 |(i,x)::ps=>match place i,cO x,cParts place ps with
  |some (off,n),some x,some ps=>some ((off,n,x)::ps)
  |_,_,_=>none
def cOpt:Option Operand->Option (Option Opd)
 |none=>some none
 |some x=>(cO x).map some
def placeOf(P:Program)(t:TypeId):Option (Nat->Option (Nat×Nat)):=
 match P.underlying t with
 |some (.struct fs)=>(fs.toList.mapM λf=>(tsz P f.type).map λn=>(f.offset,n)).map λl i=>l[i]?
 |some (.array _ e)=>(tsz P e).map λn i=>some (i*n,n)
 |_=>none
def cEqs(P:Program)(op:BinOp)(t:TypeId)(x y:Opd):Option IK:=
 match flat P 100 t with
 |some ks=>if P.eqGuardType P.depth t=false then (isNeg op).map λn=>.eqs n ks x y else none
 |none=>none
def isStrT(P:Program)(t:TypeId):Bool:=match P.underlying t with
 |some .string=>true
 |_=>false
def isU8(P:Program)(t:TypeId):Bool:=match P.underlying t with
 |some (.int .u8)=>true
 |_=>false
theorem isStrT_eq{P:Program}{t:TypeId}(h:isStrT P t=true):P.underlying t=some .string:=by
 unfold isStrT at h
 split at h
 ·assumption
 ·cases h
theorem isU8_eq{P:Program}{t:TypeId}(h:isU8 P t=true):P.underlying t=some (.int .u8):=by
 unfold isU8 at h
 split at h
 ·assumption
 ·cases h
def cBin(P:Program)(op:BinOp)(t:TypeId)(x y:Operand):Option IK:=
 match cO x,cO y with
 |some x',some y'=>match P.underlying t with
  |some (.int _)=>some (.bin op x' y')
  |some .string=>some (.bin op x' y')
  |some .bool=>(isNeg op).map λn=>.eqb n x' y'
  |some (.struct _)=>cEqs P op t x' y'
  |some (.array _ _)=>cEqs P op t x' y'
  |some (.slice _)=>match y' with
   |.c .nil=>(isNeg op).map λn=>.eqnil n x'
   |_=>none
  |some (.pointer _)=>match y' with
   |.c (.lit (.pointer none))=>(isNeg op).map λn=>.ex (.eqp n) [x']
   |_=>none
  |_=>none
 |_,_=>none
def keyK(P:Program)(t:TypeId):Option SK:=match P.underlying t with
 |some (.int _)=>some .i
 |some .string=>some .s
 |some .bool=>some .b
 |_=>none
def cBuiltin(P:Program)(b:Builtin)(args:List Operand)(ts:List TypeId):Option IK:=
 match b,args,ts with
 |.len,[x],[t]=>match P.underlying t with
  |some .string=>(cO x).map .lens
  |some (.slice _)=>(cO x).map .len
  |some (.array n _)=>some (.lenk n)
  |_=>none
 |.append,[s,x],[t,t']=>match P.underlying t with
  |some (.slice e)=>if t=t' then match cO s,cO x,tsz P e,tby P e,tz P e with
    |some s,some x,some sz,some by_,some zs=>if 0<sz/\zs.length=sz then some (.app sz by_ s x) else none
    |_,_,_,_,_=>none else if isStrT P t'=true then match cO s,cO x,tsz P e,tby P e,tz P e with
    |some s,some x,some sz,some by_,some zs=>if sz=1/\zs.length=sz then some (.ex (.apps sz by_) [s,x]) else none
    |_,_,_,_,_=>none else none
  |_=>none
 |.copy,[d,s],[t,_]=>match P.underlying t with
  |some (.slice e)=>match cO d,cO s,tsz P e with
   |some d,some s,some sz=>if 0<sz then some (.ex (.cpy sz) [d,s]) else none
   |_,_,_=>none
  |_=>none
 |.delete,[m,k],[t,_]=>match P.underlying t with
  |some (.map kt _)=>match keyK P kt,cO m,cO k with
   |some sk,some m,some k=>some (.ex (.mdel sk) [m,k])
   |_,_,_=>none
  |_=>none
 |.min,x::xs,_=>match cO x,xs.mapM cO with
  |some x,some xs=>some (.minmax false x xs)
  |_,_=>none
 |.max,x::xs,_=>match cO x,xs.mapM cO with
  |some x,some xs=>some (.minmax true x xs)
  |_,_=>none
 |_,_,_=>none
def cIK0(P:Program)(draw:Bool)(op:Op):Option IK:=
 match op with
 |.move x=>(cO x).map .mv
 |.assign x=>(cO x).map .mv
 |.pick c a b=>match cO c,cO a,cO b with
  |some c,some a,some b=>some (.pick c a b)
  |_,_,_=>none
 |.alloc e=>(tz P e).map .alloc
 |.box e x=>match tsz P e,cO x with
  |some n,some x=>some (.box n x)
  |_,_=>none
 |.build t parts=>match tz P t,placeOf P t with
  |some zs,some pl=>(cParts pl parts.toList).map (.build zs)
  |_,_=>none
 |.buildSlice t len parts=>match P.underlying t with
  |some (.slice e)=>match tsz P e,tz P e with
   |some sz,some zs=>if 0<sz/\zs.length=sz/\len*sz<=16777216 then (cParts (λi=>some (i*sz,sz)) parts.toList).map (if draw then .bsld len sz zs else .bsl len sz zs) else none
   |_,_=>none
  |_=>none
 |.load t a=>match tagg P t,tsz P t,cO a with
  |some g,some n,some a=>some (.load g n a)
  |_,_,_=>none
 |.store t a v=>match tsz P t,cO a,cO v with
  |some n,some a,some v=>some (.store n a v)
  |_,_,_=>none
 |.binOp op t x y _=>cBin P op t x y
 |.unOp op _ x=>(cO x).map (.un op)
 |.convert s d x=>match P.underlying s,P.underlying d with
  |some (.int _),some (.int k)=>(cO x).map (.conv k)
  |some .string,some .string=>(cO x).map .cvs
  |some .string,some (.slice e)=>if isU8 P e=true/\tsz P e=some 1 then (cO x).map λx=>.ex .s2b [x] else none
  |some (.slice e),some .string=>if isU8 P e=true/\tsz P e=some 1 then (cO x).map λx=>.ex .b2s [x] else none
  |_,_=>none
 |.slice t x none (some hi) (some mx)=>match P.underlying t with
  |some (.slice e)=>match cO x,cO hi,cO mx,tsz P e with
   |some x,some hi,some mx,some _=>some (.ex .sl3 [x,hi,mx])
   |_,_,_,_=>none
  |_=>none
 |.slice t x lo hi none=>match P.underlying t with
  |some .string=>match cO x,cOpt lo,cOpt hi with
   |some x,some lo,some hi=>some (.slstr x lo hi)
   |_,_,_=>none
  |some (.slice e)=>match cO x,cOpt lo,cOpt hi,tsz P e with
   |some x,some lo,some hi,some sz=>some (if isU8 P e=true/\sz=1 then .ex (.slu lo.isSome hi.isSome) (x::(lo.toList++hi.toList)) else if draw then .slsld sz x lo hi else .slsl sz x lo hi)
   |_,_,_,_=>none
  |_=>none
 |.fieldAddr s x f=>match P.underlying s with
  |some (.struct fs)=>match fs[f]?,cO x with
   |some fd,some x=>match tsz P fd.type with
    |some (_+1)=>some (.faddr fd.offset x)
    |_=>none
   |_,_=>none
  |_=>none
 |.field t x f=>match P.underlying t with
  |some (.struct fs)=>match fs[f]?,cO x with
   |some fd,some x=>match tsz P fd.type,tagg P fd.type with
    |some n,some g=>some (.field fd.offset n g x)
    |_,_=>none
   |_,_=>none
  |_=>none
 |.indexAddr t x i=>match P.underlying t with
  |some (.array n e)=>match tsz P e,cO x,cO i with
   |some sz,some x,some i=>some (.ixarr n sz x i)
   |_,_,_=>none
  |some (.slice e)=>match tsz P e,cO x,cO i with
   |some sz,some x,some i=>some (.ixsl sz x i)
   |_,_,_=>none
  |_=>none
 |.index t x i=>match P.underlying t with
  |some (.array n e)=>match tsz P e,tagg P e,cO x,cO i with
   |some sz,some g,some x,some i=>some (.ixval n sz g x i)
   |_,_,_,_=>none
  |some .string=>match cO x,cO i with
   |some x,some i=>some (.ixstr x i)
   |_,_=>none
  |_=>none
 |.makeFunc (.func f) first caps=>if first.size=0 then (caps.toList.mapM cO).map (.clo f) else match first.toList,caps.toList with
  |[x],[]=>(cO x).map (.mkb f)
  |_,_=>none
 |.extract x i=>(cO x).map (.ext i)
 |.nilCheck x=>(cO x).map .nilck
 |.makeSlice t l c=>match P.underlying t with
  |some (.slice e)=>match tsz P e,tby P e,tz P e,cO l,cO c with
   |some sz,some by_,some zs,some l,some c=>if 0<sz/\zs.length=sz then some (.mksl sz by_ zs l c) else none
   |_,_,_,_,_=>none
  |_=>none
 |.call c=>match c.callee with
  |.value f=>match cO f,c.args.toList.mapM cO with
   |some f,some args=>some (if draw then .calld f args else .call f args)
   |_,_=>none
  |.builtin b=>cBuiltin P b c.args.toList c.argTypes.toList
  |_=>none
 |.range t x=>match P.underlying t with
  |some .string=>(cO x).map .rstr
  |some (.map _ _)=>(cO x).map .rmap
  |_=>none
 |.next it false=>(cO it).map .nmap
 |.entry it=>(cO it).map .entry
 |.makeMap _ none=>some .mkmap
 |.lookup t m k ok=>match P.underlying t with
  |some (.map kt e)=>match keyK P kt,tzv P e,cO m,cO k with
   |some sk,some (g,zs),some m,some k=>some (.lkup sk ok g zs m k)
   |_,_,_,_=>none
  |_=>none
 |.mapUpdate t m k v=>match P.underlying t with
  |some (.map kt e)=>match keyK P kt,cO m,cO k,cO v with
   |some sk,some m,some k,some v=>some (.mupd sk m k v)
   |_,_,_,_=>none
  |_=>none
 |.next it true=>(cO it).map .nstr
 |_=>none
def cGuard(ops:List Oper):Option (Nat×Bool)->Option (Option (Nat×Bool))
 |none=>some none
 |some (j,want)=>match ops[j]? with
  |some o=>o.dst.map λt=>some (t,want)
  |none=>none
def dstOK(n:Nat):Option Nat->Bool
 |some t=>decide (t<n)
 |none=>true
def cIK(P:Program)(draw:Bool)(op:Op):Option IK:=some (match cIK0 P draw op with
 |some k=>k
 |none=>.stop)
theorem cIK_of{P:Program}{draw:Bool}{op:Op}{k:IK}(h:cIK P draw op=some k)(hk:k≠.stop):cIK0 P draw op=some k:=by
 unfold cIK at h
 injection h with h
 split at h
 ·subst h;assumption
 ·exact absurd h.symm hk
def cOp(P:Program)(n:Nat)(draw:Bool)(ops:List Oper)(o:Oper):Option IOp:=
 match cIK P draw o.op,cGuard ops o.guard with
 |some k,some g=>if dstOK n o.dst=true then some {dst:=o.dst,guard:=g,op:=k} else none
 |_,_=>none
def IK.rd:IK->Bool
 |.ex e _=>e.rd
 |.faddr ..|.ixarr ..|.eqnil ..|.ixsl ..|.slsl ..|.len ..|.load ..|.store ..|.alloc ..|.box ..|.mksl ..|.app ..|.appn ..|.call ..|.calld ..|.bsl ..|.bsld ..|.rstr ..|.nstr ..|.nilck ..|.callp ..|.callo ..|.alloca ..|.boxa ..|.calln ..|.bslr ..|.mkmap|.lkup ..|.mupd ..|.rmap ..|.nmap ..|.entry ..=>true
 |_=>false
def IK.wr:IK->Bool
 |.ex e _=>e.wr
 |.slsl ..|.store ..|.alloc ..|.box ..|.mksl ..|.app ..|.appn ..|.callp ..|.call ..|.bsl ..|.rstr ..|.nstr ..|.alloca ..|.boxa ..|.calln ..|.callo ..|.bslr ..|.mkmap|.mupd ..|.rmap ..|.nmap ..=>true
 |_=>false
def Opd.tmps:Opd->List Nat
 |.t n=>[n]
 |_=>[]
def IK.opds:IK->List Opd
 |.mkb _ x|.mv x|.un _ x|.eqnil _ x|.conv _ x|.cvs x|.faddr _ x|.field _ _ _ x|.ext _ x|.len x|.lens x|.load _ _ x|.box _ x|.rstr x|.nstr x|.nilck x|.boxa _ _ x|.rmap x|.nmap x|.entry x=>[x]
 |.pick a b c=>[a,b,c]
 |.bin _ x y|.eqb _ x y|.eqs _ _ x y|.ixarr _ _ x y|.ixsl _ x y|.ixstr x y|.ixval _ _ _ x y|.store _ x y|.mksl _ _ _ x y|.app _ _ x y|.appn _ _ _ x y|.lkup _ _ _ _ x y=>[x,y]
 |.mupd _ a b c=>[a,b,c]
 |.slstr x l h|.slsl _ x l h|.slsld _ x l h=>x::(l.toList++h.toList)
 |.build _ ps|.bsl _ _ _ ps|.bsld _ _ _ ps|.bslr _ _ _ _ ps=>ps.map (·.2.2)
 |.clo _ cs=>cs
 |.minmax _ x xs=>x::xs
 |.call f args|.calld f args|.callp f args|.callo f args|.calln _ f args=>f::args
 |.ex _ xs=>xs
 |.lenk _|.alloc _|.alloca _ _|.mkmap|.stop=>[]
def IOp.looks(o:IOp):List Nat:=(match o.guard with|some (t,_)=>[t]|none=>[])++o.op.opds.flatMap Opd.tmps
def IK.det:IK->Bool
 |.call ..=>false
 |.nmap ..=>false
 |_=>true
def IOp.apart(x y:IOp):Bool:=x.op.det&&y.op.det &&
 (match x.dst with|some d=>!(y.looks.contains d)&&y.dst != some d|none=>true) &&
 (match y.dst with|some d=>!(x.looks.contains d)|none=>true) &&
 !(x.op.wr&&y.op.rd)&&!(x.op.rd&&y.op.wr)
def ancRow(acc:List Nat)(es:List Edge):Nat:=es.foldl (λs e=>if Region.binds .any e then s|||2 ^ e.on|||acc.getD e.on 0 else s) 0
def anc(acc:List Nat):List Oper->List Nat
 |[]=>acc
 |o::l=>anc (acc++[ancRow acc o.after.toList]) l
def drawOK(ops:List Oper)(is:List IOp):Bool:=
 let b:=anc [] ops
 is.all (λo=>o.op.det)&&(List.range ops.length).all (λi=>match ops[i]? with|some o=>o.after.toList.all (λe=>decide (e.on<i)||!Region.binds .any e)|none=>true) &&
 (List.range is.length).all λj=>(List.range j).all λi=>(b.getD j 0).testBit i||(is.getD i default).apart (is.getD j default)
def holes(ow:Opd->Bool)(dd:Option Nat->Bool)(br:List (Nat×Nat×Opd)->Bool):List IOp->Nat->List IOp
 |[],_=>[]
 |o::is,k=>match o.op with
  |.alloc zs=>{o with op:=.alloca k zs}::holes ow dd br is (k+1)
  |.box n x=>{o with op:=.boxa k n x}::holes ow dd br is (k+1)
  |.calld f args=>if ow f then {o with op:=.calln k f args}::holes ow dd br is (k+1) else {o with op:=.callp f args}::holes ow dd br is k
  |.app sz b s x=>if dd o.dst then {o with op:=.ex (.appd sz b) [s,x]}::holes ow dd br is k else {o with op:=.appn k sz b s x}::holes ow dd br is (k+1)
  |.bsld n sz zs ps=>if br ps then {o with op:=.bslr k n sz zs ps}::holes ow dd br is (k+1) else o::holes ow dd br is k
  |_=>o::holes ow dd br is k
def holeCount(ow:Opd->Bool)(dd:Option Nat->Bool)(br:List (Nat×Nat×Opd)->Bool):List IOp->Nat
 |[]=>0
 |o::is=>match o.op with
  |.alloc _=>holeCount ow dd br is+1
  |.box _ _=>holeCount ow dd br is+1
  |.calld f _=>if ow f then holeCount ow dd br is+1 else holeCount ow dd br is
  |.app ..=>if dd o.dst then holeCount ow dd br is else holeCount ow dd br is+1
  |.bsld _ _ _ ps=>if br ps then holeCount ow dd br is+1 else holeCount ow dd br is
  |_=>holeCount ow dd br is
def IOp.at(b:Nat)(o:IOp):IOp:=match o.op with
 |.alloca k zs=>{o with op:=.alloca (b+k) zs}
 |.boxa k n x=>{o with op:=.boxa (b+k) n x}
 |.calln k f args=>{o with op:=.calln (b+k) f args}
 |.appn k sz y s x=>{o with op:=.appn (b+k) sz y s x}
 |.bslr k n sz zs ps=>{o with op:=.bslr (b+k) n sz zs ps}
 |_=>o
def ownOp(P:Program):Opd->Bool
 |.c (.fn f)=>match P.funcs[f]? with
  |some fn=>match fn.params.toList,fn.resultTypes.toList with
   |[t],[r]=>decide (t=r)&&(match P.underlying t with|some (.slice _)=>true|_=>false)
   |_,_=>false
  |none=>false
 |_=>false
def appOp(P:Program):Opd->Bool
 |.c (.fn f)=>match P.funcs[f]? with
  |some fn=>match fn.params.toList,fn.resultTypes.toList with
   |t::_::_,[r]=>decide (t=r)&&(match P.underlying t with|some (.slice _)=>true|_=>false)
   |_,_=>false
  |none=>false
 |_=>false
def anyApp(P:Program)(is:List IOp):Bool:=is.any λo=>match o.op with
 |.calld f _=>appOp P f
 |_=>false
def ownIn(P:Program)(is:List IOp)(ps:List (Nat×Nat×Opd)):Bool:=
 let ts:=is.foldl (λ(a:List Nat) o=>match o.dst with
  |some d=>if (match o.op with|.calld f _=>ownOp P f|_=>o.op.opds.any λx=>x.tmps.any a.contains) then d::a else a
  |none=>a) []
 ps.any λp=>p.2.2.tmps.any ts.contains
def litIn(P:Program)(is:List IOp)(ps:List (Nat×Nat×Opd)):Bool:=ps.isEmpty||ownIn P is ps
def IOp.apartS(x y:IOp):Bool:=x.op.det&&y.op.det &&
 (match x.dst with|some d=>!(y.looks.contains d)&&y.dst != some d|none=>true) &&
 (match y.dst with|some d=>!(x.looks.contains d)|none=>true)
def pairsOf(b:List Nat)(is:List IOp):List (Nat×Nat):=
 (List.range is.length).flatMap λj=>((List.range j).filter λi=>!((b.getD j 0).testBit i||(is.getD i default).apart (is.getD j default))).map λi=>(i,j)
def drawOK2(ops:List Oper)(is:List IOp)(ps:List (Nat×Nat)):Bool:=
 let b:=anc [] ops
 is.all (λo=>o.op.det)&&(List.range ops.length).all (λi=>match ops[i]? with|some o=>o.after.toList.all (λe=>decide (e.on<i)||!Region.binds .any e)|none=>true) &&
 (List.range is.length).all λj=>(List.range j).all λi=>(b.getD j 0).testBit i||((is.getD i default).apartS (is.getD j default)&&(ps.contains (i,j)||(is.getD i default).apart (is.getD j default)))
def IOp.isMv(o:IOp):Bool:=o.guard.isNone&&match o.op with|.mv _=>true|_=>false
def IOp.apartM(x y:IOp):Bool:=(x.isMv||y.isMv) &&
 (match x.dst with|some d=>!(y.looks.contains d)&&y.dst != some d|none=>true) &&
 (match y.dst with|some d=>!(x.looks.contains d)|none=>true)
def drawOKS(ops:List Oper)(is:List IOp):Bool:=
 let b:=anc [] ops
 (List.range ops.length).all (λi=>match ops[i]? with|some o=>o.after.toList.all (λe=>decide (e.on<i)||!Region.binds .any e)|none=>true) &&
 (List.range is.length).all λj=>(List.range j).all λi=>(b.getD j 0).testBit i||(is.getD i default).apart (is.getD j default)||(is.getD i default).apartM (is.getD j default)
def toCall(b:List Nat)(is:List IOp)(j:Nat)(o:IOp):IOp:=match o.op with
 |.calld f args=>if (List.range is.length).all λi=>decide (i=j)||(is.getD i default).isMv||(if i<j then (b.getD j 0).testBit i else (b.getD i 0).testBit j) then {o with op:=.call f args} else o
 |_=>o
def toCalls(b:List Nat)(is:List IOp):List IOp:=is.mapIdx (toCall b is)
def ptrOp(P:Program):Opd->Bool
 |.c (.fn f)=>match P.funcs[f]? with
  |some fn=>match fn.params.toList with
   |t::_=>(match P.underlying t with|some (.pointer _)=>true|some (.map _ _)=>true|_=>false)
   |_=>false
  |none=>true
 |_=>true
def leftOK(P:Program)(is:List IOp):Bool:=is.all λo=>match o.op with
 |.calld f _=>!ptrOp P f&&(match o.dst with
  |some d=>is.all λo'=>match o'.op with
   |.calld _ (.t e::_)=>e != d
   |.call _ (.t e::_)=>e != d
   |.app _ _ (.t e) _=>e != d
   |.ex (.apps ..) (.t e::_)=>e != d
   |_=>true
  |none=>true)
 |_=>true
def ordOK(P:Program)(ops:List Oper)(is:List IOp):Bool:=drawOKS ops (toCalls (anc [] ops) is)&&leftOK P (toCalls (anc [] ops) is)
def dataIn(is:List IOp):Option Nat->Bool
 |some d=>is.any λo=>match o.op with
  |.mupd _ _ _ (.t v)=>v==d
  |_=>false
 |none=>false
def ownAny(P:Program)(x:Opd):Bool:=ownOp P x||appOp P x
def holesP(P:Program)(is:List IOp):List IOp:=holes (ownAny P) (dataIn is) (litIn P is) is 0
def countP(P:Program)(is:List IOp):Nat:=holeCount (ownAny P) (dataIn is) (litIn P is) is
def cC(P:Program)(n:Nat):Code->Option IC
 |.skip=>some .skip
 |.region _ ops draw=>match ops.toList.mapM (cOp P n draw ops.toList) with
  |some is=>if draw then (if ordOK P ops.toList is=true then some (.region (toCalls (anc [] ops.toList) is)) else if drawOK2 ops.toList (holesP P is) (pairsOf (anc [] ops.toList) (holesP P is)) then some (.dreg (countP P is) (pairsOf (anc [] ops.toList) (holesP P is)) (holesP P is)) else none) else some (.region is)
  |none=>none
 |.seq a b=>match cC P n a,cC P n b with
  |some a,some b=>some (.seq a b)
  |_,_=>none
 |.cond c x y=>match cO c,cC P n x,cC P n y with
  |some c,some x,some y=>some (.cond c x y)
  |_,_,_=>none
 |.block id c=>(cC P n c).map (.block id)
 |.loop c=>(cC P n c).map .loop
 |.exit id=>some (.exit id)
 |.ret=>some .ret
 |.scope c=>cC P n c
 |_=>none
end Go.Bi
