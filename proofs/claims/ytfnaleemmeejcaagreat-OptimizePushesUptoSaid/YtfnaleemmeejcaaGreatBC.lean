/- The compiled form of the code, what it does to abstract states, and the translation from the model's code. No condition. -/
import Derived.Test.YtfnaleemmeejcaaGreatBB
set_option linter.unusedVariables false
namespace Go.Bi
set_option linter.unusedSectionVars false
variable [N0]
inductive C1 where
 |t (n:Nat)
 |c (x:D)
 |g (cs:List D)
 deriving Inhabited
inductive SK where
 |i|b|s
 deriving Inhabited,DecidableEq
inductive IK where
 |mv (x:C1)
 |pick (c a b:C1)
 |un (op:UnOp) (x:C1)
 |bin (op:BinOp) (x y:C1)
 |eqb (neg:Bool) (x y:C1)
 |eqs (neg:Bool) (ks:List SK) (x y:C1)
 |eqnil (neg:Bool) (x:C1)
 |conv (k:IntKind) (x:C1)
 |cvs (x:C1)
 |faddr (off:Nat) (x:C1)
 |field (off n:Nat) (agg:Bool) (x:C1)
 |ixarr (len sz:Nat) (x i:C1)
 |ixsl (sz:Nat) (x i:C1)
 |ixstr (x i:C1)
 |ixval (len sz:Nat) (agg:Bool) (x i:C1)
 |slstr (x:C1) (lo hi:Option C1)
 |slsl (sz:Nat) (x:C1) (lo hi:Option C1)
 |build (zs:List D) (parts:List (Nat×Nat×C1))
 |bsl (n sz:Nat) (zs:List D) (parts:List (Nat×Nat×C1))
 |bsld (n sz:Nat) (zs:List D) (parts:List (Nat×Nat×C1))
 |clo (f:FuncId) (caps:List C1)
 |ext (i:Nat) (x:C1)
 |len (x:C1)
 |lens (x:C1)
 |lenk (n:Nat)
 |minmax (mx:Bool) (x:C1) (xs:List C1)
 |load (agg:Bool) (n:Nat) (x:C1)
 |store (n:Nat) (x v:C1)
 |alloc (zs:List D)
 |box (n:Nat) (x:C1)
 |mksl (sz bytes:Nat) (zs:List D) (len cap:C1)
 |app (sz bytes:Nat) (s x:C1)
 |call (f:C1) (args:List C1)
 |calld (f:C1) (args:List C1)
 |rstr (x:C1)
 |nstr (x:C1)
 |nilck (x:C1)
 |alloca (id:Nat) (zs:List D)
 |callp (f:C1) (args:List C1)
 |boxa (id n:Nat) (x:C1)
 |calln (id:Nat) (f:C1) (args:List C1)
 |callo (f:C1) (args:List C1)
 |bslr (id n sz:Nat) (zs:List D) (parts:List (Nat×Nat×C1))
 |mkmap
 |lkup (sk:SK) (ok g:Bool) (zs:List D) (m k:C1)
 |mupd (sk:SK) (m k v:C1)
 |rmap (x:C1)
 |nmap (x:C1)
 |entry (x:C1)
 |slsld (sz:Nat) (x:C1) (lo hi:Option C1)
 |stop
 |mkb (f:FuncId) (x:C1)
 deriving Inhabited
structure D0 where
 dst:Option Nat
 guard:Option (Nat×Bool)
 op:IK
 deriving Inhabited
inductive IC where
 |skip
 |region (ops:List D0)
 |dreg (h:Nat) (ps:List (Nat×Nat)) (ops:List D0)
 |seq (a b:IC)
 |cond (c:C1) (x y:IC)
 |block (id:Nat) (c:IC)
 |loop (c:IC)
 |exit (id:Nat)
 |ret
 deriving Inhabited
abbrev D5:=Nat->AV
def upd(t:Nat)(v:AV)(ρ:D5):D5:=λs=>if s=t then v else ρ s
def updo(t:Option Nat)(v:AV)(ρ:D5):D5:=match t with|some t=>upd t v ρ|none=>ρ
def C0(ρ:D5):C1->AV
 |.t n=>ρ n
 |.c x=>.d x
 |.g cs=>.agg (cs.map .d)
def A0Y(os:List AO):AV->Option (D×List AO)
 |.d x=>some (x,os)
 |.arr id len=>match os[id]? with
  |some (.arr es sz frz nl)=>if len=es.length then some (if nl then .nil else .sl es,os.set id (.arr es sz es.length nl)) else none
  |_=>none
 |_=>none
def n5(os:List AO):List AV->Option (List D×List AO)
 |[]=>some ([],os)
 |c::cs=>match A0Y os c with
  |some (x,os1)=>match n5 os1 cs with
   |some (xs,os2)=>some (x::xs,os2)
   |none=>none
  |none=>none
def A0Z(os:List AO):AV->Option (AV×List AO)
 |.agg cs=>match n5 os cs with
  |some (xs,os1)=>some (.agg (xs.map .d),os1)
  |none=>none
 |a=>match A0Y os a with
  |some (x,os1)=>some (.d x,os1)
  |none=>none
def Z5(os:List AO):List AV->Option (List AV×List AO)
 |[]=>some ([],os)
 |c::cs=>match A0Z os c with
  |some (x,os1)=>match Z5 os1 cs with
   |some (xs,os2)=>some (x::xs,os2)
   |none=>none
  |none=>none
def E0y(os:List AO):AV->Option (AV×List AO)
 |.tup cs=>match Z5 os cs with
  |some (xs,os1)=>some (.tup xs,os1)
  |none=>none
 |a=>A0Z os a
def AV.ref1:AV->Bool
 |.ptr ..=>true
 |.aptr ..=>true
 |.dptr ..=>true
 |.clo ..=>true
 |.bcl ..=>true
 |.iter ..=>true
 |.mp ..=>true
 |.mit ..=>true
 |.rs ..=>true
 |.rp ..=>true
 |_=>false
def AV.ref:AV->Bool
 |.agg cs=>cs.any AV.ref1
 |a=>a.ref1
def AV.isd:AV->Bool
 |.d _=>true
 |_=>false
def AV.isDB:AV->Bool
 |.d _=>true
 |.agg cs=>cs.all AV.isd
 |_=>false
def AV.one:AV->Bool
 |.tup _=>false
 |.junk=>false
 |_=>true
def p8(os:List AO):List AV->Option (List AV×List AO)
 |[]=>some ([],os)
 |c::cs=>if c.ref then match p8 os cs with
   |some (xs,os2)=>some (c::xs,os2)
   |none=>none
  else match A0Z os c with
  |some (x,os1)=>match p8 os1 cs with
   |some (xs,os2)=>some (x::xs,os2)
   |none=>none
  |none=>none
def u3(n:Nat):AV->AV
 |.ptr id off=>.ptr (id+n) off
 |.aptr id len i off=>.aptr (id+n) len i off
 |.arr id len=>.arr (id+n) len
 |.clo f caps=>.clo f (caps.map (·+n))
 |.bcl f id=>.bcl f (id+n)
 |.iter id=>.iter (id+n)
 |.mp id=>.mp (id+n)
 |.mit id=>.mit (id+n)
 |.rs id len=>.rs (id+n) len
 |.rp id len i off=>.rp (id+n) len i off
 |a=>a
def shG(n:Nat):AV->AV
 |.agg cs=>.agg (cs.map (u3 n))
 |a=>u3 n a
def shA(n:Nat):AV->AV
 |.tup cs=>.tup (cs.map (shG n))
 |a=>shG n a
def Y6(n:Nat):AO->AO
 |.cells cs=>.cells (cs.map (u3 n))
 |.map kvs=>.map (kvs.map λp=>(p.1,shG n p.2))
 |.mit m k s=>.mit (m+n) k s
 |.rarr es sz nl=>.rarr (es.map λe=>e.map (u3 n)) sz nl
 |o=>o
def Enters(P:Program)(f:FuncId):Prop:=∃fn,P.funcs[f]?=some fn/\fn.body.isSome=true/\fn.name≠ "runtime.NumGoroutine"
def B9(P:Program)(f:FuncId)(args:List AV)(bs:List AO)(Q:AV->List AO->Prop):Prop:=
 Enters P f/\∀(M:D4) (G:Gh) (w:World) (vs:Array Value),C9 M G bs w->vs.size=args.length->(∀(j:Nat) a v,args[j]?=some a->vs[j]?=some v->VG M G bs a v)->
  Calls P f vs w λe w'=>∃v,e=.returned v/\∃M' G' r os',C9 M' G' os' w'/\G7 M G bs w M' G' os' w'/\VA M' G' os' r v/\Q r os'
def AV.cells:AV->Option (List AV)
 |.agg cs=>some cs
 |.tup _=>none
 |.junk=>none
 |a=>some [a]
def I6{α:Type}(cs:List α)(off:Nat)(ps:List α):List α:=cs.take off++ps++cs.drop (off+ps.length)
def Q5(ρ:D5):List (Nat×Nat×C1)->List AV->(List AV->Prop)->Prop
 |[],cs,K=>K cs
 |(off,n,x)::ps,cs,K=>match (C0 ρ x).cells with
  |some xs=>xs.length=n/\off+n<=cs.length/\Q5 ρ ps (I6 cs off xs) K
  |none=>False
def S8{α:Type}(sz:Nat):Nat->List α->List (List α)
 |0,_=>[]
 |n+1,l=>l.take sz::S8 sz n (l.drop sz)
def unD(op:UnOp)(x:D)(K:D->Prop):Prop:=
 match op,x with
 |.neg,.int k n=>K (.int k (k.wrap (0-n)))
 |.xor,.int k n=>K (.int k (k.wrap (BitVec.ofInt k.bits (if k.signed then -1 else k.max) ^^^ BitVec.ofInt k.bits n).toNat))
 |.not,.bool b=>K (.bool !b)
 |_,_=>False
def A2J(op:BinOp)(k:IntKind)(a b:Int)(K:D->Prop):Prop:=
 match op with
 |.add=>K (.int k (k.wrap (a+b)))
 |.sub=>K (.int k (k.wrap (a-b)))
 |.mul=>K (.int k (k.wrap (a*b)))
 |.quo=>b≠0/\K (.int k (k.wrap (a.tdiv b)))
 |.rem=>b≠0/\K (.int k (a.tmod b))
 |.and=>K (.int k (k.wrap (BitVec.ofInt k.bits a &&& BitVec.ofInt k.bits b).toNat))
 |.or=>K (.int k (k.wrap (BitVec.ofInt k.bits a|||BitVec.ofInt k.bits b).toNat))
 |.xor=>K (.int k (k.wrap (BitVec.ofInt k.bits a ^^^ BitVec.ofInt k.bits b).toNat))
 |.andNot=>K (.int k (k.wrap (BitVec.ofInt k.bits a &&& ~~~ BitVec.ofInt k.bits b).toNat))
 |.eql=>K (.bool (a==b))
 |.neq=>K (.bool (a != b))
 |.lss=>K (.bool (a<b))
 |.leq=>K (.bool (a<=b))
 |.gtr=>K (.bool (a > b))
 |.geq=>K (.bool (a>=b))
 |_=>False
def A3j(op:BinOp)(x y:List UInt8)(K:D->Prop):Prop:=
 match op with
 |.add=>x.length+y.length<=9223372036854775807/\K (.str (x++y))
 |.eql=>K (.bool (x==y))
 |.neq=>K (.bool !(x==y))
 |.lss=>K (.bool (Op.bytesLess x y))
 |.leq=>K (.bool (Op.bytesLess x y||x==y))
 |.gtr=>K (.bool !(Op.bytesLess x y||x==y))
 |.geq=>K (.bool !(Op.bytesLess x y))
 |_=>False
def A49(op:BinOp)(x y:AV)(K:D->Prop):Prop:=
 match x,y with
 |.d (.int k a),.d (.int k' b)=>match op with
  |.shl=>0<=b/\K (.int k (k.wrap (a*2 ^ (min b.toNat k.bits))))
  |.shr=>0<=b/\K (.int k (a.fdiv (2 ^ (min b.toNat k.bits))))
  |op=>k=k'/\A2J op k a b K
 |.d (.str s),.d (.str t)=>A3j op s t K
 |_,_=>False
def x7:SK->D->D->Option Bool
 |.i,.int k a,.int k' b=>if k=k' then some (a==b) else none
 |.b,.bool a,.bool b=>some (a==b)
 |.s,.str a,.str b=>some (a==b)
 |_,_,_=>none
def eqL:List SK->List AV->List AV->Option Bool
 |[],[],[]=>some true
 |k::ks,.d x::xs,.d y::ys=>match x7 k x y,eqL ks xs ys with
  |some a,some b=>some (a&&b)
  |_,_=>none
 |_,_,_=>none
def Y5(os:List AO)(agg:Bool)(n:Nat)(x:AV)(K:AV->Prop):Prop:=
 match x with
 |.ptr id off=>match os[id]? with
  |some (.cells cs)=>if agg then off+n<=cs.length/\K (.agg ((cs.drop off).take n)) else off<cs.length/\K (cs.getD off .junk)
  |_=>False
 |.aptr id len i off=>match os[id]? with
  |some (.arr es sz frz nl)=>len=es.length/\i<es.length/\nl=false/\
   (if agg then off+n<=sz/\K (.agg ((((es.getD i []).drop off).take n).map .d)) else off<sz/\K (.d ((es.getD i []).getD off .nil)))
  |_=>False
 |.rp id len i off=>match os[id]? with
  |some (.rarr es sz nl)=>len=es.length/\i<es.length/\nl=false/\
   (if agg then off+n<=sz/\K (.agg (((es.getD i []).drop off).take n)) else off<sz/\K ((es.getD i []).getD off .junk))
  |_=>False
 |.dptr es i off=>i<es.length/\
   (if agg then off+n<=(es.getD i []).length/\K (.agg ((((es.getD i []).drop off).take n).map .d)) else off<(es.getD i []).length/\K (.d ((es.getD i []).getD off .nil)))
 |_=>False
def A1O(os:List AO)(n:Nat)(x v:AV)(K:List AO->Prop):Prop:=
 match v.cells with
 |none=>False
 |some vc=>match x with
 |.ptr id off=>match os[id]? with
  |some (.cells cs)=>vc.length=n/\off+n<=cs.length/\K (os.set id (.cells (I6 cs off vc)))
  |_=>False
 |.aptr id len i off=>match n5 os vc with
  |some (xs,os1)=>match os1[id]? with
   |some (.arr es sz frz nl)=>len=es.length/\frz<=i/\i<es.length/\nl=false/\xs.length=n/\off+n<=sz/\K (os1.set id (.arr (es.set i (I6 (es.getD i []) off xs)) sz frz nl))
   |_=>False
  |none=>False
 |_=>False
def V1(ρ:D5)(x:Option C1)(dflt:Nat)(K:Int->Prop):Prop:=
 match x with
 |none=>K dflt
 |some x=>match C0 ρ x with
  |.d (.int _ n)=>K n
  |_=>False
def slI(ρ:D5)(os:List AO)(sz:Nat)(x:AV)(lo hi:Option C1)(K:AV->List AO->Prop):Prop:=
 match A0Y os x with
 |some (.sl es,os1)=>V1 ρ hi es.length λh=>V1 ρ lo 0 λl=>
   0<=l/\l<=h/\h<=es.length/\(∀e∈es,e.length=sz)/\K (.d (.sl ((es.drop l.toNat).take (h.toNat-l.toNat)))) os1
 |some (.nil,os1)=>V1 ρ hi 0 λh=>V1 ρ lo 0 λl=>l=0/\h=0/\K (.d .nil) os1
 |_=>False
def A2Z(ρ:D5)(sz:Nat)(x:AV)(lo hi:Option C1)(K:AV->Prop):Prop:=
 match x with
 |.d (.sl es)=>V1 ρ hi es.length λh=>V1 ρ lo 0 λl=>
   0<=l/\l<=h/\h<=es.length/\(∀e∈es,e.length=sz)/\K (.d (.sl ((es.drop l.toNat).take (h.toNat-l.toNat))))
 |.d .nil=>V1 ρ hi 0 λh=>V1 ρ lo 0 λl=>l=0/\h=0/\K (.d .nil)
 |_=>False
theorem D9s{ρ:D5}{os:List AO}{sz:Nat}{x:AV}{lo hi:Option C1}{K:AV->List AO->Prop}(h:A2Z ρ sz x lo hi λr=>K r os):slI ρ os sz x lo hi K:=by
 unfold A2Z at h
 split at h
 ·exact h
 ·exact h
 ·exact h.elim
def C3H:AV->Option Value
 |.d (.int k n)=>some (.int k n)
 |.d (.bool b)=>some (.bool b)
 |.d (.str s)=>some (.string ⟨⟨s⟩⟩)
 |_=>none
def A7x:List AV->Option (List Value)
 |[]=>some []
 |c::cs=>match C3H c,A7x cs with
  |some v,some vs=>some (v::vs)
  |_,_=>none
def unS:Value->Option D
 |.int k n=>some (.int k n)
 |.bool b=>some (.bool b)
 |.string ⟨⟨s⟩⟩=>some (.str s)
 |_=>none
def A7E:List Value->Option (List D)
 |[]=>some []
 |v::vs=>match unS v,A7E vs with
  |some d,some ds=>some (d::ds)
  |_,_=>none
def A6m:Value->Option (FuncId×List D)
 |.func (.func g) ⟨[.agg ⟨vs⟩]⟩ ⟨[]⟩=>match A7E vs with
  |some ds=>some (g,ds)
  |none=>none
 |_=>none
theorem D9P{M:D4}{v:Value}{d:D}(h:unS v=some d):Rd M d v:=by
 unfold unS at h
 split at h
 ·cases h;exact .int ..
 ·cases h;exact .bool ..
 ·cases h;exact .str ..
 ·cases h
theorem C45{M:D4}:∀{vs:List Value}{ds:List D},A7E vs=some ds->ds.length=vs.length/\∀(j:Nat) d v,ds[j]?=some d->vs[j]?=some v->Rd M d v
 |[],ds,h=>by cases h;exact⟨rfl,λj d v hd=>by simp at hd⟩
 |v::vs,ds,h=>by
  unfold A7E at h
  split at h
  ·rename_i d ds' h1 h2
   cases h
   obtain⟨h3,h4⟩:=C45 h2
   refine⟨by simp[h3],λj d v hd hv=>?_⟩
   cases j with
   |zero=>simp at hd hv;subst hd;subst hv;exact D9P h1
   |succ j=>exact h4 j d v (by simpa using hd) (by simpa using hv)
  ·cases h
theorem D4O{v:Value}{g:FuncId}{ds:List D}(h:A6m v=some (g,ds)):∃vs:List Value,v=.func (.func g) #[.agg ⟨vs⟩] #[]/\A7E vs=some ds:=by
 unfold A6m at h
 split at h
 ·rename_i g' vs
  split at h
  ·rename_i ds' h1
   cases h
   exact⟨vs,rfl,h1⟩
  ·cases h
 ·cases h
def A26:List AV->Option (List D)
 |[]=>some []
 |c::l=>match c with
  |.d x=>match A26 l with
   |some r=>some (x::r)
   |none=>none
  |_=>none
theorem C16:∀{cs:List AV}{ds:List D},A26 cs=some ds->cs=ds.map .d
 |[],ds,h=>by cases h;rfl
 |c::l,ds,h=>by
  unfold A26 at h
  cases c with
  |d x=>
   simp only at h
   split at h
   ·rename_i r hr
    cases h
    rw[C16 hr];rfl
   ·cases h
  |_=>cases h
def B2n(n id:Nat)(cs:List AV):AV:=match A26 cs with
 |some _=>.arr id n
 |none=>.rs id n
def B2m(n sz:Nat)(cs:List AV):AO:=match A26 cs with
 |some ds=>.arr (S8 sz n ds) sz 0 false
 |none=>.rarr (S8 sz n cs) sz false
def A0T(os:List AO)(sz bytes:Nat)(s:AV)(ns:List (List D))(K:AV->List AO->Prop):Prop:=
 match s with
 |.d .nil=>ns.length*bytes<=140737488355328/\ns.length<=9223372036854775807/\(∀e∈ns,e.length=sz)/\K (.arr os.length ns.length) (os++[.arr ns sz 0 ns.isEmpty])
 |.arr id len=>match os[id]? with
  |some (.arr es sz' frz nl)=>len=es.length/\sz'=sz/\(es.length+ns.length)*bytes<=140737488355328/\es.length+ns.length<=9223372036854775807/\
    (∀e∈ns,e.length=sz)/\K (.arr id (es.length+ns.length)) (os.set id (.arr (es++ns) sz frz (nl&&ns.isEmpty)))
  |_=>False
 |_=>False
def A1q(os:List AO)(sz bytes:Nat)(s:AV)(ns:List (List AV))(K:AV->List AO->Prop):Prop:=
 match s with
 |.rs id len=>match os[id]? with
  |some (.rarr es sz' nl)=>len=es.length/\sz'=sz/\(es.length+ns.length)*bytes<=140737488355328/\es.length+ns.length<=9223372036854775807/\
    (∀e∈ns,e.length=sz)/\K (.rs id (es.length+ns.length)) (os.set id (.rarr (es++ns) sz (nl&&ns.isEmpty)))
  |_=>False
 |_=>False
def p7(os:List AO)(x:AV)(K:List (List D)->Prop):Prop:=
 match x with
 |.d .nil=>K []
 |.d (.sl es)=>K es
 |.arr id len=>match os[id]? with
  |some (.arr es sz frz nl)=>len=es.length/\K es
  |_=>False
 |_=>False
def t8(mx:Bool)(k:IntKind)(a:Int):List AV->(AV->Prop)->Prop
 |[],K=>K (.d (.int k a))
 |.d (.int k' b)::xs,K=>if mx then (b<=a->t8 mx k a xs K)/\(a<b->t8 mx k b xs K) else (a<=b->t8 mx k a xs K)/\(b<a->t8 mx k b xs K)
 |_,_=>False
def k8(os:List AO)(d:Nat)(x:AV)(K:AV->Prop):Prop:=
 match x with
 |.ptr id o=>K (.ptr id (o+d))
 |.aptr id l i o=>match os[id]? with
  |some (.arr es _ _ _)=>l=es.length/\K (.aptr id l i (o+d))
  |_=>False
 |.dptr es i o=>K (.dptr es i (o+d))
 |_=>False
def A2Q(sk:SK)(key:D):List (D×AV)->Option AV
 |[]=>none
 |p::ps=>if x7 sk key p.1=some true then some p.2 else A2Q sk key ps
def A12(sk:SK)(key:D)(v:AV):List (D×AV)->List (D×AV)
 |[]=>[(key,v)]
 |p::ps=>if x7 sk key p.1=some true then (key,v)::ps else p::A12 sk key v ps
def mok(sk:SK)(key:D)(kvs:List (D×AV)):Prop:=(∀p∈kvs,x7 sk key p.1≠none)/\x7 sk key key≠none
def zv(g:Bool)(zs:List D):AV:=if g then .agg (zs.map .d) else match zs with
 |[x]=>.d x
 |_=>.junk
def lkR(ok:Bool)(z:AV):Option AV->AV
 |some v=>if ok then .tup [v,.d (.bool true)] else v
 |none=>if ok then .tup [z,.d (.bool false)] else z
def lkK(os:List AO)(id:Nat)(r:AV)(K:AV->Prop):Prop:=K r\/(r=.d .nil/\∃sz frz,os[id+1]?=some (.arr [] sz frz true)/\K (.arr (id+1) 0))
def A54:AV->Option Nat
 |.ptr id 0=>some id
 |_=>none
def A7(P:Program)(ρ:D5)(os:List AO)(K:AV->List AO->Prop):IK->Prop
 |.mv x=>K (C0 ρ x) os
 |.pick c a b=>match C0 ρ c with
  |.d (.bool t)=>(t=true->K (C0 ρ a) os)/\(t=false->K (C0 ρ b) os)
  |_=>False
 |.un op x=>match C0 ρ x with
  |.d x=>unD op x λr=>K (.d r) os
  |_=>False
 |.bin op x y=>A49 op (C0 ρ x) (C0 ρ y) λr=>K (.d r) os
 |.eqb neg x y=>match C0 ρ x,C0 ρ y with
  |.d (.bool a),.d (.bool b)=>K (.d (.bool (if neg then !(a==b) else a==b))) os
  |_,_=>False
 |.eqs neg ks x y=>match C0 ρ x,C0 ρ y with
  |.agg cs,.agg ds=>match eqL ks cs ds with
   |some b=>K (.d (.bool (if neg then !b else b))) os
   |none=>False
  |_,_=>False
 |.eqnil neg x=>match C0 ρ x with
  |.d .nil=>K (.d (.bool (!neg))) os
  |.d (.sl _)=>K (.d (.bool neg)) os
  |.arr id len=>match os[id]? with
   |some (.arr es sz frz nl)=>len=es.length/\K (.d (.bool (if neg then !nl else nl))) os
   |_=>False
  |_=>False
 |.conv k x=>match C0 ρ x with
  |.d (.int _ n)=>K (.d (.int k (k.wrap n))) os
  |_=>False
 |.cvs x=>match C0 ρ x with
  |.d (.str s)=>K (.d (.str s)) os
  |_=>False
 |.faddr off x=>k8 os off (C0 ρ x) λr=>K r os
 |.field off n agg x=>match C0 ρ x with
  |.agg cs=>if agg then off+n<=cs.length/\K (.agg ((cs.drop off).take n)) os else off<cs.length/\K (cs.getD off .junk) os
  |_=>False
 |.ixarr len sz x i=>match C0 ρ i with
  |.d (.int _ n)=>0<=n/\n<len/\k8 os (n.toNat*sz) (C0 ρ x) λr=>K r os
  |_=>False
 |.ixsl sz x i=>match C0 ρ i with
  |.d (.int _ n)=>(match C0 ρ x with
   |.d (.sl es)=>0<=n/\n<es.length/\(∀e∈es,e.length=sz)/\K (.dptr es n.toNat 0) os
   |.arr id len=>(match os[id]? with
    |some (.arr es sz' frz nl)=>len=es.length/\sz'=sz/\0<=n/\n<es.length/\nl=false/\K (.aptr id len n.toNat 0) os
    |_=>False)
   |.rs id len=>(match os[id]? with
    |some (.rarr es sz' nl)=>len=es.length/\sz'=sz/\0<=n/\n<es.length/\nl=false/\K (.rp id len n.toNat 0) os
    |_=>False)
   |_=>False)
  |_=>False
 |.ixstr x i=>match C0 ρ x,C0 ρ i with
  |.d (.str s),.d (.int _ n)=>0<=n/\n<s.length/\K (.d (.int .u8 (s.getD n.toNat 0).toNat)) os
  |_,_=>False
 |.ixval len sz agg x i=>match C0 ρ x,C0 ρ i with
  |.agg cs,.d (.int _ n)=>0<=n/\n<len/\(if agg then n.toNat*sz+sz<=cs.length/\K (.agg ((cs.drop (n.toNat*sz)).take sz)) os else sz=1/\n.toNat<cs.length/\K (cs.getD n.toNat .junk) os)
  |_,_=>False
 |.slstr x lo hi=>match C0 ρ x with
  |.d (.str s)=>V1 ρ hi s.length λh=>V1 ρ lo 0 λl=>0<=l/\l<=h/\h<=s.length/\K (.d (.str ((s.drop l.toNat).take (h.toNat-l.toNat)))) os
  |_=>False
 |.slsl sz x lo hi=>slI ρ os sz (C0 ρ x) lo hi K
 |.slsld sz x lo hi=>A2Z ρ sz (C0 ρ x) lo hi λr=>K r os
 |.stop=>False
 |.mkb f x=>match C0 ρ x with
  |.agg cs=>match A7x cs with
   |some vs=>K (.d (.lit (.func (.func f) ⟨[.agg ⟨vs⟩]⟩ ⟨[]⟩))) os
   |none=>False
  |.ptr id 0=>K (.bcl f id) os
  |_=>False
 |.build zs parts=>Q5 ρ parts (zs.map .d) λcs=>K (.agg cs) os
 |.bsl n sz zs parts=>Q5 ρ parts (((List.replicate n zs).flatten).map .d) λcs=>match n5 os cs with
  |some (xs,os1)=>K (.arr os1.length n) (os1++[.arr (S8 sz n xs) sz 0 false])\/(os1=os/\K (.d (.sl (S8 sz n xs))) os)
  |none=>False
 |.bsld n sz zs parts=>Q5 ρ parts (((List.replicate n zs).flatten).map .d) λcs=>match n5 os cs with
  |some (xs,os1)=>os1=os/\K (.d (.sl (S8 sz n xs))) os
  |none=>False
 |.clo f caps=>match caps with
  |[]=>K (.d (.fn f)) os
  |_=>match caps.mapM (λc=>A54 (C0 ρ c)) with
   |some ids=>K (.clo f ids) os
   |none=>False
 |.ext i x=>match C0 ρ x with
  |.tup vs=>i<vs.length/\K (vs.getD i .junk) os
  |_=>False
 |.lens x=>match C0 ρ x with
  |.d (.str s)=>K (.d (.int .i64 s.length)) os
  |_=>False
 |.len x=>match C0 ρ x with
  |.d .nil=>K (.d (.int .i64 0)) os
  |.d (.sl es)=>K (.d (.int .i64 es.length)) os
  |.arr id len=>match os[id]? with
   |some (.arr es sz frz nl)=>len=es.length/\K (.d (.int .i64 es.length)) os
   |_=>False
  |.rs id len=>match os[id]? with
   |some (.rarr es sz nl)=>len=es.length/\K (.d (.int .i64 es.length)) os
   |_=>False
  |_=>False
 |.lenk n=>K (.d (.int .i64 n)) os
 |.minmax mx x xs=>match C0 ρ x with
  |.d (.int k a)=>t8 mx k a (xs.map (C0 ρ)) λr=>K r os
  |_=>False
 |.load agg n x=>Y5 os agg n (C0 ρ x) λr=>K r os
 |.store n x v=>A1O os n (C0 ρ x) (C0 ρ v) λos'=>K .junk os'
 |.alloc zs=>K (.ptr os.length 0) (os++[.cells (zs.map .d)])
 |.box n x=>match (C0 ρ x).cells with
  |some xs=>xs.length=n/\K (.ptr os.length 0) (os++[.cells xs])
  |none=>False
 |.mksl sz bytes zs len cap=>match C0 ρ len,C0 ρ cap with
  |.d (.int _ l),.d (.int _ c)=>0<=l/\l<=c/\c*bytes<=140737488355328/\c<=9223372036854775807/\K (.arr os.length l.toNat) (os++[.arr (List.replicate l.toNat zs) sz 0 false])
  |_,_=>False
 |.app sz bytes s x=>match C0 ρ x with
  |.rs id2 n8=>match os[id2]? with
   |some (.rarr ns sz2 false)=>n8=ns.length/\0<ns.length/\A1q os sz bytes (C0 ρ s) ns K
   |_=>False
  |_=>p7 os (C0 ρ x) λns=>A0T os sz bytes (C0 ρ s) ns K
 |.call f args=>(match p8 os (args.map (C0 ρ)) with
  |some (as,os1)=>match C0 ρ f with
   |.d (.fn g)=>if as.any AV.ref then B9 P g as os1 K else B9 P g as [] λr os2=>K (shA os1.length r) (os1++os2.map (Y6 os1.length))
   |.clo g caps=>B9 P g (as++caps.map λid=>.ptr id 0) os1 K
   |.bcl g id=>B9 P g (.ptr id 0::as) os1 K
   |.d (.lit v)=>match A6m v with
    |some (g,ds)=>as.any AV.ref=false/\B9 P g (.agg (ds.map .d)::as) [] λr os2=>K (shA os1.length r) (os1++os2.map (Y6 os1.length))
    |none=>False
   |_=>False
  |none=>False)\/(match C0 ρ f with
   |.d (.fn g)=>(args.map (C0 ρ)).all AV.one=true/\B9 P g (args.map (C0 ρ)) os K
   |_=>False)
 |.calld f args=>match C0 ρ f with
  |.d (.fn g)=>(match Z5 os (args.map (C0 ρ)) with
   |some (as,os1)=>os1=os/\∃r,B9 P g as [] (λr' os2=>r'=r/\os2=[])/\K r os
   |none=>False)\/(match p8 os (args.map (C0 ρ)) with
   |some (as,os1)=>os1=os/\∃r,B9 P g as os (λr' os2=>r'=r/\os2=os)/\K r os
   |none=>False)
  |.bcl g id=>match p8 os (args.map (C0 ρ)) with
   |some (as,os1)=>os1=os/\∃r,B9 P g (.ptr id 0::as) os (λr' os2=>r'=r/\os2=os)/\K r os
   |none=>False
  |_=>False
 |.nilck x=>k8 os 0 (C0 ρ x) λr=>K r os
 |.callp f args=>match C0 ρ f with
  |.d (.fn g)=>(match Z5 os (args.map (C0 ρ)) with
   |some (as,os1)=>os1=os/\∃r,B9 P g as [] (λr' os2=>r'=r/\os2=[])/\K r os
   |none=>False)\/(match args.map (C0 ρ) with
   |.ptr id off::as=>match os[id]? with
    |some ob=>as.all AV.isDB=true/\∃r,(∀os2:List AO,os2[id]?=some ob->B9 P g (.ptr id off::as) os2 (λr' os3=>r'=r/\os3=os2))/\K r os
    |none=>False
   |_=>False)
  |_=>False
 |.callo f args=>match C0 ρ f with
  |.d (.fn g)=>match args.map (C0 ρ) with
   |.arr id len::as=>match os[id]? with
    |some (.arr es sz frz nl)=>as.all AV.isDB=true/\∃es' nl',(∀os2:List AO,os2[id]?=some (.arr es sz frz nl)->B9 P g (.arr id len::as) os2 λr os3=>r=.arr id es'.length/\os3=os2.set id (.arr es' sz frz nl'))/\K (.arr id es'.length) (os.set id (.arr es' sz frz nl'))
    |_=>False
   |as=>match Z5 os as with
    |some (as,os1)=>os1=os/\∃r,B9 P g as [] (λr' os2=>r'=r/\os2=[])/\K r os
    |none=>False
  |_=>False
 |.alloca id zs=>match os[id]? with
  |some .hole=>K (.ptr id 0) (os.set id (.cells (zs.map .d)))
  |_=>False
 |.boxa id n x=>match os[id]?,(C0 ρ x).cells with
  |some .hole,some xs=>xs.length=n/\K (.ptr id 0) (os.set id (.cells xs))
  |_,_=>False
 |.calln id f args=>match C0 ρ f with
  |.d (.fn g)=>match Z5 os (args.map (C0 ρ)) with
   |some (as,os1)=>os1=os/\os[id]?=some .hole/\((∃es sz nl,B9 P g as [] (λr os2=>r=.arr 0 es.length/\os2=[.arr es sz 0 nl])/\K (.arr id es.length) (os.set id (.arr es sz 0 nl)))\/∃r,B9 P g as [] (λr' os2=>r'=r/\os2=[])/\K r (os.set id .hole))
   |none=>False
  |_=>False
 |.bslr id n sz zs parts=>Q5 ρ parts (((List.replicate n zs).flatten).map .d) λcs=>match os[id]? with
  |some .hole=>K (B2n n id cs) (os.set id (B2m n sz cs))
  |_=>False
 |.mkmap=>K (.mp os.length) (os++[.map []])
 |.lkup sk ok g zs m k=>match C0 ρ m,C0 ρ k with
  |.mp id,.d key=>match os[id]? with
   |some (.map kvs)=>mok sk key kvs/\lkK os id (lkR ok (zv g zs) (A2Q sk key kvs)) λr=>K r os
   |_=>False
  |_,_=>False
 |.mupd sk m k v=>match C0 ρ m,C0 ρ k with
  |.mp id,.d key=>match os[id]? with
   |some (.map kvs)=>mok sk key kvs/\(C0 ρ v).one=true/\K .junk (os.set id (.map (A12 sk key (C0 ρ v) kvs)))
   |_=>False
  |_,_=>False
 |.rmap x=>match C0 ρ x with
  |.mp id=>match os[id]? with
   |some (.map kvs)=>K (.mit os.length) (os++[.mit id kvs.length []])
   |_=>False
  |_=>False
 |.nmap x=>match C0 ρ x with
  |.mit id=>match os[id]? with
   |some (.mit m n seen)=>match os[m]? with
    |some (.map kvs)=>n=kvs.length/\(∀(i:Nat) p,i∉ seen->kvs[i]?=some p->K (.tup [.d (.bool true),.d p.1,p.2]) (os.set id (.mit m n (seen++[i]))))/\((∀i,i<n->i∈seen)->K (.tup [.d (.bool false)]) os)
    |_=>False
   |_=>False
  |_=>False
 |.entry x=>match C0 ρ x with
  |.mit id=>match os[id]? with
   |some (.mit m n seen)=>match os[m]? with
    |some (.map kvs)=>n=kvs.length/\match seen.getLast? with
     |some i=>match kvs[i]? with
      |some p=>K (.tup [.d p.1,p.2]) os
      |none=>False
     |none=>False
    |_=>False
   |_=>False
  |_=>False
 |.rstr x=>match C0 ρ x with
  |.d (.str s)=>K (.iter os.length) (os++[.iter s 0])
  |_=>False
 |.nstr x=>match C0 ρ x with
  |.iter id=>match os[id]? with
   |some (.iter s p)=>
    (p<s.length->K (.tup [.d (.bool true),.d (.int .i64 p),.d (.int .i32 (Utf8.decode ⟨⟨s⟩⟩ p).1)]) (os.set id (.iter s (p+(Utf8.decode ⟨⟨s⟩⟩ p).2))))/\
    (s.length<=p->K (.tup [.d (.bool false)]) os)
   |_=>False
  |_=>False
def gI(ρ:D5)(g:Option (Nat×Bool))(yes no:Prop):Prop:=
 match g with
 |none=>yes
 |some (t,want)=>match ρ t with
  |.d (.bool b)=>(b=want->yes)/\(b=!want->no)
  |.tup []=>no
  |_=>False
def S5(P:Program)(o:D0)(ρ:D5)(os:List AO)(K:D5->List AO->Prop):Prop:=
 gI ρ o.guard (A7 P ρ os (λr os'=>K (updo o.dst r ρ) os') o.op) (K (updo o.dst (.tup []) ρ) os)
def A2f(P:Program):List D0->D5->List AO->(D5->List AO->Prop)->Prop
 |[],ρ,os,K=>K ρ os
 |o::rest,ρ,os,K=>S5 P o ρ os λρ' os'=>A2f P rest ρ' os' K
def toD:Value->Option D
 |.int k n=>some (.int k n)
 |.bool b=>some (.bool b)
 |.string s=>some (.str s.data.toList)
 |.slice none 0 0=>some .nil
 |.func (.func f) a b=>if a.size=0/\b.size=0 then some (.fn f) else none
 |.pointer none=>some (.lit (.pointer none))
 |.nilFunc=>some (.lit .nilFunc)
 |.nilIface=>some (.lit .nilIface)
 |.map none=>some (.lit (.map none))
 |_=>none
def cO:Operand->Option C1
 |.tmp t=>some (.t t)
 |.const (.agg cs)=>(cs.toList.mapM toD).map .g
 |.const v=>(toD v).map .c
 |.func f=>some (.c (.fn f))
 |.global _=>none
def M3(P:Program)(t:TypeId):Option Nat:=(P.info? t).map (·.size)
def tby(P:Program)(t:TypeId):Option Nat:=(P.info? t).map (·.bytes)
def tz(P:Program)(t:TypeId):Option (List D):=(P.info? t).bind λi=>i.zero.bind λz=>z.cells.toList.mapM toD
def tzv(P:Program)(t:TypeId):Option (Bool×List D):=(P.info? t).bind λi=>i.zero.bind λz=>match z with
 |.agg cs=>(cs.toList.mapM toD).map λl=>(true,l)
 |v=>(toD v).map λx=>(false,[x])
def P1(P:Program)(t:TypeId):Option Bool:=
 match P.underlying t with
 |some (.struct _)=>some true
 |some (.array _ _)=>some true
 |some _=>some false
 |none=>none
def A6S(P:Program)(fl:TypeId->Option (List SK)):Nat->List Field->Option (List SK)
 |_,[]=>some []
 |n,f::fs=>if f.name = "_" then none else if f.offset=n then match fl f.type,M3 P f.type with
  |some ks,some m=>if m=ks.length/\0<m then match A6S P fl (n+m) fs with
   |some r=>some (ks++r)
   |none=>none
   else none
  |_,_=>none else none
def flat(P:Program):Nat->TypeId->Option (List SK)
 |0,_=>none
 |d+1,t=>match P.underlying t with
  |some .bool=>some [.b]
  |some (.int _)=>some [.i]
  |some .string=>some [.s]
  |some (.struct fs)=>if P.stoodInHeld t then none else A6S P (flat P d) 0 fs.toList
  |some (.array n e)=>match flat P d e,M3 P e with
   |some ks,some m=>if m=ks.length then some (List.replicate n ks).flatten else none
   |_,_=>none
  |_=>none
def A3C:BinOp->Option Bool
 |.eql=>some false
 |.neq=>some true
 |_=>none
def A1v(place:Nat->Option (Nat×Nat)):List (Nat×Operand)->Option (List (Nat×Nat×C1))
 |[]=>some []
 |(i,x)::ps=>match place i,cO x,A1v place ps with
  |some (off,n),some x,some ps=>some ((off,n,x)::ps)
  |_,_,_=>none
def A1u:Option Operand->Option (Option C1)
 |none=>some none
 |some x=>(cO x).map some
def B2H(P:Program)(t:TypeId):Option (Nat->Option (Nat×Nat)):=
 match P.underlying t with
 |some (.struct fs)=>(fs.toList.mapM λf=>(M3 P f.type).map λn=>(f.offset,n)).map λl i=>l[i]?
 |some (.array _ e)=>(M3 P e).map λn i=>some (i*n,n)
 |_=>none
def A6s(P:Program)(op:BinOp)(t:TypeId)(x y:C1):Option IK:=
 match flat P 100 t with
 |some ks=>if P.eqGuardType P.depth t=false then (A3C op).map λn=>.eqs n ks x y else none
 |none=>none
def A6o(P:Program)(op:BinOp)(t:TypeId)(x y:Operand):Option IK:=
 match cO x,cO y with
 |some x',some y'=>match P.underlying t with
  |some (.int _)=>some (.bin op x' y')
  |some .string=>some (.bin op x' y')
  |some .bool=>(A3C op).map λn=>.eqb n x' y'
  |some (.struct _)=>A6s P op t x' y'
  |some (.array _ _)=>A6s P op t x' y'
  |some (.slice _)=>match y' with
   |.c .nil=>(A3C op).map λn=>.eqnil n x'
   |_=>none
  |_=>none
 |_,_=>none
def A6q(P:Program)(b:Builtin)(args:List Operand)(ts:List TypeId):Option IK:=
 match b,args,ts with
 |.len,[x],[t]=>match P.underlying t with
  |some .string=>(cO x).map .lens
  |some (.slice _)=>(cO x).map .len
  |some (.array n _)=>some (.lenk n)
  |_=>none
 |.append,[s,x],[t,t']=>match P.underlying t with
  |some (.slice e)=>if t=t' then match cO s,cO x,M3 P e,tby P e,tz P e with
    |some s,some x,some sz,some by_,some zs=>if 0<sz/\zs.length=sz then some (.app sz by_ s x) else none
    |_,_,_,_,_=>none else none
  |_=>none
 |.min,x::xs,_=>match cO x,xs.mapM cO with
  |some x,some xs=>some (.minmax false x xs)
  |_,_=>none
 |.max,x::xs,_=>match cO x,xs.mapM cO with
  |some x,some xs=>some (.minmax true x xs)
  |_,_=>none
 |_,_,_=>none
def A5s(P:Program)(t:TypeId):Option SK:=match P.underlying t with
 |some (.int _)=>some .i
 |some .string=>some .s
 |some .bool=>some .b
 |_=>none
def A09(P:Program)(draw:Bool)(op:Op):Option IK:=
 match op with
 |.move x=>(cO x).map .mv
 |.assign x=>(cO x).map .mv
 |.pick c a b=>match cO c,cO a,cO b with
  |some c,some a,some b=>some (.pick c a b)
  |_,_,_=>none
 |.alloc e=>(tz P e).map .alloc
 |.box e x=>match M3 P e,cO x with
  |some n,some x=>some (.box n x)
  |_,_=>none
 |.build t parts=>match tz P t,B2H P t with
  |some zs,some pl=>(A1v pl parts.toList).map (.build zs)
  |_,_=>none
 |.buildSlice t len parts=>match P.underlying t with
  |some (.slice e)=>match M3 P e,tz P e with
   |some sz,some zs=>if 0<sz/\zs.length=sz/\len*sz<=16777216 then (A1v (λi=>some (i*sz,sz)) parts.toList).map (if draw then .bsld len sz zs else .bsl len sz zs) else none
   |_,_=>none
  |_=>none
 |.load t a=>match P1 P t,M3 P t,cO a with
  |some g,some n,some a=>some (.load g n a)
  |_,_,_=>none
 |.store t a v=>match M3 P t,cO a,cO v with
  |some n,some a,some v=>some (.store n a v)
  |_,_,_=>none
 |.binOp op t x y _=>A6o P op t x y
 |.unOp op _ x=>(cO x).map (.un op)
 |.convert s d x=>match P.underlying s,P.underlying d with
  |some (.int _),some (.int k)=>(cO x).map (.conv k)
  |some .string,some .string=>(cO x).map .cvs
  |_,_=>none
 |.slice t x lo hi none=>match P.underlying t with
  |some .string=>match cO x,A1u lo,A1u hi with
   |some x,some lo,some hi=>some (.slstr x lo hi)
   |_,_,_=>none
  |some (.slice e)=>match cO x,A1u lo,A1u hi,M3 P e with
   |some x,some lo,some hi,some sz=>some (if draw then .slsld sz x lo hi else .slsl sz x lo hi)
   |_,_,_,_=>none
  |_=>none
 |.fieldAddr s x f=>match P.underlying s with
  |some (.struct fs)=>match fs[f]?,cO x with
   |some fd,some x=>match M3 P fd.type with
    |some (_+1)=>some (.faddr fd.offset x)
    |_=>none
   |_,_=>none
  |_=>none
 |.field t x f=>match P.underlying t with
  |some (.struct fs)=>match fs[f]?,cO x with
   |some fd,some x=>match M3 P fd.type,P1 P fd.type with
    |some n,some g=>some (.field fd.offset n g x)
    |_,_=>none
   |_,_=>none
  |_=>none
 |.indexAddr t x i=>match P.underlying t with
  |some (.array n e)=>match M3 P e,cO x,cO i with
   |some sz,some x,some i=>some (.ixarr n sz x i)
   |_,_,_=>none
  |some (.slice e)=>match M3 P e,cO x,cO i with
   |some sz,some x,some i=>some (.ixsl sz x i)
   |_,_,_=>none
  |_=>none
 |.index t x i=>match P.underlying t with
  |some (.array n e)=>match M3 P e,P1 P e,cO x,cO i with
   |some sz,some g,some x,some i=>some (.ixval n sz g x i)
   |_,_,_,_=>none
  |some .string=>match cO x,cO i with
   |some x,some i=>some (.ixstr x i)
   |_,_=>none
  |_=>none
 |.makeFunc (.func f) first caps=>if first.size=0 then (caps.toList.mapM cO).map (.clo f) else match first.toList,caps.toList with
  |[x],[]=>(cO x).map (.mkb f)
  |_,_=>none
 |.extract x i=>(cO x).map (.ext i)
 |.nilCheck x=>(cO x).map .nilck
 |.makeSlice t l c=>match P.underlying t with
  |some (.slice e)=>match M3 P e,tby P e,tz P e,cO l,cO c with
   |some sz,some by_,some zs,some l,some c=>if 0<sz/\zs.length=sz then some (.mksl sz by_ zs l c) else none
   |_,_,_,_,_=>none
  |_=>none
 |.call c=>match c.callee with
  |.value f=>match cO f,c.args.toList.mapM cO with
   |some f,some args=>some (if draw then .calld f args else .call f args)
   |_,_=>none
  |.builtin b=>A6q P b c.args.toList c.argTypes.toList
  |_=>none
 |.range t x=>match P.underlying t with
  |some .string=>(cO x).map .rstr
  |some (.map _ _)=>(cO x).map .rmap
  |_=>none
 |.next it false=>(cO it).map .nmap
 |.entry it=>(cO it).map .entry
 |.makeMap _ none=>some .mkmap
 |.lookup t m k ok=>match P.underlying t with
  |some (.map kt e)=>match A5s P kt,tzv P e,cO m,cO k with
   |some sk,some (g,zs),some m,some k=>some (.lkup sk ok g zs m k)
   |_,_,_,_=>none
  |_=>none
 |.mapUpdate t m k v=>match P.underlying t with
  |some (.map kt e)=>match A5s P kt,cO m,cO k,cO v with
   |some sk,some m,some k,some v=>some (.mupd sk m k v)
   |_,_,_,_=>none
  |_=>none
 |.next it true=>(cO it).map .nstr
 |_=>none
def A8B(ops:List Oper):Option (Nat×Bool)->Option (Option (Nat×Bool))
 |none=>some none
 |some (j,want)=>match ops[j]? with
  |some o=>o.dst.map λt=>some (t,want)
  |none=>none
def B1O(n:Nat):Option Nat->Bool
 |some t=>decide (t<n)
 |none=>true
def cIK(P:Program)(draw:Bool)(op:Op):Option IK:=some (match A09 P draw op with
 |some k=>k
 |none=>.stop)
theorem A3k{P:Program}{draw:Bool}{op:Op}{k:IK}(h:cIK P draw op=some k)(hk:k≠.stop):A09 P draw op=some k:=by
 unfold cIK at h
 injection h with h
 split at h
 ·subst h;assumption
 ·exact absurd h.symm hk
def cOp(P:Program)(n:Nat)(draw:Bool)(ops:List Oper)(o:Oper):Option D0:=
 match cIK P draw o.op,A8B ops o.guard with
 |some k,some g=>if B1O n o.dst=true then some {dst:=o.dst,guard:=g,op:=k} else none
 |_,_=>none
def IK.rd:IK->Bool
 |.faddr ..|.ixarr ..|.eqnil ..|.ixsl ..|.slsl ..|.len ..|.load ..|.store ..|.alloc ..|.box ..|.mksl ..|.app ..|.call ..|.calld ..|.bsl ..|.bsld ..|.rstr ..|.nstr ..|.nilck ..|.callp ..|.callo ..|.alloca ..|.boxa ..|.calln ..|.bslr ..|.mkmap|.lkup ..|.mupd ..|.rmap ..|.nmap ..|.entry ..=>true
 |_=>false
def IK.wr:IK->Bool
 |.slsl ..|.store ..|.alloc ..|.box ..|.mksl ..|.app ..|.call ..|.bsl ..|.rstr ..|.nstr ..|.alloca ..|.boxa ..|.calln ..|.callo ..|.bslr ..|.mkmap|.mupd ..|.rmap ..|.nmap ..=>true
 |_=>false
def C1.tmps:C1->List Nat
 |.t n=>[n]
 |_=>[]
def IK.opds:IK->List C1
 |.mkb _ x|.mv x|.un _ x|.eqnil _ x|.conv _ x|.cvs x|.faddr _ x|.field _ _ _ x|.ext _ x|.len x|.lens x|.load _ _ x|.box _ x|.rstr x|.nstr x|.nilck x|.boxa _ _ x|.rmap x|.nmap x|.entry x=>[x]
 |.pick a b c=>[a,b,c]
 |.bin _ x y|.eqb _ x y|.eqs _ _ x y|.ixarr _ _ x y|.ixsl _ x y|.ixstr x y|.ixval _ _ _ x y|.store _ x y|.mksl _ _ _ x y|.app _ _ x y|.lkup _ _ _ _ x y=>[x,y]
 |.mupd _ a b c=>[a,b,c]
 |.slstr x l h|.slsl _ x l h|.slsld _ x l h=>x::(l.toList++h.toList)
 |.build _ ps|.bsl _ _ _ ps|.bsld _ _ _ ps|.bslr _ _ _ _ ps=>ps.map (·.2.2)
 |.clo _ cs=>cs
 |.minmax _ x xs=>x::xs
 |.call f args|.calld f args|.callp f args|.callo f args|.calln _ f args=>f::args
 |.lenk _|.alloc _|.alloca _ _|.mkmap|.stop=>[]
def D0.looks(o:D0):List Nat:=(match o.guard with|some (t,_)=>[t]|none=>[])++o.op.opds.flatMap C1.tmps
def IK.det:IK->Bool
 |.call ..=>false
 |.nmap ..=>false
 |_=>true
def D0.apart(x y:D0):Bool:=x.op.det&&y.op.det &&
 (match x.dst with|some d=>!(y.looks.contains d)&&y.dst != some d|none=>true) &&
 (match y.dst with|some d=>!(x.looks.contains d)|none=>true) &&
 !(x.op.wr&&y.op.rd)&&!(x.op.rd&&y.op.wr)
def A6j(J2:List Nat)(es:List Edge):Nat:=es.foldl (λs e=>if Region.binds .any e then s|||2 ^ e.on|||J2.getD e.on 0 else s) 0
def W6(J2:List Nat):List Oper->List Nat
 |[]=>J2
 |o::l=>W6 (J2++[A6j J2 o.after.toList]) l
def A8O(ops:List Oper)(is:List D0):Bool:=
 let b:=W6 [] ops
 is.all (λo=>o.op.det)&&(List.range ops.length).all (λi=>match ops[i]? with|some o=>o.after.toList.all (λe=>decide (e.on<i)||!Region.binds .any e)|none=>true) &&
 (List.range is.length).all λj=>(List.range j).all λi=>(b.getD j 0).testBit i||(is.getD i default).apart (is.getD j default)
def Q3(ow ap:C1->Bool)(br:List (Nat×Nat×C1)->Bool):List D0->Nat->List D0
 |[],_=>[]
 |o::is,k=>match o.op with
  |.alloc zs=>{o with op:=.alloca k zs}::Q3 ow ap br is (k+1)
  |.box n x=>{o with op:=.boxa k n x}::Q3 ow ap br is (k+1)
  |.calld f args=>if ow f then {o with op:=.calln k f args}::Q3 ow ap br is (k+1) else if ap f then {o with op:=.callo f args}::Q3 ow ap br is k else {o with op:=.callp f args}::Q3 ow ap br is k
  |.bsld n sz zs ps=>if br ps then {o with op:=.bslr k n sz zs ps}::Q3 ow ap br is (k+1) else o::Q3 ow ap br is k
  |_=>o::Q3 ow ap br is k
def A1F(ow:C1->Bool)(br:List (Nat×Nat×C1)->Bool):List D0->Nat
 |[]=>0
 |o::is=>match o.op with
  |.alloc _=>A1F ow br is+1
  |.box _ _=>A1F ow br is+1
  |.calld f _=>if ow f then A1F ow br is+1 else A1F ow br is
  |.bsld _ _ _ ps=>if br ps then A1F ow br is+1 else A1F ow br is
  |_=>A1F ow br is
def D0.at(b:Nat)(o:D0):D0:=match o.op with
 |.alloca k zs=>{o with op:=.alloca (b+k) zs}
 |.boxa k n x=>{o with op:=.boxa (b+k) n x}
 |.calln k f args=>{o with op:=.calln (b+k) f args}
 |.bslr k n sz zs ps=>{o with op:=.bslr (b+k) n sz zs ps}
 |_=>o
def A4r(P:Program):C1->Bool
 |.c (.fn f)=>match P.funcs[f]? with
  |some fn=>match fn.params.toList,fn.resultTypes.toList with
   |[t],[r]=>decide (t=r)&&(match P.underlying t with|some (.slice _)=>true|_=>false)
   |_,_=>false
  |none=>false
 |_=>false
def A6k(P:Program):C1->Bool
 |.c (.fn f)=>match P.funcs[f]? with
  |some fn=>match fn.params.toList,fn.resultTypes.toList with
   |t::_::_,[r]=>decide (t=r)&&(match P.underlying t with|some (.slice _)=>true|_=>false)
   |_,_=>false
  |none=>false
 |_=>false
def C06(P:Program)(is:List D0):Bool:=is.any λo=>match o.op with
 |.calld f _=>A6k P f
 |_=>false
def C07(P:Program)(is:List D0):Bool:=is.any λo=>match o.op with
 |.calld f _=>A4r P f
 |_=>false
def D8w(P:Program)(is:List D0)(ps:List (Nat×Nat×C1)):Bool:=
 let ts:=is.foldl (λ(a:List Nat) o=>match o.dst with
  |some d=>if (match o.op with|.calld f _=>A4r P f|_=>o.op.opds.any λx=>x.tmps.any a.contains) then d::a else a
  |none=>a) []
 ps.any λp=>p.2.2.tmps.any ts.contains
def A71(P:Program)(is:List D0)(ps:List (Nat×Nat×C1)):Bool:=ps.isEmpty||D8w P is ps
def D0.apartS(x y:D0):Bool:=x.op.det&&y.op.det &&
 (match x.dst with|some d=>!(y.looks.contains d)&&y.dst != some d|none=>true) &&
 (match y.dst with|some d=>!(x.looks.contains d)|none=>true)
def C38(b:List Nat)(is:List D0):List (Nat×Nat):=
 (List.range is.length).flatMap λj=>((List.range j).filter λi=>!((b.getD j 0).testBit i||(is.getD i default).apart (is.getD j default))).map λi=>(i,j)
def A3t(ops:List Oper)(is:List D0)(ps:List (Nat×Nat)):Bool:=
 let b:=W6 [] ops
 is.all (λo=>o.op.det)&&(List.range ops.length).all (λi=>match ops[i]? with|some o=>o.after.toList.all (λe=>decide (e.on<i)||!Region.binds .any e)|none=>true) &&
 (List.range is.length).all λj=>(List.range j).all λi=>(b.getD j 0).testBit i||((is.getD i default).apartS (is.getD j default)&&(ps.contains (i,j)||(is.getD i default).apart (is.getD j default)))
def D0.isMv(o:D0):Bool:=o.guard.isNone&&match o.op with|.mv _=>true|_=>false
def D0.apartM(x y:D0):Bool:=(x.isMv||y.isMv) &&
 (match x.dst with|some d=>!(y.looks.contains d)&&y.dst != some d|none=>true) &&
 (match y.dst with|some d=>!(x.looks.contains d)|none=>true)
def A5b(ops:List Oper)(is:List D0):Bool:=
 let b:=W6 [] ops
 (List.range ops.length).all (λi=>match ops[i]? with|some o=>o.after.toList.all (λe=>decide (e.on<i)||!Region.binds .any e)|none=>true) &&
 (List.range is.length).all λj=>(List.range j).all λi=>(b.getD j 0).testBit i||(is.getD i default).apart (is.getD j default)||(is.getD i default).apartM (is.getD j default)
def B3e(b:List Nat)(is:List D0)(j:Nat)(o:D0):D0:=match o.op with
 |.calld f args=>if (List.range is.length).all λi=>decide (i=j)||(is.getD i default).isMv||(if i<j then (b.getD j 0).testBit i else (b.getD i 0).testBit j) then {o with op:=.call f args} else o
 |_=>o
def A5K(b:List Nat)(is:List D0):List D0:=is.mapIdx (B3e b is)
def D4z(is:List D0):Bool:=is.any λo=>match o.op with
 |.app _ _ (.t d) _=>is.any λo'=>match o'.op with
  |.calld ..=>o'.dst==some d
  |_=>false
 |_=>false
def C33(P:Program)(ops:List Oper)(is:List D0):Bool:=!C07 P is&&!C06 P is&&D4z is&&A5b ops (A5K (W6 [] ops) is)
def cC(P:Program)(n:Nat):Code->Option IC
 |.skip=>some .skip
 |.region _ ops draw=>match ops.toList.mapM (cOp P n draw ops.toList) with
  |some is=>if draw then (if C33 P ops.toList is=true then some (.region (A5K (W6 [] ops.toList) is)) else if C07 P is=false/\C06 P is=false/\A8O ops.toList is=true then some (.region is) else if A3t ops.toList (Q3 (A4r P) (A6k P) (A71 P is) is 0) (C38 (W6 [] ops.toList) (Q3 (A4r P) (A6k P) (A71 P is) is 0)) then some (.dreg (A1F (A4r P) (A71 P is) is) (C38 (W6 [] ops.toList) (Q3 (A4r P) (A6k P) (A71 P is) is 0)) (Q3 (A4r P) (A6k P) (A71 P is) is 0)) else none) else some (.region is)
  |none=>none
 |.seq a b=>match cC P n a,cC P n b with
  |some a,some b=>some (.seq a b)
  |_,_=>none
 |.cond c x y=>match cO c,cC P n x,cC P n y with
  |some c,some x,some y=>some (.cond c x y)
  |_,_,_=>none
 |.block id c=>(cC P n c).map (.block id)
 |.loop c=>(cC P n c).map .loop
 |.exit id=>some (.exit id)
 |.ret=>some .ret
 |.scope c=>cC P n c
 |_=>none
end Go.Bi
