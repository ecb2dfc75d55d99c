/- The compiled form of the code, what it does to abstract states, and the translation from the model's code. No condition. -/
import Derived.Test.YtnhhopmldgpglaaGreatBB
set_option linter.unusedVariables false
namespace Go.Bi
set_option linter.unusedSectionVars false
variable [K6]
inductive B7 where
 |t (n:Nat)
 |c (x:D)
 |g (cs:List D)
 deriving Inhabited
inductive SK where
 |i|b|s
 deriving Inhabited,DecidableEq
inductive IK where
 |mv (x:B7)
 |pick (c a b:B7)
 |un (op:UnOp) (x:B7)
 |bin (op:BinOp) (x y:B7)
 |eqb (neg:Bool) (x y:B7)
 |eqs (neg:Bool) (ks:List SK) (x y:B7)
 |eqnil (neg:Bool) (x:B7)
 |conv (k:IntKind) (x:B7)
 |cvs (x:B7)
 |faddr (off:Nat) (x:B7)
 |field (off n:Nat) (agg:Bool) (x:B7)
 |ixarr (len sz:Nat) (x i:B7)
 |ixsl (sz:Nat) (x i:B7)
 |ixstr (x i:B7)
 |ixval (len sz:Nat) (agg:Bool) (x i:B7)
 |slstr (x:B7) (lo hi:Option B7)
 |slsl (sz:Nat) (x:B7) (lo hi:Option B7)
 |build (zs:List D) (parts:List (Nat×Nat×B7))
 |bsl (n sz:Nat) (zs:List D) (parts:List (Nat×Nat×B7))
 |bsld (n sz:Nat) (zs:List D) (parts:List (Nat×Nat×B7))
 |clo (f:FuncId) (caps:List B7)
 |ext (i:Nat) (x:B7)
 |len (x:B7)
 |lens (x:B7)
 |lenk (n:Nat)
 |minmax (mx:Bool) (x:B7) (xs:List B7)
 |load (agg:Bool) (n:Nat) (x:B7)
 |store (n:Nat) (x v:B7)
 |alloc (zs:List D)
 |box (n:Nat) (x:B7)
 |mksl (sz bytes:Nat) (zs:List D) (len cap:B7)
 |app (sz bytes:Nat) (s x:B7)
 |call (f:B7) (args:List B7)
 |calld (f:B7) (args:List B7)
 |rstr (x:B7)
 |nstr (x:B7)
 |nilck (x:B7)
 |alloca (id:Nat) (zs:List D)
 |callp (f:B7) (args:List B7)
 |boxa (id n:Nat) (x:B7)
 |calln (id:Nat) (f:B7) (args:List B7)
 |bslr (id n sz:Nat) (zs:List D) (parts:List (Nat×Nat×B7))
 |mkmap
 |lkup (sk:SK) (ok g:Bool) (zs:List D) (m k:B7)
 |mupd (sk:SK) (m k v:B7)
 |rmap (x:B7)
 |nmap (x:B7)
 |entry (x:B7)
 |slsld (sz:Nat) (x:B7) (lo hi:Option B7)
 |stop
 |mkb (f:FuncId) (x:B7)
 deriving Inhabited
structure D4 where
 dst:Option Nat
 guard:Option (Nat×Bool)
 op:IK
 deriving Inhabited
inductive IC where
 |skip
 |region (ops:List D4)
 |dreg (h:Nat) (ps:List (Nat×Nat)) (ops:List D4)
 |seq (a b:IC)
 |cond (c:B7) (x y:IC)
 |block (id:Nat) (c:IC)
 |loop (c:IC)
 |exit (id:Nat)
 |ret
 deriving Inhabited
abbrev C7:=Nat->AV
def upd(t:Nat)(v:AV)(ρ:C7):C7:=λs=>if s=t then v else ρ s
def updo(t:Option Nat)(v:AV)(ρ:C7):C7:=match t with|some t=>upd t v ρ|none=>ρ
def B9(ρ:C7):B7->AV
 |.t n=>ρ n
 |.c x=>.d x
 |.g cs=>.agg (cs.map .d)
def A0L(os:List AO):AV->Option (D×List AO)
 |.d x=>some (x,os)
 |.arr id len=>match os[id]? with
  |some (.arr es sz frz nl)=>if len=es.length then some (if nl then .nil else .sl es,os.set id (.arr es sz es.length nl)) else none
  |_=>none
 |_=>none
def n7(os:List AO):List AV->Option (List D×List AO)
 |[]=>some ([],os)
 |c::cs=>match A0L os c with
  |some (x,os1)=>match n7 os1 cs with
   |some (xs,os2)=>some (x::xs,os2)
   |none=>none
  |none=>none
def A1h(os:List AO):AV->Option (AV×List AO)
 |.agg cs=>match n7 os cs with
  |some (xs,os1)=>some (.agg (xs.map .d),os1)
  |none=>none
 |a=>match A0L os a with
  |some (x,os1)=>some (.d x,os1)
  |none=>none
def n8(os:List AO):List AV->Option (List AV×List AO)
 |[]=>some ([],os)
 |c::cs=>match A1h os c with
  |some (x,os1)=>match n8 os1 cs with
   |some (xs,os2)=>some (x::xs,os2)
   |none=>none
  |none=>none
def D3U(os:List AO):AV->Option (AV×List AO)
 |.tup cs=>match n8 os cs with
  |some (xs,os1)=>some (.tup xs,os1)
  |none=>none
 |a=>A1h os a
def AV.ref1:AV->Bool
 |.ptr ..=>true
 |.aptr ..=>true
 |.dptr ..=>true
 |.clo ..=>true
 |.iter ..=>true
 |.mp ..=>true
 |.mit ..=>true
 |.rs ..=>true
 |.rp ..=>true
 |_=>false
def AV.ref:AV->Bool
 |.agg cs=>cs.any AV.ref1
 |a=>a.ref1
def AV.one:AV->Bool
 |.tup _=>false
 |.junk=>false
 |_=>true
def A0q(os:List AO):List AV->Option (List AV×List AO)
 |[]=>some ([],os)
 |c::cs=>if c.ref then match A0q os cs with
   |some (xs,os2)=>some (c::xs,os2)
   |none=>none
  else match A1h os c with
  |some (x,os1)=>match A0q os1 cs with
   |some (xs,os2)=>some (x::xs,os2)
   |none=>none
  |none=>none
def l7(n:Nat):AV->AV
 |.ptr id off=>.ptr (id+n) off
 |.aptr id len i off=>.aptr (id+n) len i off
 |.arr id len=>.arr (id+n) len
 |.clo f caps=>.clo f (caps.map (·+n))
 |.iter id=>.iter (id+n)
 |.mp id=>.mp (id+n)
 |.mit id=>.mit (id+n)
 |.rs id len=>.rs (id+n) len
 |.rp id len i off=>.rp (id+n) len i off
 |a=>a
def shG(n:Nat):AV->AV
 |.agg cs=>.agg (cs.map (l7 n))
 |a=>l7 n a
def shA(n:Nat):AV->AV
 |.tup cs=>.tup (cs.map (shG n))
 |a=>shG n a
def U5(n:Nat):AO->AO
 |.cells cs=>.cells (cs.map (l7 n))
 |.map kvs=>.map (kvs.map λp=>(p.1,shG n p.2))
 |.mit m k s=>.mit (m+n) k s
 |.rarr es sz nl=>.rarr (es.map λe=>e.map (l7 n)) sz nl
 |o=>o
def Enters(P:Program)(f:FuncId):Prop:=∃fn,P.funcs[f]?=some fn/\fn.body.isSome=true/\fn.name≠ "runtime.NumGoroutine"
def B4(P:Program)(f:FuncId)(args:List AV)(bs:List AO)(Q:AV->List AO->Prop):Prop:=
 Enters P f/\∀(M:C5) (G:Gh) (w:World) (vs:Array Value),C3 M G bs w->vs.size=args.length->(∀(j:Nat) a v,args[j]?=some a->vs[j]?=some v->VG M G bs a v)->
  Calls P f vs w λe w'=>∃v,e=.returned v/\∃M' G' r os',C3 M' G' os' w'/\E3 M G bs w M' G' os' w'/\VA M' G' os' r v/\Q r os'
def AV.cells:AV->Option (List AV)
 |.agg cs=>some cs
 |.tup _=>none
 |.junk=>none
 |a=>some [a]
def J8{α:Type}(cs:List α)(off:Nat)(ps:List α):List α:=cs.take off++ps++cs.drop (off+ps.length)
def O7(ρ:C7):List (Nat×Nat×B7)->List AV->(List AV->Prop)->Prop
 |[],cs,K=>K cs
 |(off,n,x)::ps,cs,K=>match (B9 ρ x).cells with
  |some xs=>xs.length=n/\off+n<=cs.length/\O7 ρ ps (J8 cs off xs) K
  |none=>False
def R9{α:Type}(sz:Nat):Nat->List α->List (List α)
 |0,_=>[]
 |n+1,l=>l.take sz::R9 sz n (l.drop sz)
def unD(op:UnOp)(x:D)(K:D->Prop):Prop:=
 match op,x with
 |.neg,.int k n=>K (.int k (k.wrap (0-n)))
 |.xor,.int k n=>K (.int k (k.wrap (BitVec.ofInt k.bits (if k.signed then -1 else k.max) ^^^ BitVec.ofInt k.bits n).toNat))
 |.not,.bool b=>K (.bool !b)
 |_,_=>False
def A1L(op:BinOp)(k:IntKind)(a b:Int)(K:D->Prop):Prop:=
 match op with
 |.add=>K (.int k (k.wrap (a+b)))
 |.sub=>K (.int k (k.wrap (a-b)))
 |.mul=>K (.int k (k.wrap (a*b)))
 |.quo=>b≠0/\K (.int k (k.wrap (a.tdiv b)))
 |.rem=>b≠0/\K (.int k (a.tmod b))
 |.and=>K (.int k (k.wrap (BitVec.ofInt k.bits a &&& BitVec.ofInt k.bits b).toNat))
 |.or=>K (.int k (k.wrap (BitVec.ofInt k.bits a|||BitVec.ofInt k.bits b).toNat))
 |.xor=>K (.int k (k.wrap (BitVec.ofInt k.bits a ^^^ BitVec.ofInt k.bits b).toNat))
 |.andNot=>K (.int k (k.wrap (BitVec.ofInt k.bits a &&& ~~~ BitVec.ofInt k.bits b).toNat))
 |.eql=>K (.bool (a==b))
 |.neq=>K (.bool (a != b))
 |.lss=>K (.bool (a<b))
 |.leq=>K (.bool (a<=b))
 |.gtr=>K (.bool (a > b))
 |.geq=>K (.bool (a>=b))
 |_=>False
def A2e(op:BinOp)(x y:List UInt8)(K:D->Prop):Prop:=
 match op with
 |.add=>x.length+y.length<=9223372036854775807/\K (.str (x++y))
 |.eql=>K (.bool (x==y))
 |.neq=>K (.bool !(x==y))
 |.lss=>K (.bool (Op.bytesLess x y))
 |.leq=>K (.bool (Op.bytesLess x y||x==y))
 |.gtr=>K (.bool !(Op.bytesLess x y||x==y))
 |.geq=>K (.bool !(Op.bytesLess x y))
 |_=>False
def A2R(op:BinOp)(x y:AV)(K:D->Prop):Prop:=
 match x,y with
 |.d (.int k a),.d (.int k' b)=>match op with
  |.shl=>0<=b/\K (.int k (k.wrap (a*2 ^ (min b.toNat k.bits))))
  |.shr=>0<=b/\K (.int k (a.fdiv (2 ^ (min b.toNat k.bits))))
  |op=>k=k'/\A1L op k a b K
 |.d (.str s),.d (.str t)=>A2e op s t K
 |_,_=>False
def Y6:SK->D->D->Option Bool
 |.i,.int k a,.int k' b=>if k=k' then some (a==b) else none
 |.b,.bool a,.bool b=>some (a==b)
 |.s,.str a,.str b=>some (a==b)
 |_,_,_=>none
def eqL:List SK->List AV->List AV->Option Bool
 |[],[],[]=>some true
 |k::ks,.d x::xs,.d y::ys=>match Y6 k x y,eqL ks xs ys with
  |some a,some b=>some (a&&b)
  |_,_=>none
 |_,_,_=>none
def V1(os:List AO)(agg:Bool)(n:Nat)(x:AV)(K:AV->Prop):Prop:=
 match x with
 |.ptr id off=>match os[id]? with
  |some (.cells cs)=>if agg then off+n<=cs.length/\K (.agg ((cs.drop off).take n)) else off<cs.length/\K (cs.getD off .junk)
  |_=>False
 |.aptr id len i off=>match os[id]? with
  |some (.arr es sz frz nl)=>len=es.length/\i<es.length/\nl=false/\
   (if agg then off+n<=sz/\K (.agg ((((es.getD i []).drop off).take n).map .d)) else off<sz/\K (.d ((es.getD i []).getD off .nil)))
  |_=>False
 |.rp id len i off=>match os[id]? with
  |some (.rarr es sz nl)=>len=es.length/\i<es.length/\nl=false/\
   (if agg then off+n<=sz/\K (.agg (((es.getD i []).drop off).take n)) else off<sz/\K ((es.getD i []).getD off .junk))
  |_=>False
 |.dptr es i off=>i<es.length/\
   (if agg then off+n<=(es.getD i []).length/\K (.agg ((((es.getD i []).drop off).take n).map .d)) else off<(es.getD i []).length/\K (.d ((es.getD i []).getD off .nil)))
 |_=>False
def A0T(os:List AO)(n:Nat)(x v:AV)(K:List AO->Prop):Prop:=
 match v.cells with
 |none=>False
 |some vc=>match x with
 |.ptr id off=>match os[id]? with
  |some (.cells cs)=>vc.length=n/\off+n<=cs.length/\K (os.set id (.cells (J8 cs off vc)))
  |_=>False
 |.aptr id len i off=>match n7 os vc with
  |some (xs,os1)=>match os1[id]? with
   |some (.arr es sz frz nl)=>len=es.length/\frz<=i/\i<es.length/\nl=false/\xs.length=n/\off+n<=sz/\K (os1.set id (.arr (es.set i (J8 (es.getD i []) off xs)) sz frz nl))
   |_=>False
  |none=>False
 |_=>False
def S3(ρ:C7)(x:Option B7)(dflt:Nat)(K:Int->Prop):Prop:=
 match x with
 |none=>K dflt
 |some x=>match B9 ρ x with
  |.d (.int _ n)=>K n
  |_=>False
def slI(ρ:C7)(os:List AO)(sz:Nat)(x:AV)(lo hi:Option B7)(K:AV->List AO->Prop):Prop:=
 match A0L os x with
 |some (.sl es,os1)=>S3 ρ hi es.length λh=>S3 ρ lo 0 λl=>
   0<=l/\l<=h/\h<=es.length/\(∀e∈es,e.length=sz)/\K (.d (.sl ((es.drop l.toNat).take (h.toNat-l.toNat)))) os1
 |some (.nil,os1)=>S3 ρ hi 0 λh=>S3 ρ lo 0 λl=>l=0/\h=0/\K (.d .nil) os1
 |_=>False
def A1Y(ρ:C7)(sz:Nat)(x:AV)(lo hi:Option B7)(K:AV->Prop):Prop:=
 match x with
 |.d (.sl es)=>S3 ρ hi es.length λh=>S3 ρ lo 0 λl=>
   0<=l/\l<=h/\h<=es.length/\(∀e∈es,e.length=sz)/\K (.d (.sl ((es.drop l.toNat).take (h.toNat-l.toNat))))
 |.d .nil=>S3 ρ hi 0 λh=>S3 ρ lo 0 λl=>l=0/\h=0/\K (.d .nil)
 |_=>False
theorem D31{ρ:C7}{os:List AO}{sz:Nat}{x:AV}{lo hi:Option B7}{K:AV->List AO->Prop}(h:A1Y ρ sz x lo hi λr=>K r os):slI ρ os sz x lo hi K:=by
 unfold A1Y at h
 split at h
 ·exact h
 ·exact h
 ·exact h.elim
def B9j:AV->Option Value
 |.d (.int k n)=>some (.int k n)
 |.d (.bool b)=>some (.bool b)
 |.d (.str s)=>some (.string ⟨⟨s⟩⟩)
 |_=>none
def A6c:List AV->Option (List Value)
 |[]=>some []
 |c::cs=>match B9j c,A6c cs with
  |some v,some vs=>some (v::vs)
  |_,_=>none
def unS:Value->Option D
 |.int k n=>some (.int k n)
 |.bool b=>some (.bool b)
 |.string ⟨⟨s⟩⟩=>some (.str s)
 |_=>none
def A6i:List Value->Option (List D)
 |[]=>some []
 |v::vs=>match unS v,A6i vs with
  |some d,some ds=>some (d::ds)
  |_,_=>none
def A57:Value->Option (FuncId×List D)
 |.func (.func g) ⟨[.agg ⟨vs⟩]⟩ ⟨[]⟩=>match A6i vs with
  |some ds=>some (g,ds)
  |none=>none
 |_=>none
theorem D3m{M:C5}{v:Value}{d:D}(h:unS v=some d):Rd M d v:=by
 unfold unS at h
 split at h
 ·cases h;exact .int ..
 ·cases h;exact .bool ..
 ·cases h;exact .str ..
 ·cases h
theorem B9u{M:C5}:∀{vs:List Value}{ds:List D},A6i vs=some ds->ds.length=vs.length/\∀(j:Nat) d v,ds[j]?=some d->vs[j]?=some v->Rd M d v
 |[],ds,h=>by cases h;exact⟨rfl,λj d v hd=>by simp at hd⟩
 |v::vs,ds,h=>by
  unfold A6i at h
  split at h
  ·rename_i d ds' h1 h2
   cases h
   obtain⟨h3,h4⟩:=B9u h2
   refine⟨by simp[h3],λj d v hd hv=>?_⟩
   cases j with
   |zero=>simp at hd hv;subst hd;subst hv;exact D3m h1
   |succ j=>exact h4 j d v (by simpa using hd) (by simpa using hv)
  ·cases h
theorem C8S{v:Value}{g:FuncId}{ds:List D}(h:A57 v=some (g,ds)):∃vs:List Value,v=.func (.func g) #[.agg ⟨vs⟩] #[]/\A6i vs=some ds:=by
 unfold A57 at h
 split at h
 ·rename_i g' vs
  split at h
  ·rename_i ds' h1
   cases h
   exact⟨vs,rfl,h1⟩
  ·cases h
 ·cases h
def A0d(os:List AO)(sz bytes:Nat)(s:AV)(ns:List (List D))(K:AV->List AO->Prop):Prop:=
 match s with
 |.d .nil=>ns.length*bytes<=140737488355328/\ns.length<=9223372036854775807/\(∀e∈ns,e.length=sz)/\K (.arr os.length ns.length) (os++[.arr ns sz 0 ns.isEmpty])
 |.arr id len=>match os[id]? with
  |some (.arr es sz' frz nl)=>len=es.length/\sz'=sz/\(es.length+ns.length)*bytes<=140737488355328/\es.length+ns.length<=9223372036854775807/\
    (∀e∈ns,e.length=sz)/\K (.arr id (es.length+ns.length)) (os.set id (.arr (es++ns) sz frz (nl&&ns.isEmpty)))
  |_=>False
 |_=>False
def A0D(os:List AO)(sz bytes:Nat)(s:AV)(ns:List (List AV))(K:AV->List AO->Prop):Prop:=
 match s with
 |.rs id len=>match os[id]? with
  |some (.rarr es sz' nl)=>len=es.length/\sz'=sz/\(es.length+ns.length)*bytes<=140737488355328/\es.length+ns.length<=9223372036854775807/\
    (∀e∈ns,e.length=sz)/\K (.rs id (es.length+ns.length)) (os.set id (.rarr (es++ns) sz (nl&&ns.isEmpty)))
  |_=>False
 |_=>False
def f9(os:List AO)(x:AV)(K:List (List D)->Prop):Prop:=
 match x with
 |.d .nil=>K []
 |.d (.sl es)=>K es
 |.arr id len=>match os[id]? with
  |some (.arr es sz frz nl)=>len=es.length/\K es
  |_=>False
 |_=>False
def l4(mx:Bool)(k:IntKind)(a:Int):List AV->(AV->Prop)->Prop
 |[],K=>K (.d (.int k a))
 |.d (.int k' b)::xs,K=>if mx then (b<=a->l4 mx k a xs K)/\(a<b->l4 mx k b xs K) else (a<=b->l4 mx k a xs K)/\(b<a->l4 mx k b xs K)
 |_,_=>False
def Z2(os:List AO)(d:Nat)(x:AV)(K:AV->Prop):Prop:=
 match x with
 |.ptr id o=>K (.ptr id (o+d))
 |.aptr id l i o=>match os[id]? with
  |some (.arr es _ _ _)=>l=es.length/\K (.aptr id l i (o+d))
  |_=>False
 |.dptr es i o=>K (.dptr es i (o+d))
 |_=>False
def J6(sk:SK)(key:D):List (D×AV)->Option AV
 |[]=>none
 |p::ps=>if Y6 sk key p.1=some true then some p.2 else J6 sk key ps
def K8(sk:SK)(key:D)(v:AV):List (D×AV)->List (D×AV)
 |[]=>[(key,v)]
 |p::ps=>if Y6 sk key p.1=some true then (key,v)::ps else p::K8 sk key v ps
def l5(sk:SK)(key:D)(kvs:List (D×AV)):Prop:=(∀p∈kvs,Y6 sk key p.1≠none)/\Y6 sk key key≠none
def zv(g:Bool)(zs:List D):AV:=if g then .agg (zs.map .d) else match zs with
 |[x]=>.d x
 |_=>.junk
def lkR(ok:Bool)(z:AV):Option AV->AV
 |some v=>if ok then .tup [v,.d (.bool true)] else v
 |none=>if ok then .tup [z,.d (.bool false)] else z
def lkK(os:List AO)(id:Nat)(r:AV)(K:AV->Prop):Prop:=K r\/(r=.d .nil/\∃sz frz,os[id+1]?=some (.arr [] sz frz true)/\K (.arr (id+1) 0))
def A3G:AV->Option Nat
 |.ptr id 0=>some id
 |_=>none
def B1(P:Program)(ρ:C7)(os:List AO)(K:AV->List AO->Prop):IK->Prop
 |.mv x=>K (B9 ρ x) os
 |.pick c a b=>match B9 ρ c with
  |.d (.bool t)=>(t=true->K (B9 ρ a) os)/\(t=false->K (B9 ρ b) os)
  |_=>False
 |.un op x=>match B9 ρ x with
  |.d x=>unD op x λr=>K (.d r) os
  |_=>False
 |.bin op x y=>A2R op (B9 ρ x) (B9 ρ y) λr=>K (.d r) os
 |.eqb neg x y=>match B9 ρ x,B9 ρ y with
  |.d (.bool a),.d (.bool b)=>K (.d (.bool (if neg then !(a==b) else a==b))) os
  |_,_=>False
 |.eqs neg ks x y=>match B9 ρ x,B9 ρ y with
  |.agg cs,.agg ds=>match eqL ks cs ds with
   |some b=>K (.d (.bool (if neg then !b else b))) os
   |none=>False
  |_,_=>False
 |.eqnil neg x=>match B9 ρ x with
  |.d .nil=>K (.d (.bool (!neg))) os
  |.d (.sl _)=>K (.d (.bool neg)) os
  |.arr id len=>match os[id]? with
   |some (.arr es sz frz nl)=>len=es.length/\K (.d (.bool (if neg then !nl else nl))) os
   |_=>False
  |_=>False
 |.conv k x=>match B9 ρ x with
  |.d (.int _ n)=>K (.d (.int k (k.wrap n))) os
  |_=>False
 |.cvs x=>match B9 ρ x with
  |.d (.str s)=>K (.d (.str s)) os
  |_=>False
 |.faddr off x=>Z2 os off (B9 ρ x) λr=>K r os
 |.field off n agg x=>match B9 ρ x with
  |.agg cs=>if agg then off+n<=cs.length/\K (.agg ((cs.drop off).take n)) os else off<cs.length/\K (cs.getD off .junk) os
  |_=>False
 |.ixarr len sz x i=>match B9 ρ i with
  |.d (.int _ n)=>0<=n/\n<len/\Z2 os (n.toNat*sz) (B9 ρ x) λr=>K r os
  |_=>False
 |.ixsl sz x i=>match B9 ρ i with
  |.d (.int _ n)=>(match B9 ρ x with
   |.d (.sl es)=>0<=n/\n<es.length/\(∀e∈es,e.length=sz)/\K (.dptr es n.toNat 0) os
   |.arr id len=>(match os[id]? with
    |some (.arr es sz' frz nl)=>len=es.length/\sz'=sz/\0<=n/\n<es.length/\nl=false/\K (.aptr id len n.toNat 0) os
    |_=>False)
   |.rs id len=>(match os[id]? with
    |some (.rarr es sz' nl)=>len=es.length/\sz'=sz/\0<=n/\n<es.length/\nl=false/\K (.rp id len n.toNat 0) os
    |_=>False)
   |_=>False)
  |_=>False
 |.ixstr x i=>match B9 ρ x,B9 ρ i with
  |.d (.str s),.d (.int _ n)=>0<=n/\n<s.length/\K (.d (.int .u8 (s.getD n.toNat 0).toNat)) os
  |_,_=>False
 |.ixval len sz agg x i=>match B9 ρ x,B9 ρ i with
  |.agg cs,.d (.int _ n)=>0<=n/\n<len/\(if agg then n.toNat*sz+sz<=cs.length/\K (.agg ((cs.drop (n.toNat*sz)).take sz)) os else sz=1/\n.toNat<cs.length/\K (cs.getD n.toNat .junk) os)
  |_,_=>False
 |.slstr x lo hi=>match B9 ρ x with
  |.d (.str s)=>S3 ρ hi s.length λh=>S3 ρ lo 0 λl=>0<=l/\l<=h/\h<=s.length/\K (.d (.str ((s.drop l.toNat).take (h.toNat-l.toNat)))) os
  |_=>False
 |.slsl sz x lo hi=>slI ρ os sz (B9 ρ x) lo hi K
 |.slsld sz x lo hi=>A1Y ρ sz (B9 ρ x) lo hi λr=>K r os
 |.stop=>False
 |.mkb f x=>match B9 ρ x with
  |.agg cs=>match A6c cs with
   |some vs=>K (.d (.lit (.func (.func f) ⟨[.agg ⟨vs⟩]⟩ ⟨[]⟩))) os
   |none=>False
  |_=>False
 |.build zs parts=>O7 ρ parts (zs.map .d) λcs=>K (.agg cs) os
 |.bsl n sz zs parts=>O7 ρ parts (((List.replicate n zs).flatten).map .d) λcs=>match n7 os cs with
  |some (xs,os1)=>K (.arr os1.length n) (os1++[.arr (R9 sz n xs) sz 0 false])\/(os1=os/\K (.d (.sl (R9 sz n xs))) os)
  |none=>False
 |.bsld n sz zs parts=>O7 ρ parts (((List.replicate n zs).flatten).map .d) λcs=>match n7 os cs with
  |some (xs,os1)=>os1=os/\K (.d (.sl (R9 sz n xs))) os
  |none=>False
 |.clo f caps=>match caps with
  |[]=>K (.d (.fn f)) os
  |_=>match caps.mapM (λc=>A3G (B9 ρ c)) with
   |some ids=>K (.clo f ids) os
   |none=>False
 |.ext i x=>match B9 ρ x with
  |.tup vs=>i<vs.length/\K (vs.getD i .junk) os
  |_=>False
 |.lens x=>match B9 ρ x with
  |.d (.str s)=>K (.d (.int .i64 s.length)) os
  |_=>False
 |.len x=>match B9 ρ x with
  |.d .nil=>K (.d (.int .i64 0)) os
  |.d (.sl es)=>K (.d (.int .i64 es.length)) os
  |.arr id len=>match os[id]? with
   |some (.arr es sz frz nl)=>len=es.length/\K (.d (.int .i64 es.length)) os
   |_=>False
  |.rs id len=>match os[id]? with
   |some (.rarr es sz nl)=>len=es.length/\K (.d (.int .i64 es.length)) os
   |_=>False
  |_=>False
 |.lenk n=>K (.d (.int .i64 n)) os
 |.minmax mx x xs=>match B9 ρ x with
  |.d (.int k a)=>l4 mx k a (xs.map (B9 ρ)) λr=>K r os
  |_=>False
 |.load agg n x=>V1 os agg n (B9 ρ x) λr=>K r os
 |.store n x v=>A0T os n (B9 ρ x) (B9 ρ v) λos'=>K .junk os'
 |.alloc zs=>K (.ptr os.length 0) (os++[.cells (zs.map .d)])
 |.box n x=>match (B9 ρ x).cells with
  |some xs=>xs.length=n/\K (.ptr os.length 0) (os++[.cells xs])
  |none=>False
 |.mksl sz bytes zs len cap=>match B9 ρ len,B9 ρ cap with
  |.d (.int _ l),.d (.int _ c)=>0<=l/\l<=c/\c*bytes<=140737488355328/\c<=9223372036854775807/\K (.arr os.length l.toNat) (os++[.arr (List.replicate l.toNat zs) sz 0 false])
  |_,_=>False
 |.app sz bytes s x=>match B9 ρ x with
  |.rs id2 len2=>match os[id2]? with
   |some (.rarr ns sz2 false)=>len2=ns.length/\0<ns.length/\A0D os sz bytes (B9 ρ s) ns K
   |_=>False
  |_=>f9 os (B9 ρ x) λns=>A0d os sz bytes (B9 ρ s) ns K
 |.call f args=>(match A0q os (args.map (B9 ρ)) with
  |some (as,os1)=>match B9 ρ f with
   |.d (.fn g)=>if as.any AV.ref then B4 P g as os1 K else B4 P g as [] λr os2=>K (shA os1.length r) (os1++os2.map (U5 os1.length))
   |.clo g caps=>B4 P g (as++caps.map λid=>.ptr id 0) os1 K
   |.d (.lit v)=>match A57 v with
    |some (g,ds)=>as.any AV.ref=false/\B4 P g (.agg (ds.map .d)::as) [] λr os2=>K (shA os1.length r) (os1++os2.map (U5 os1.length))
    |none=>False
   |_=>False
  |none=>False)\/(match B9 ρ f with
   |.d (.fn g)=>(args.map (B9 ρ)).all AV.one=true/\B4 P g (args.map (B9 ρ)) os K
   |_=>False)
 |.calld f args=>match B9 ρ f with
  |.d (.fn g)=>(match n8 os (args.map (B9 ρ)) with
   |some (as,os1)=>os1=os/\∃r,B4 P g as [] (λr' os2=>r'=r/\os2=[])/\K r os
   |none=>False)\/(match A0q os (args.map (B9 ρ)) with
   |some (as,os1)=>os1=os/\∃r,B4 P g as os (λr' os2=>r'=r/\os2=os)/\K r os
   |none=>False)
  |_=>False
 |.nilck x=>Z2 os 0 (B9 ρ x) λr=>K r os
 |.callp f args=>match B9 ρ f with
  |.d (.fn g)=>match n8 os (args.map (B9 ρ)) with
   |some (as,os1)=>os1=os/\∃r,B4 P g as [] (λr' os2=>r'=r/\os2=[])/\K r os
   |none=>False
  |_=>False
 |.alloca id zs=>match os[id]? with
  |some .hole=>K (.ptr id 0) (os.set id (.cells (zs.map .d)))
  |_=>False
 |.boxa id n x=>match os[id]?,(B9 ρ x).cells with
  |some .hole,some xs=>xs.length=n/\K (.ptr id 0) (os.set id (.cells xs))
  |_,_=>False
 |.calln id f args=>match B9 ρ f with
  |.d (.fn g)=>match n8 os (args.map (B9 ρ)) with
   |some (as,os1)=>os1=os/\os[id]?=some .hole/\∃es sz nl,B4 P g as [] (λr os2=>r=.arr 0 es.length/\os2=[.arr es sz 0 nl])/\K (.arr id es.length) (os.set id (.arr es sz 0 nl))
   |none=>False
  |_=>False
 |.bslr id n sz zs parts=>O7 ρ parts (((List.replicate n zs).flatten).map .d) λcs=>match os[id]? with
  |some .hole=>K (.rs id n) (os.set id (.rarr (R9 sz n cs) sz false))
  |_=>False
 |.mkmap=>K (.mp os.length) (os++[.map []])
 |.lkup sk ok g zs m k=>match B9 ρ m,B9 ρ k with
  |.mp id,.d key=>match os[id]? with
   |some (.map kvs)=>l5 sk key kvs/\lkK os id (lkR ok (zv g zs) (J6 sk key kvs)) λr=>K r os
   |_=>False
  |_,_=>False
 |.mupd sk m k v=>match B9 ρ m,B9 ρ k with
  |.mp id,.d key=>match os[id]? with
   |some (.map kvs)=>l5 sk key kvs/\(B9 ρ v).one=true/\K .junk (os.set id (.map (K8 sk key (B9 ρ v) kvs)))
   |_=>False
  |_,_=>False
 |.rmap x=>match B9 ρ x with
  |.mp id=>match os[id]? with
   |some (.map kvs)=>K (.mit os.length) (os++[.mit id kvs.length []])
   |_=>False
  |_=>False
 |.nmap x=>match B9 ρ x with
  |.mit id=>match os[id]? with
   |some (.mit m n seen)=>match os[m]? with
    |some (.map kvs)=>n=kvs.length/\(∀(i:Nat) p,i∉ seen->kvs[i]?=some p->K (.tup [.d (.bool true),.d p.1,p.2]) (os.set id (.mit m n (seen++[i]))))/\((∀i,i<n->i∈seen)->K (.tup [.d (.bool false)]) os)
    |_=>False
   |_=>False
  |_=>False
 |.entry x=>match B9 ρ x with
  |.mit id=>match os[id]? with
   |some (.mit m n seen)=>match os[m]? with
    |some (.map kvs)=>n=kvs.length/\match seen.getLast? with
     |some i=>match kvs[i]? with
      |some p=>K (.tup [.d p.1,p.2]) os
      |none=>False
     |none=>False
    |_=>False
   |_=>False
  |_=>False
 |.rstr x=>match B9 ρ x with
  |.d (.str s)=>K (.iter os.length) (os++[.iter s 0])
  |_=>False
 |.nstr x=>match B9 ρ x with
  |.iter id=>match os[id]? with
   |some (.iter s p)=>
    (p<s.length->K (.tup [.d (.bool true),.d (.int .i64 p),.d (.int .i32 (Utf8.decode ⟨⟨s⟩⟩ p).1)]) (os.set id (.iter s (p+(Utf8.decode ⟨⟨s⟩⟩ p).2))))/\
    (s.length<=p->K (.tup [.d (.bool false)]) os)
   |_=>False
  |_=>False
def gI(ρ:C7)(g:Option (Nat×Bool))(yes no:Prop):Prop:=
 match g with
 |none=>yes
 |some (t,want)=>match ρ t with
  |.d (.bool b)=>(b=want->yes)/\(b=!want->no)
  |.tup []=>no
  |_=>False
def m3(P:Program)(o:D4)(ρ:C7)(os:List AO)(K:C7->List AO->Prop):Prop:=
 gI ρ o.guard (B1 P ρ os (λr os'=>K (updo o.dst r ρ) os') o.op) (K (updo o.dst (.tup []) ρ) os)
def A1R(P:Program):List D4->C7->List AO->(C7->List AO->Prop)->Prop
 |[],ρ,os,K=>K ρ os
 |o::rest,ρ,os,K=>m3 P o ρ os λρ' os'=>A1R P rest ρ' os' K
def toD:Value->Option D
 |.int k n=>some (.int k n)
 |.bool b=>some (.bool b)
 |.string s=>some (.str s.data.toList)
 |.slice none 0 0=>some .nil
 |.func (.func f) a b=>if a.size=0/\b.size=0 then some (.fn f) else none
 |.pointer none=>some (.lit (.pointer none))
 |.nilFunc=>some (.lit .nilFunc)
 |.nilIface=>some (.lit .nilIface)
 |.map none=>some (.lit (.map none))
 |_=>none
def cO:Operand->Option B7
 |.tmp t=>some (.t t)
 |.const (.agg cs)=>(cs.toList.mapM toD).map .g
 |.const v=>(toD v).map .c
 |.func f=>some (.c (.fn f))
 |.global _=>none
def J7(P:Program)(t:TypeId):Option Nat:=(P.info? t).map (·.size)
def tby(P:Program)(t:TypeId):Option Nat:=(P.info? t).map (·.bytes)
def tz(P:Program)(t:TypeId):Option (List D):=(P.info? t).bind λi=>i.zero.bind λz=>z.cells.toList.mapM toD
def tzv(P:Program)(t:TypeId):Option (Bool×List D):=(P.info? t).bind λi=>i.zero.bind λz=>match z with
 |.agg cs=>(cs.toList.mapM toD).map λl=>(true,l)
 |v=>(toD v).map λx=>(false,[x])
def O1(P:Program)(t:TypeId):Option Bool:=
 match P.underlying t with
 |some (.struct _)=>some true
 |some (.array _ _)=>some true
 |some _=>some false
 |none=>none
def A5w(P:Program)(fl:TypeId->Option (List SK)):Nat->List Field->Option (List SK)
 |_,[]=>some []
 |n,f::fs=>if f.name = "_" then none else if f.offset=n then match fl f.type,J7 P f.type with
  |some ks,some m=>if m=ks.length/\0<m then match A5w P fl (n+m) fs with
   |some r=>some (ks++r)
   |none=>none
   else none
  |_,_=>none else none
def y9(P:Program):Nat->TypeId->Option (List SK)
 |0,_=>none
 |d+1,t=>match P.underlying t with
  |some .bool=>some [.b]
  |some (.int _)=>some [.i]
  |some .string=>some [.s]
  |some (.struct fs)=>if P.stoodInHeld t then none else A5w P (y9 P d) 0 fs.toList
  |some (.array n e)=>match y9 P d e,J7 P e with
   |some ks,some m=>if m=ks.length then some (List.replicate n ks).flatten else none
   |_,_=>none
  |_=>none
def A2q:BinOp->Option Bool
 |.eql=>some false
 |.neq=>some true
 |_=>none
def A0G(place:Nat->Option (Nat×Nat)):List (Nat×Operand)->Option (List (Nat×Nat×B7))
 |[]=>some []
 |(i,x)::ps=>match place i,cO x,A0G place ps with
  |some (off,n),some x,some ps=>some ((off,n,x)::ps)
  |_,_,_=>none
def A0F:Option Operand->Option (Option B7)
 |none=>some none
 |some x=>(cO x).map some
def B0e(P:Program)(t:TypeId):Option (Nat->Option (Nat×Nat)):=
 match P.underlying t with
 |some (.struct fs)=>(fs.toList.mapM λf=>(J7 P f.type).map λn=>(f.offset,n)).map λl i=>l[i]?
 |some (.array _ e)=>(J7 P e).map λn i=>some (i*n,n)
 |_=>none
def A5f(P:Program)(op:BinOp)(t:TypeId)(x y:B7):Option IK:=
 match y9 P 100 t with
 |some ks=>if P.eqGuardType P.depth t=false then (A2q op).map λn=>.eqs n ks x y else none
 |none=>none
def A5b(P:Program)(op:BinOp)(t:TypeId)(x y:Operand):Option IK:=
 match cO x,cO y with
 |some x',some y'=>match P.underlying t with
  |some (.int _)=>some (.bin op x' y')
  |some .string=>some (.bin op x' y')
  |some .bool=>(A2q op).map λn=>.eqb n x' y'
  |some (.struct _)=>A5f P op t x' y'
  |some (.array _ _)=>A5f P op t x' y'
  |some (.slice _)=>match y' with
   |.c .nil=>(A2q op).map λn=>.eqnil n x'
   |_=>none
  |_=>none
 |_,_=>none
def A5d(P:Program)(b:Builtin)(args:List Operand)(ts:List TypeId):Option IK:=
 match b,args,ts with
 |.len,[x],[t]=>match P.underlying t with
  |some .string=>(cO x).map .lens
  |some (.slice _)=>(cO x).map .len
  |some (.array n _)=>some (.lenk n)
  |_=>none
 |.append,[s,x],[t,t']=>match P.underlying t with
  |some (.slice e)=>if t=t' then match cO s,cO x,J7 P e,tby P e,tz P e with
    |some s,some x,some sz,some by_,some zs=>if 0<sz/\zs.length=sz then some (.app sz by_ s x) else none
    |_,_,_,_,_=>none else none
  |_=>none
 |.min,x::xs,_=>match cO x,xs.mapM cO with
  |some x,some xs=>some (.minmax false x xs)
  |_,_=>none
 |.max,x::xs,_=>match cO x,xs.mapM cO with
  |some x,some xs=>some (.minmax true x xs)
  |_,_=>none
 |_,_,_=>none
def A3V(P:Program)(t:TypeId):Option SK:=match P.underlying t with
 |some (.int _)=>some .i
 |some .string=>some .s
 |some .bool=>some .b
 |_=>none
def t7(P:Program)(draw:Bool)(op:Op):Option IK:=
 match op with
 |.move x=>(cO x).map .mv
 |.assign x=>(cO x).map .mv
 |.pick c a b=>match cO c,cO a,cO b with
  |some c,some a,some b=>some (.pick c a b)
  |_,_,_=>none
 |.alloc e=>(tz P e).map .alloc
 |.box e x=>match J7 P e,cO x with
  |some n,some x=>some (.box n x)
  |_,_=>none
 |.build t parts=>match tz P t,B0e P t with
  |some zs,some pl=>(A0G pl parts.toList).map (.build zs)
  |_,_=>none
 |.buildSlice t len parts=>match P.underlying t with
  |some (.slice e)=>match J7 P e,tz P e with
   |some sz,some zs=>if 0<sz/\zs.length=sz/\len*sz<=16777216 then (A0G (λi=>some (i*sz,sz)) parts.toList).map (if draw then .bsld len sz zs else .bsl len sz zs) else none
   |_,_=>none
  |_=>none
 |.load t a=>match O1 P t,J7 P t,cO a with
  |some g,some n,some a=>some (.load g n a)
  |_,_,_=>none
 |.store t a v=>match J7 P t,cO a,cO v with
  |some n,some a,some v=>some (.store n a v)
  |_,_,_=>none
 |.binOp op t x y _=>A5b P op t x y
 |.unOp op _ x=>(cO x).map (.un op)
 |.convert s d x=>match P.underlying s,P.underlying d with
  |some (.int _),some (.int k)=>(cO x).map (.conv k)
  |some .string,some .string=>(cO x).map .cvs
  |_,_=>none
 |.slice t x lo hi none=>match P.underlying t with
  |some .string=>match cO x,A0F lo,A0F hi with
   |some x,some lo,some hi=>some (.slstr x lo hi)
   |_,_,_=>none
  |some (.slice e)=>match cO x,A0F lo,A0F hi,J7 P e with
   |some x,some lo,some hi,some sz=>some (if draw then .slsld sz x lo hi else .slsl sz x lo hi)
   |_,_,_,_=>none
  |_=>none
 |.fieldAddr s x f=>match P.underlying s with
  |some (.struct fs)=>match fs[f]?,cO x with
   |some fd,some x=>match J7 P fd.type with
    |some (_+1)=>some (.faddr fd.offset x)
    |_=>none
   |_,_=>none
  |_=>none
 |.field t x f=>match P.underlying t with
  |some (.struct fs)=>match fs[f]?,cO x with
   |some fd,some x=>match J7 P fd.type,O1 P fd.type with
    |some n,some g=>some (.field fd.offset n g x)
    |_,_=>none
   |_,_=>none
  |_=>none
 |.indexAddr t x i=>match P.underlying t with
  |some (.array n e)=>match J7 P e,cO x,cO i with
   |some sz,some x,some i=>some (.ixarr n sz x i)
   |_,_,_=>none
  |some (.slice e)=>match J7 P e,cO x,cO i with
   |some sz,some x,some i=>some (.ixsl sz x i)
   |_,_,_=>none
  |_=>none
 |.index t x i=>match P.underlying t with
  |some (.array n e)=>match J7 P e,O1 P e,cO x,cO i with
   |some sz,some g,some x,some i=>some (.ixval n sz g x i)
   |_,_,_,_=>none
  |some .string=>match cO x,cO i with
   |some x,some i=>some (.ixstr x i)
   |_,_=>none
  |_=>none
 |.makeFunc (.func f) first caps=>if first.size=0 then (caps.toList.mapM cO).map (.clo f) else match first.toList,caps.toList with
  |[x],[]=>(cO x).map (.mkb f)
  |_,_=>none
 |.extract x i=>(cO x).map (.ext i)
 |.nilCheck x=>(cO x).map .nilck
 |.makeSlice t l c=>match P.underlying t with
  |some (.slice e)=>match J7 P e,tby P e,tz P e,cO l,cO c with
   |some sz,some by_,some zs,some l,some c=>if 0<sz/\zs.length=sz then some (.mksl sz by_ zs l c) else none
   |_,_,_,_,_=>none
  |_=>none
 |.call c=>match c.callee with
  |.value f=>match cO f,c.args.toList.mapM cO with
   |some f,some args=>some (if draw then .calld f args else .call f args)
   |_,_=>none
  |.builtin b=>A5d P b c.args.toList c.argTypes.toList
  |_=>none
 |.range t x=>match P.underlying t with
  |some .string=>(cO x).map .rstr
  |some (.map _ _)=>(cO x).map .rmap
  |_=>none
 |.next it false=>(cO it).map .nmap
 |.entry it=>(cO it).map .entry
 |.makeMap _ none=>some .mkmap
 |.lookup t m k ok=>match P.underlying t with
  |some (.map kt e)=>match A3V P kt,tzv P e,cO m,cO k with
   |some sk,some (g,zs),some m,some k=>some (.lkup sk ok g zs m k)
   |_,_,_,_=>none
  |_=>none
 |.mapUpdate t m k v=>match P.underlying t with
  |some (.map kt e)=>match A3V P kt,cO m,cO k,cO v with
   |some sk,some m,some k,some v=>some (.mupd sk m k v)
   |_,_,_,_=>none
  |_=>none
 |.next it true=>(cO it).map .nstr
 |_=>none
def A75(ops:List Oper):Option (Nat×Bool)->Option (Option (Nat×Bool))
 |none=>some none
 |some (j,want)=>match ops[j]? with
  |some o=>o.dst.map λt=>some (t,want)
  |none=>none
def A9A(n:Nat):Option Nat->Bool
 |some t=>decide (t<n)
 |none=>true
def cIK(P:Program)(draw:Bool)(op:Op):Option IK:=some (match t7 P draw op with
 |some k=>k
 |none=>.stop)
theorem A3F{P:Program}{draw:Bool}{op:Op}{k:IK}(h:cIK P draw op=some k)(hk:k≠.stop):t7 P draw op=some k:=by
 unfold cIK at h
 injection h with h
 split at h
 ·subst h;assumption
 ·exact absurd h.symm hk
def cOp(P:Program)(n:Nat)(draw:Bool)(ops:List Oper)(o:Oper):Option D4:=
 match cIK P draw o.op,A75 ops o.guard with
 |some k,some g=>if A9A n o.dst=true then some {dst:=o.dst,guard:=g,op:=k} else none
 |_,_=>none
def IK.rd:IK->Bool
 |.faddr ..|.ixarr ..|.eqnil ..|.ixsl ..|.slsl ..|.len ..|.load ..|.store ..|.alloc ..|.box ..|.mksl ..|.app ..|.call ..|.calld ..|.bsl ..|.bsld ..|.rstr ..|.nstr ..|.nilck ..|.callp ..|.alloca ..|.boxa ..|.calln ..|.bslr ..|.mkmap|.lkup ..|.mupd ..|.rmap ..|.nmap ..|.entry ..=>true
 |_=>false
def IK.wr:IK->Bool
 |.slsl ..|.store ..|.alloc ..|.box ..|.mksl ..|.app ..|.call ..|.bsl ..|.rstr ..|.nstr ..|.alloca ..|.boxa ..|.calln ..|.bslr ..|.mkmap|.mupd ..|.rmap ..|.nmap ..=>true
 |_=>false
def B7.tmps:B7->List Nat
 |.t n=>[n]
 |_=>[]
def IK.opds:IK->List B7
 |.mkb _ x|.mv x|.un _ x|.eqnil _ x|.conv _ x|.cvs x|.faddr _ x|.field _ _ _ x|.ext _ x|.len x|.lens x|.load _ _ x|.box _ x|.rstr x|.nstr x|.nilck x|.boxa _ _ x|.rmap x|.nmap x|.entry x=>[x]
 |.pick a b c=>[a,b,c]
 |.bin _ x y|.eqb _ x y|.eqs _ _ x y|.ixarr _ _ x y|.ixsl _ x y|.ixstr x y|.ixval _ _ _ x y|.store _ x y|.mksl _ _ _ x y|.app _ _ x y|.lkup _ _ _ _ x y=>[x,y]
 |.mupd _ a b c=>[a,b,c]
 |.slstr x l h|.slsl _ x l h|.slsld _ x l h=>x::(l.toList++h.toList)
 |.build _ ps|.bsl _ _ _ ps|.bsld _ _ _ ps|.bslr _ _ _ _ ps=>ps.map (·.2.2)
 |.clo _ cs=>cs
 |.minmax _ x xs=>x::xs
 |.call f args|.calld f args|.callp f args|.calln _ f args=>f::args
 |.lenk _|.alloc _|.alloca _ _|.mkmap|.stop=>[]
def D4.looks(o:D4):List Nat:=(match o.guard with|some (t,_)=>[t]|none=>[])++o.op.opds.flatMap B7.tmps
def IK.det:IK->Bool
 |.call ..=>false
 |.nmap ..=>false
 |_=>true
def D4.apart(x y:D4):Bool:=x.op.det&&y.op.det &&
 (match x.dst with|some d=>!(y.looks.contains d)&&y.dst != some d|none=>true) &&
 (match y.dst with|some d=>!(x.looks.contains d)|none=>true) &&
 !(x.op.wr&&y.op.rd)&&!(x.op.rd&&y.op.wr)
def A53(F5:List Nat)(es:List Edge):Nat:=es.foldl (λs e=>if Region.binds .any e then s|||2 ^ e.on|||F5.getD e.on 0 else s) 0
def W7(F5:List Nat):List Oper->List Nat
 |[]=>F5
 |o::l=>W7 (F5++[A53 F5 o.after.toList]) l
def A7c(ops:List Oper)(is:List D4):Bool:=
 let b:=W7 [] ops
 is.all (λo=>o.op.det)&&(List.range ops.length).all (λi=>match ops[i]? with|some o=>o.after.toList.all (λe=>decide (e.on<i)||!Region.binds .any e)|none=>true) &&
 (List.range is.length).all λj=>(List.range j).all λi=>(b.getD j 0).testBit i||(is.getD i default).apart (is.getD j default)
def P1(ow:B7->Bool)(br:List (Nat×Nat×B7)->Bool):List D4->Nat->List D4
 |[],_=>[]
 |o::is,k=>match o.op with
  |.alloc zs=>{o with op:=.alloca k zs}::P1 ow br is (k+1)
  |.box n x=>{o with op:=.boxa k n x}::P1 ow br is (k+1)
  |.calld f args=>if ow f then {o with op:=.calln k f args}::P1 ow br is (k+1) else {o with op:=.callp f args}::P1 ow br is k
  |.bsld n sz zs ps=>if br ps then {o with op:=.bslr k n sz zs ps}::P1 ow br is (k+1) else o::P1 ow br is k
  |_=>o::P1 ow br is k
def A0P(ow:B7->Bool)(br:List (Nat×Nat×B7)->Bool):List D4->Nat
 |[]=>0
 |o::is=>match o.op with
  |.alloc _=>A0P ow br is+1
  |.box _ _=>A0P ow br is+1
  |.calld f _=>if ow f then A0P ow br is+1 else A0P ow br is
  |.bsld _ _ _ ps=>if br ps then A0P ow br is+1 else A0P ow br is
  |_=>A0P ow br is
def D4.at(b:Nat)(o:D4):D4:=match o.op with
 |.alloca k zs=>{o with op:=.alloca (b+k) zs}
 |.boxa k n x=>{o with op:=.boxa (b+k) n x}
 |.calln k f args=>{o with op:=.calln (b+k) f args}
 |.bslr k n sz zs ps=>{o with op:=.bslr (b+k) n sz zs ps}
 |_=>o
def A35(P:Program):B7->Bool
 |.c (.fn f)=>match P.funcs[f]? with
  |some fn=>match fn.params.toList,fn.resultTypes.toList with
   |[t],[r]=>decide (t=r)&&(match P.underlying t with|some (.slice _)=>true|_=>false)
   |_,_=>false
  |none=>false
 |_=>false
def C8x(P:Program)(is:List D4):Bool:=is.any λo=>match o.op with
 |.calld f _=>A35 P f
 |_=>false
def A5Y(P:Program)(is:List D4)(ps:List (Nat×Nat×B7)):Bool:=
 let ts:=is.foldl (λ(a:List Nat) o=>match o.dst with
  |some d=>if (match o.op with|.calld f _=>A35 P f|_=>o.op.opds.any λx=>x.tmps.any a.contains) then d::a else a
  |none=>a) []
 ps.any λp=>p.2.2.tmps.any ts.contains
def D4.apartS(x y:D4):Bool:=x.op.det&&y.op.det &&
 (match x.dst with|some d=>!(y.looks.contains d)&&y.dst != some d|none=>true) &&
 (match y.dst with|some d=>!(x.looks.contains d)|none=>true)
def B8E(b:List Nat)(is:List D4):List (Nat×Nat):=
 (List.range is.length).flatMap λj=>((List.range j).filter λi=>!((b.getD j 0).testBit i||(is.getD i default).apart (is.getD j default))).map λi=>(i,j)
def A2k(ops:List Oper)(is:List D4)(ps:List (Nat×Nat)):Bool:=
 let b:=W7 [] ops
 is.all (λo=>o.op.det)&&(List.range ops.length).all (λi=>match ops[i]? with|some o=>o.after.toList.all (λe=>decide (e.on<i)||!Region.binds .any e)|none=>true) &&
 (List.range is.length).all λj=>(List.range j).all λi=>(b.getD j 0).testBit i||((is.getD i default).apartS (is.getD j default)&&(ps.contains (i,j)||(is.getD i default).apart (is.getD j default)))
def cC(P:Program)(n:Nat):Code->Option IC
 |.skip=>some .skip
 |.region _ ops draw=>match ops.toList.mapM (cOp P n draw ops.toList) with
  |some is=>if draw then (if C8x P is=false/\A7c ops.toList is=true then some (.region is) else if A2k ops.toList (P1 (A35 P) (A5Y P is) is 0) (B8E (W7 [] ops.toList) (P1 (A35 P) (A5Y P is) is 0)) then some (.dreg (A0P (A35 P) (A5Y P is) is) (B8E (W7 [] ops.toList) (P1 (A35 P) (A5Y P is) is 0)) (P1 (A35 P) (A5Y P is) is 0)) else none) else some (.region is)
  |none=>none
 |.seq a b=>match cC P n a,cC P n b with
  |some a,some b=>some (.seq a b)
  |_,_=>none
 |.cond c x y=>match cO c,cC P n x,cC P n y with
  |some c,some x,some y=>some (.cond c x y)
  |_,_,_=>none
 |.block id c=>(cC P n c).map (.block id)
 |.loop c=>(cC P n c).map .loop
 |.exit id=>some (.exit id)
 |.ret=>some .ret
 |.scope c=>cC P n c
 |_=>none
end Go.Bi
