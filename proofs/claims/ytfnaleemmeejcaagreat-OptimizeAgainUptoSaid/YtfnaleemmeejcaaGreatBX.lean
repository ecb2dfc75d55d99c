/- An evaluator of compiled code by continuations, made to be unfolded step by step. No condition. -/
import Derived.Test.YtfnaleemmeejcaaGreatBT
set_option linter.unusedVariables false
namespace Go.Bi
set_option linter.unusedSectionVars false
variable [M6]
abbrev Sl:=List (Nat×AV)
def frc(a:AV)(K:AV->Prop):Prop:=match a with
 |.d x=>K (.d x)
 |.agg cs=>K (.agg cs)
 |.tup cs=>K (.tup cs)
 |.ptr i o=>K (.ptr i o)
 |.aptr a b c d=>K (.aptr a b c d)
 |.dptr a b c=>K (.dptr a b c)
 |.arr a b=>K (.arr a b)
 |.clo a b=>K (.clo a b)
 |.bcl a b=>K (.bcl a b)
 |.iter a=>K (.iter a)
 |.mp a=>K (.mp a)
 |.mit a=>K (.mit a)
 |.rs a b=>K (.rs a b)
 |.rp a b c d=>K (.rp a b c d)
 |.junk=>K .junk
theorem A2u{a:AV}{K:AV->Prop}:frc a K↔K a:=by cases a<;>exact Iff.rfl
def A5S{α:Type}:List α->Nat->(α->Prop)->Prop
 |[],_,_=>False
 |x::_,0,K=>K x
 |_::l,n+1,K=>A5S l n K
theorem R0{α:Type}{K:α->Prop}:∀{l:List α}{n:Nat},A5S l n K->∃x,l[n]?=some x/\K x
 |[],_,h=>h.elim
 |x::_,0,h=>⟨x,rfl,h⟩
 |_::l,n+1,h=>by
  obtain⟨x,hx,hk⟩:=R0 (l:=l) h
  exact⟨x,by simpa using hx,hk⟩
theorem C41{α:Type}{K:α->Prop}{x:α}:∀{l:List α}{n:Nat},l[n]?=some x->K x->A5S l n K
 |[],_,h,_=>by simp at h
 |y::_,0,h,hk=>by simp at h;subst h;exact hk
 |_::l,n+1,h,hk=>C41 (l:=l) (by simpa using h) hk
def s9{α:Type}:List α->List α->(List α->Prop)->Prop
 |[],b,K=>K b
 |x::a,b,K=>s9 a b λr=>K (x::r)
theorem A0m{α:Type}:∀{a b:List α}{K:List α->Prop},s9 a b K↔K (a++b)
 |[],_,_=>Iff.rfl
 |x::a,b,K=>A0m (a:=a) (K:=λr=>K (x::r))
def p9{α:Type}:List α->Nat->(List α->Prop)->Prop
 |_,0,K=>K []
 |[],_+1,K=>K []
 |x::l,n+1,K=>p9 l n λr=>K (x::r)
theorem A29{α:Type}:∀{l:List α}{n:Nat}{K:List α->Prop},p9 l n K↔K (l.take n)
 |_,0,_=>by simp[p9]
 |[],_+1,_=>by simp[p9]
 |x::l,n+1,K=>A29 (l:=l) (n:=n) (K:=λr=>K (x::r))
def A1R{α:Type}:List α->Nat->(List α->Prop)->Prop
 |l,0,K=>K l
 |[],_+1,K=>K []
 |_::l,n+1,K=>A1R l n K
theorem A4D{α:Type}:∀{l:List α}{n:Nat}{K:List α->Prop},A1R l n K↔K (l.drop n)
 |_,0,_=>by simp[A1R]
 |[],_+1,_=>by simp[A1R]
 |_::l,n+1,K=>by simpa[A1R] using A4D (l:=l) (n:=n) (K:=K)
def j4{α:Type}:List α->Nat->α->(List α->Prop)->Prop
 |[],_,_,K=>K []
 |_::l,0,y,K=>K (y::l)
 |x::l,n+1,y,K=>j4 l n y λr=>K (x::r)
theorem y9{α:Type}{y:α}:∀{l:List α}{n:Nat}{K:List α->Prop},j4 l n y K↔K (l.set n y)
 |[],_,_=>Iff.rfl
 |_::l,0,_=>Iff.rfl
 |x::l,n+1,K=>y9 (l:=l) (n:=n) (K:=λr=>K (x::r))
def A0v{α β:Type}(f:α->β):List α->(List β->Prop)->Prop
 |[],K=>K []
 |x::l,K=>A0v f l λr=>K (f x::r)
theorem A0Q{α β:Type}{f:α->β}:∀{l:List α}{K:List β->Prop},A0v f l K↔K (l.map f)
 |[],_=>Iff.rfl
 |x::l,K=>A0Q (l:=l) (K:=λr=>K (f x::r))
def A3k{α:Type}:List α->Nat->List α->(List α->Prop)->Prop
 |cs,0,ps,K=>A1R cs ps.length λr=>s9 ps r K
 |[],_+1,ps,K=>K ps
 |c::cs,n+1,ps,K=>A3k cs n ps λr=>K (c::r)
theorem B0a{α:Type}{ps:List α}:∀{cs:List α}{n:Nat}{K:List α->Prop},A3k cs n ps K↔K (I3 cs n ps)
 |cs,0,K=>by
  cases cs<;>simp only[A3k,A4D,A0m]<;>simp[I3]
 |[],_+1,K=>by simp[A3k,I3]
 |c::cs,n+1,K=>by
  have:=B0a (ps:=ps) (cs:=cs) (n:=n) (K:=λr=>K (c::r))
  simp only[A3k]
  rw[this]
  simp[I3,Nat.add_right_comm n 1]
def A0d{α:Type}:List α->Nat->(Nat->Prop)->Prop
 |[],n,K=>K n
 |_::l,n,K=>A0d l (n+1) K
theorem B2K{α:Type}:∀{l:List α}{n:Nat}{K:Nat->Prop},A0d l n K↔K (n+l.length)
 |[],_,_=>Iff.rfl
 |_::l,n,K=>by simp only[A0d,B2K (l:=l)];rw[show n+1+l.length=n+(l.length+1) by omega];exact Iff.rfl
def dsK:List AV->(List D->Prop)->Prop->Prop
 |[],K,_=>K []
 |c::l,K,E=>match c with
  |.d x=>dsK l (λr=>K (x::r)) E
  |_=>E
theorem C2n:∀{cs:List AV}{K:List D->Prop}{E:Prop},dsK cs K E->match A2r cs with
  |some ds=>K ds
  |none=>E
 |[],_,_,h=>h
 |c::l,K,E,h=>by
  cases c with
  |d x=>
   have h2:=C2n (cs:=l) (K:=λr=>K (x::r)) (E:=E) h
   unfold A2r
   cases hl:A2r l with
   |some ds=>rw[hl] at h2;exact h2
   |none=>rw[hl] at h2;exact h2
  |_=>exact h
def A3Q{α:Type}(sz:Nat):Nat->List α->(List (List α)->Prop)->Prop
 |0,_,K=>K []
 |n+1,l,K=>p9 l sz λa=>A1R l sz λb=>A3Q sz n b λr=>K (a::r)
theorem A5n{α:Type}{sz:Nat}:∀{n:Nat}{l:List α}{K:List (List α)->Prop},A3Q sz n l K↔K (S7 sz n l)
 |0,_,_=>Iff.rfl
 |n+1,l,K=>by
  simp only[A3Q,A29,A4D]
  exact A5n (n:=n) (K:=λr=>K (l.take sz::r))
abbrev Cn(b:Bool)(X Y:Prop):Prop:=match b with
 |true=>X
 |false=>Y
abbrev Gn(b:Bool)(X:Prop):Prop:=match b with
 |false=>False
 |true=>X
theorem B2C{b:Bool}{X:Prop}:Gn b X↔b=true/\X:=by cases b<;>simp[Gn]
def w7:Bool->D->D->D
 |true,X,_=>X
 |false,_,Y=>Y
theorem Z0{b:Bool}{X:Prop}:Cn b X False↔b=true/\X:=by cases b<;>simp[Cn]
theorem A1b{b:Bool}{X Y:Prop}:Cn b X Y↔(b=true->X)/\(b=false->Y):=by cases b<;>simp[Cn]
structure F8(p X:Prop):Prop where
 h1:p
 h2:X
structure WrK(k:IntKind)(v:Int)(K:D->Prop):Prop where
 h:K (.int k (k.wrap v))
structure A8t(d:D)(K:List (List D)->Prop):Prop where
 h:∃es,B0 d es/\K es
structure A31(P:Program)(g:FuncId)(as:List AV)(K:AV->Prop):Prop where
 h:∃r,Pure P g as r/\K r
structure A3G(P:Program)(g:FuncId)(as:List AV)(os:List AO)(K:AV->List AO->Prop):Prop where
 h:C0 P g as [] λr os2=>K (shA os.length r) (os++os2.map (Z3 os.length))
structure A1y(P:Program)(g:FuncId)(as:List AV)(os:List AO)(K:AV->List AO->Prop):Prop where
 h:C0 P g as os K
structure B1Q(P:Program)(g:FuncId)(as:List AV)(os:List AO)(K:AV->Prop):Prop where
 h:∃r,C0 P g as os (λr' os2=>r'=r/\os2=os)/\K r
structure C0Y(P:Program)(g:FuncId)(id off:Nat)(ob:AO)(as:List AV)(K:AV->Prop):Prop where
 h:∃r,(∀os2:List AO,os2[id]?=some ob->C0 P g (.ptr id off::as) os2 (λr' os3=>r'=r/\os3=os2))/\K r
structure B1e(sk:SK)(ok g:Bool)(zs:List D)(key:D)(kvs:List (D×AV))(K:AV->Prop):Prop where
 h:mok sk key kvs/\∃r,lkR ok (zv g zs) (A3c sk key kvs)=r/\K r
structure LkA(X Y:Prop):Prop where
 h:X\/Y
structure B8M(sk:SK)(key:D)(v:AV)(kvs:List (D×AV))(K:List (D×AV)->Prop):Prop where
 h:mok sk key kvs/\K (A1j sk key v kvs)
structure D3B(n:Nat)(seen:List Nat)(kvs:List (D×AV))(A:Nat->D×AV->Prop)(B:Prop):Prop where
 h0:n=kvs.length
 h1:∀(i:Nat) p,i∉ seen->kvs[i]?=some p->A i p
 h2:(∀i,i<n->i∈seen)->B
structure D3A(n:Nat)(seen:List Nat)(kvs:List (D×AV))(K:D×AV->Prop):Prop where
 h:n=kvs.length/\∃i p,seen.getLast?=some i/\kvs[i]?=some p/\K p
structure A8n(X Y:Prop):Prop where
 h:X\/Y
def gc{α:Type}(cs:List α)(off:Nat)(K:α->Prop):Prop:=Gn (Nat.blt off cs.length) (A5S cs off K)
def gcs{α:Type}(cs:List α)(off n:Nat)(K:List α->Prop):Prop:=Cn (Nat.beq n cs.length&&Nat.beq off 0) (K cs) (Gn (Nat.ble (off+n) cs.length) (A1R cs off λr=>p9 r n K))
def stc{α:Type}(cs:List α)(off n:Nat)(vc:List α)(K:List α->Prop):Prop:=Cn (Nat.beq n cs.length&&Nat.beq off 0) (K vc) (Gn (Nat.ble (off+n) cs.length) (A3k cs off vc K))
theorem A1T{α:Type}{cs:List α}{off:Nat}{K:α->Prop}(h:gc cs off K):∃c,cs[off]?=some c/\K c:=R0 (B2C.1 h).2
theorem A9y{α:Type}{cs:List α}{off n:Nat}{K:List α->Prop}(h:gcs cs off n K):off+n<=cs.length/\K ((cs.drop off).take n):=by
 unfold gcs at h
 obtain⟨h1,h2⟩:=A1b.1 h
 cases hb:(Nat.beq n cs.length&&Nat.beq off 0) with
 |true=>
  have h3:=h1 hb
  simp only[J9] at hb
  have e1:=U5 hb.1
  have e2:=U5 hb.2
  subst e1;subst e2
  exact⟨by omega,by simpa using h3⟩
 |false=>
  obtain⟨h3,h4⟩:=B2C.1 (h2 hb)
  exact⟨R6 h3,A29.1 (A4D.1 h4)⟩
theorem C54{α:Type}{cs vc:List α}{off n:Nat}{K:List α->Prop}(hl:vc.length=n)(h:stc cs off n vc K):off+n<=cs.length/\K (I3 cs off vc):=by
 unfold stc at h
 obtain⟨h1,h2⟩:=A1b.1 h
 cases hb:(Nat.beq n cs.length&&Nat.beq off 0) with
 |true=>
  have h3:=h1 hb
  simp only[J9] at hb
  have e1:=U5 hb.1
  have e2:=U5 hb.2
  subst e2
  have e3:I3 cs 0 vc=vc:=by simp[I3,show cs.length<=vc.length by omega]
  exact⟨by omega,by rw[e3];exact h3⟩
 |false=>
  obtain⟨h3,h4⟩:=B2C.1 (h2 hb)
  exact⟨R6 h3,B0a.1 h4⟩
def xV(L:Sl)(x:C2)(K:AV->Prop):Prop:=match x with
 |.t n=>frc (E7 L n) K
 |.c x=>K (.d x)
 |.g cs=>A0v .d cs λl=>K (.agg l)
theorem G9{L:Sl}{x:C2}{K:AV->Prop}(h:xV L x K):K (C1 (E7 L) x):=by
 cases x with
 |t n=>exact A2u.1 h
 |c x=>exact h
 |g cs=>exact(A0Q (f:=AV.d)).1 h
def R7(os:List AO)(id:Nat)(K:AO->Prop):Prop:=A5S os id K
def A6K(v:AV)(K:List AV->Prop):Prop:=match v with
 |.agg cs=>K cs
 |.tup _=>False
 |.junk=>False
 |.d x=>K [.d x]
 |.ptr i o=>K [.ptr i o]
 |.aptr a b c d=>K [.aptr a b c d]
 |.dptr a b c=>K [.dptr a b c]
 |.arr a b=>K [.arr a b]
 |.clo a b=>K [.clo a b]
 |.bcl a b=>K [.bcl a b]
 |.iter a=>K [.iter a]
 |.mp a=>K [.mp a]
 |.mit a=>K [.mit a]
 |.rs a b=>K [.rs a b]
 |.rp a b c d=>K [.rp a b c d]
theorem A91{v:AV}{K:List AV->Prop}(h:A6K v K):∃cs,v.cells=some cs/\K cs:=by
 cases v<;>first|exact h.elim|exact⟨_,rfl,h⟩
def xUn(op:UnOp)(x:D)(K:D->Prop):Prop:=
 match op,x with
 |.neg,.int k n=>WrK k (0-n) K
 |.xor,.int k n=>K (.int k (k.wrap (BitVec.ofInt k.bits (if k.signed then -1 else k.max) ^^^ BitVec.ofInt k.bits n).toNat))
 |.not,.bool b=>K (.bool !b)
 |_,_=>False
theorem E2X{op:UnOp}{x:D}{K:D->Prop}(h:xUn op x K):unD op x K:=by
 cases op<;>cases x<;>first|exact h|exact WrK.h h|exact h.elim
def B3V(op:BinOp)(k:IntKind)(a b:Int)(K:D->Prop):Prop:=
 match op with
 |.add=>WrK k (a+b) K
 |.sub=>WrK k (a-b) K
 |.mul=>WrK k (a*b) K
 |.quo=>F8 (b≠0) (WrK k (a.tdiv b) K)
 |.rem=>F8 (b≠0) (K (.int k (a.tmod b)))
 |.and=>K (.int k (k.wrap (BitVec.ofInt k.bits a &&& BitVec.ofInt k.bits b).toNat))
 |.or=>K (.int k (k.wrap (BitVec.ofInt k.bits a|||BitVec.ofInt k.bits b).toNat))
 |.xor=>K (.int k (k.wrap (BitVec.ofInt k.bits a ^^^ BitVec.ofInt k.bits b).toNat))
 |.andNot=>K (.int k (k.wrap (BitVec.ofInt k.bits a &&& ~~~ BitVec.ofInt k.bits b).toNat))
 |.eql=>K (.bool (decide (a=b)))
 |.neq=>K (.bool (!decide (a=b)))
 |.lss=>K (.bool (decide (a<b)))
 |.leq=>K (.bool (decide (a<=b)))
 |.gtr=>K (.bool (decide (b<a)))
 |.geq=>K (.bool (decide (b<=a)))
 |_=>False
theorem E2R{op:BinOp}{k:IntKind}{a b:Int}{K:D->Prop}(h:B3V op k a b K):A38 op k a b K:=by
 cases op<;>first|exact h|exact WrK.h h|exact⟨F8.h1 h,WrK.h (F8.h2 h)⟩|exact⟨F8.h1 h,F8.h2 h⟩|exact h.elim|skip
 all_goals
  simp only[A38]
  first|(rw[show(a==b)=decide (a=b) by rw[A0Z];simp];exact h)|(rw[show(a != b)=!decide (a=b) by rw[A0Z];simp];exact h)
def C5L(op:BinOp)(x y:List UInt8)(K:D->Prop):Prop:=
 match op with
 |.add=>F8 (x.length+y.length<=9223372036854775807) (K (.str (x++y)))
 |.eql=>K (.bool (decide (x=y)))
 |.neq=>K (.bool (!decide (x=y)))
 |.lss=>K (.bool (Op.bytesLess x y))
 |.leq=>K (.bool (Op.bytesLess x y||decide (x=y)))
 |.gtr=>K (.bool !(Op.bytesLess x y||decide (x=y)))
 |.geq=>K (.bool !(Op.bytesLess x y))
 |_=>False
theorem E2S{op:BinOp}{x y:List UInt8}{K:D->Prop}(h:C5L op x y K):A3M op x y K:=by
 have e:(x==y)=decide (x=y):=by rw[A0Z];simp
 cases op<;>first|exact h|exact⟨F8.h1 h,F8.h2 h⟩|exact h.elim|(simp only[A3M,e];exact h)
def kq:IntKind->IntKind->Bool
 |.i8,.i8=>true|.i16,.i16=>true|.i32,.i32=>true|.i64,.i64=>true
 |.u8,.u8=>true|.u16,.u16=>true|.u32,.u32=>true|.u64,.u64=>true
 |_,_=>false
theorem C3B{k k':IntKind}(h:kq k k'=true):k=k':=by cases k<;>cases k'<;>first|rfl|cases h
def C5K(op:BinOp)(x y:AV)(K:D->Prop):Prop:=
 match x,y with
 |.d (.int k a),.d (.int k' b)=>match op with
  |.shl=>F8 (0<=b) (K (.int k (k.wrap (a*2 ^ (min b.toNat k.bits)))))
  |.shr=>F8 (0<=b) (K (.int k (a.fdiv (2 ^ (min b.toNat k.bits)))))
  |op=>Cn (kq k k') (B3V op k a b K) False
 |.d (.str s),.d (.str t)=>C5L op s t K
 |_,_=>False
theorem E2T{op:BinOp}{x y:AV}{K:D->Prop}(h:C5K op x y K):A4y op x y K:=by
 cases x with
 |d x=>cases x with
  |int k a=>cases y with
   |d y=>cases y with
    |int k' b=>
     have key:Cn (kq k k') (B3V op k a b K) False->k=k'/\A38 op k a b K:=λh=>by
      obtain⟨h1,h2⟩:=Z0.1 h
      exact⟨C3B h1,E2R h2⟩
     cases op<;>first|exact h|exact⟨F8.h1 h,F8.h2 h⟩|exact key h
    |_=>exact h.elim
   |_=>exact h.elim
  |str s=>cases y with
   |d y=>cases y with
    |str t=>exact E2S h
    |_=>exact h.elim
   |_=>exact h.elim
  |_=>exact h.elim
 |_=>exact h.elim
def A3X:SK->AV->AV->(Bool->Prop)->Prop
 |.i,.d (.int k a),.d (.int k' b),K=>Cn (kq k k') (K (decide (a=b))) False
 |.b,.d (.bool a),.d (.bool b),K=>K (a==b)
 |.s,.d (.str a),.d (.str b),K=>K (decide (a=b))
 |_,_,_,_=>False
def A4F:List SK->List AV->List AV->(Bool->Prop)->Prop
 |[],[],[],K=>K true
 |[k],[x],[y],K=>A3X k x y K
 |k::ks,x::xs,y::ys,K=>A3X k x y λa=>A4F ks xs ys λb=>K (a&&b)
 |_,_,_,_=>False
theorem C2A{k:SK}{x y:AV}{K:Bool->Prop}(h:A3X k x y K):∃a b r,x=.d a/\y=.d b/\eqD k a b=some r/\K r:=by
 unfold A3X at h
 split at h
 ·rename_i k a k' b
  obtain⟨h1,h2⟩:=Z0.1 h
  refine⟨_,_,a==b,rfl,rfl,by simp only[eqD,C3B h1,if_true],?_⟩
  rw[show(a==b)=decide (a=b) by rw[A0Z];simp];exact h2
 ·exact⟨_,_,_,rfl,rfl,rfl,h⟩
 ·rename_i a b
  refine⟨_,_,a==b,rfl,rfl,rfl,?_⟩
  rw[show(a==b)=decide (a=b) by rw[A0Z];simp];exact h
 ·exact h.elim
theorem D8x:∀{ks:List SK}{xs ys:List AV}{K:Bool->Prop},A4F ks xs ys K->∃b,eqL ks xs ys=some b/\K b:=by
 intro ks
 induction ks with
 |nil=>
  intro xs ys K h
  cases xs<;>cases ys<;>first|exact⟨true,rfl,h⟩|exact h.elim
 |cons k ks ih=>
  intro xs ys K h
  cases xs with
  |nil=>cases ks<;>cases ys<;>exact h.elim
  |cons x xs=>
   cases ys with
   |nil=>cases ks<;>cases xs<;>exact h.elim
   |cons y ys=>
    have gen:A3X k x y (λa=>A4F ks xs ys λb=>K (a&&b))->∃b,eqL (k::ks) (x::xs) (y::ys)=some b/\K b:=λh=>by
     obtain⟨a,b,r,rfl,rfl,h1,h2⟩:=C2A h
     obtain⟨c,h3,h4⟩:=ih h2
     exact⟨r&&c,by simp only[eqL,h1,h3],h4⟩
    cases ks with
    |cons k2 ks=>cases xs<;>cases ys<;>exact gen h
    |nil=>
     cases xs with
     |cons x2 xs=>cases ys<;>exact gen h
     |nil=>
      cases ys with
      |cons y2 ys=>exact gen h
      |nil=>
       refine gen ?_
       obtain⟨a,b,r,rfl,rfl,h1,h2⟩:=C2A (K:=K) h
       cases k<;>cases a<;>cases b<;>simp only[eqD] at h1<;>first|cases h1|skip
       ·simp only[A4F,A3X] at h ⊢;simpa using h
       ·simp only[A4F,A3X] at h ⊢;simpa using h
       ·simp only[A4F,A3X] at h ⊢;simpa using h
def xSh(os:List AO)(d:Nat)(x:AV)(K:AV->Prop):Prop:=
 match x with
 |.ptr id o=>K (.ptr id (o+d))
 |.aptr id l i o=>R7 os id λob=>match ob with
  |.arr es _ _ _=>F8 (l=es.length) (K (.aptr id l i (o+d)))
  |_=>False
 |.dptr es i o=>K (.dptr es i (o+d))
 |_=>False
theorem B3Z{os:List AO}{d:Nat}{x:AV}{K:AV->Prop}(h:xSh os d x K):p8 os d x K:=by
 cases x with
 |aptr id l i o=>
  obtain⟨ob,h1,h2⟩:=R0 h
  cases ob with
  |arr es sz frz nl=>simp only[p8,h1];exact⟨h2.1,h2.2⟩
  |_=>exact h2.elim
 |ptr id o=>exact h
 |dptr es i o=>exact h
 |_=>exact h.elim
def B3W(os:List AO)(agg:Bool)(n:Nat)(x:AV)(K:AV->Prop):Prop:=
 match x with
 |.ptr id off=>R7 os id λob=>match ob with
  |.cells cs=>Cn agg (gcs cs off n λl=>K (.agg l)) (gc cs off λc=>frc c K)
  |_=>False
 |.aptr id len i off=>R7 os id λob=>match ob with
  |.arr es sz frz nl=>F8 (len=es.length) (F8 (nl=false) (gc es i λe=>Cn agg (F8 (off+n<=sz) (A1R e off λr=>p9 r n λl=>A0v .d l λl=>K (.agg l))) (F8 (off<sz) (gc e off λc=>K (.d c)))))
  |_=>False
 |.rp id len i off=>R7 os id λob=>match ob with
  |.rarr es sz nl=>F8 (len=es.length) (F8 (nl=false) (gc es i λe=>Cn agg (F8 (off+n<=sz) (A1R e off λr=>p9 r n λl=>K (.agg l))) (F8 (off<sz) (gc e off λc=>frc c K))))
  |_=>False
 |.dptr es i off=>gc es i λe=>Cn agg (gcs e off n λl=>A0v .d l λl=>K (.agg l)) (gc e off λc=>K (.d c))
 |_=>False
theorem A1U{α:Type}{l:List α}{i:Nat}{e d:α}(h:l[i]?=some e):l.getD i d=e:=by rw[H6,h];exact rfl
theorem C5N{os:List AO}{agg:Bool}{n:Nat}{x:AV}{K:AV->Prop}(h:B3W os agg n x K):Z2 os agg n x K:=by
 cases x with
 |ptr id off=>
  obtain⟨ob,h1,h2⟩:=R0 h
  cases ob with
  |cells cs=>
   simp only[Z2,h1]
   cases agg with
   |true=>exact A9y h2
   |false=>
    obtain⟨c,h3,h4⟩:=A1T h2
    exact⟨(B3.1 h3).1,by rw[A1U h3];exact A2u.1 h4⟩
  |_=>exact h2.elim
 |aptr id len i off=>
  obtain⟨ob,h1,h2⟩:=R0 h
  cases ob with
  |arr es sz frz nl=>
   obtain⟨h3,h4,h5⟩:=h2
   obtain⟨e,h6,h7⟩:=A1T h5
   simp only[Z2,h1,A1U h6]
   refine⟨h3,(B3.1 h6).1,h4,?_⟩
   cases agg with
   |true=>
    obtain⟨h8,h9⟩:=h7
    exact⟨h8,A0Q.1 (A29.1 (A4D.1 h9))⟩
   |false=>
    obtain⟨h8,h9⟩:=h7
    obtain⟨c,h10,h11⟩:=A1T h9
    exact⟨h8,by rw[A1U h10];exact h11⟩
  |_=>exact h2.elim
 |rp id len i off=>
  obtain⟨ob,h1,h2⟩:=R0 h
  cases ob with
  |rarr es sz nl=>
   obtain⟨h3,h4,h5⟩:=h2
   obtain⟨e,h6,h7⟩:=A1T h5
   simp only[Z2,h1,A1U h6]
   refine⟨h3,(B3.1 h6).1,h4,?_⟩
   cases agg with
   |true=>
    obtain⟨h8,h9⟩:=h7
    exact⟨h8,A29.1 (A4D.1 h9)⟩
   |false=>
    obtain⟨h8,h9⟩:=h7
    obtain⟨c,h10,h11⟩:=A1T h9
    exact⟨h8,by rw[A1U h10];exact A2u.1 h11⟩
  |_=>exact h2.elim
 |dptr es i off=>
  obtain⟨e,h6,h7⟩:=A1T h
  simp only[Z2,A1U h6]
  refine⟨(B3.1 h6).1,?_⟩
  cases agg with
  |true=>
   obtain⟨h8,h9⟩:=A9y h7
   exact⟨h8,A0Q.1 h9⟩
  |false=>
   obtain⟨c,h10,h11⟩:=A1T h7
   exact⟨(B3.1 h10).1,by rw[A1U h10];exact h11⟩
 |_=>exact h.elim
def A9v(os:List AO)(v:AV)(K:D->List AO->Prop):Prop:=match v with
 |.d x=>K x os
 |.arr id len=>R7 os id λob=>match ob with
  |.arr es sz frz nl=>F8 (len=es.length) (j4 os id (.arr es sz es.length nl) λos'=>K (w7 nl .nil (.sl es)) os')
  |_=>False
 |_=>False
theorem B2z{os:List AO}{v:AV}{K:D->List AO->Prop}(h:A9v os v K):∃x os',A1f os v=some (x,os')/\K x os':=by
 cases v with
 |d x=>exact⟨x,os,rfl,h⟩
 |arr id len=>
  obtain⟨ob,h1,h2⟩:=R0 h
  cases ob with
  |arr es sz frz nl=>
   obtain⟨h3,h4⟩:=h2
   refine⟨_,_,by simp only[A1f,h1,if_pos h3];rfl,?_⟩
   have:=y9.1 h4
   cases nl<;>exact this
  |_=>exact h2.elim
 |_=>exact h.elim
def A4H(os:List AO):List AV->(List D->List AO->Prop)->Prop
 |[],K=>K [] os
 |c::cs,K=>A9v os c λx os1=>A4H os1 cs λxs os2=>K (x::xs) os2
theorem A7h:∀{cs:List AV}{os:List AO}{K:List D->List AO->Prop},A4H os cs K->∃xs os',t8 os cs=some (xs,os')/\K xs os'
 |[],os,K,h=>⟨[],os,rfl,h⟩
 |c::cs,os,K,h=>by
  obtain⟨x,os1,h1,h2⟩:=B2z h
  obtain⟨xs,os2,h3,h4⟩:=A7h h2
  exact⟨x::xs,os2,by simp only[t8,h1,h3],h4⟩
def B2A(os:List AO)(v:AV)(K:AV->List AO->Prop):Prop:=match v with
 |.agg cs=>A4H os cs λxs os1=>A0v .d xs λl=>K (.agg l) os1
 |.d x=>K (.d x) os
 |.arr id len=>A9v os (.arr id len) λx os1=>K (.d x) os1
 |_=>False
theorem C3h{os:List AO}{v:AV}{K:AV->List AO->Prop}(h:B2A os v K):∃x os',A1g os v=some (x,os')/\K x os':=by
 cases v with
 |d x=>exact⟨_,os,rfl,h⟩
 |arr id len=>
  obtain⟨x,os1,h1,h2⟩:=B2z (os:=os) (v:=.arr id len) (K:=λx os1=>K (.d x) os1) h
  exact⟨_,_,by simp only[A1g,h1],h2⟩
 |agg cs=>
  obtain⟨x,os1,h1,h2⟩:=A7h h
  exact⟨_,_,by simp only[A1g,h1],(A0Q (f:=AV.d)).1 h2⟩
 |_=>exact h.elim
def A1h(os:List AO):List AV->(List AV->List AO->Prop)->Prop
 |[],K=>K [] os
 |c::cs,K=>B2A os c λx os1=>A1h os1 cs λxs os2=>K (x::xs) os2
theorem A4I:∀{cs:List AV}{os:List AO}{K:List AV->List AO->Prop},A1h os cs K->∃xs os',e9 os cs=some (xs,os')/\K xs os'
 |[],os,K,h=>⟨[],os,rfl,h⟩
 |c::cs,os,K,h=>by
  obtain⟨x,os1,h1,h2⟩:=C3h h
  obtain⟨xs,os2,h3,h4⟩:=A4I h2
  exact⟨x::xs,os2,by simp only[e9,h1,h3],h4⟩
def A2D(os:List AO):List AV->(List AV->List AO->Prop)->Prop
 |[],K=>K [] os
 |c::cs,K=>Cn c.ref (A2D os cs λxs os2=>K (c::xs) os2) (B2A os c λx os1=>A2D os1 cs λxs os2=>K (x::xs) os2)
theorem A7G:∀{cs:List AV}{os:List AO}{K:List AV->List AO->Prop},A2D os cs K->∃xs os',u9 os cs=some (xs,os')/\K xs os'
 |[],os,K,h=>⟨[],os,rfl,h⟩
 |c::cs,os,K,h=>by
  unfold A2D at h
  cases hr:c.ref with
  |true=>
   rw[hr] at h
   obtain⟨xs,os2,h3,h4⟩:=A7G (cs:=cs) h
   exact⟨c::xs,os2,by simp only[u9,hr,if_true,h3],h4⟩
  |false=>
   rw[hr] at h
   obtain⟨x,os1,h1,h2⟩:=C3h (K:=λx os1=>A2D os1 cs λxs os2=>K (x::xs) os2) h
   obtain⟨xs,os2,h3,h4⟩:=A7G h2
   exact⟨x::xs,os2,by simp only[u9,hr,N6,if_false,h1,h3],h4⟩
def C5V(os:List AO)(n:Nat)(x v:AV)(K:List AO->Prop):Prop:=
 A6K v λvc=>match x with
 |.ptr id off=>R7 os id λob=>match ob with
  |.cells cs=>Cn (Nat.beq vc.length n) (stc cs off n vc λcs'=>j4 os id (.cells cs') K) False
  |_=>False
 |.aptr id len i off=>A4H os vc λxs os1=>R7 os1 id λob=>match ob with
  |.arr es sz frz nl=>F8 (len=es.length) (F8 (frz<=i) (F8 (nl=false) (Cn (Nat.beq xs.length n) (gc es i λe=>F8 (off+n<=sz) (A3k e off xs λe'=>j4 os1 id (.arr (es.set i e') sz frz nl) K)) False)))
  |_=>False
 |_=>False
theorem E2W{os:List AO}{n:Nat}{x v:AV}{K:List AO->Prop}(h:C5V os n x v K):A27 os n x v K:=by
 obtain⟨vc,h1,h2⟩:=A91 h
 simp only[A27,h1]
 cases x with
 |ptr id off=>
  obtain⟨ob,h3,h4⟩:=R0 h2
  cases ob with
  |cells cs=>
   obtain⟨h5,h6⟩:=Z0.1 h4
   obtain⟨h7,h8⟩:=C54 (U5 h5) h6
   simp only[h3]
   exact⟨U5 h5,h7,y9.1 h8⟩
  |_=>exact h4.elim
 |aptr id len i off=>
  obtain⟨xs,os1,h3,h4⟩:=A7h h2
  obtain⟨ob,h5,h6⟩:=R0 h4
  cases ob with
  |arr es sz frz nl=>
   obtain⟨a1,a2,a3,a4⟩:=h6
   obtain⟨a5,a6⟩:=Z0.1 a4
   obtain⟨e,a7,a8,a9⟩:=A1T a6
   simp only[h3,h5,A1U a7]
   exact⟨a1,a2,(B3.1 a7).1,a3,U5 a5,a8,y9.1 (B0a.1 a9)⟩
  |_=>exact h6.elim
 |_=>exact h2.elim
def A5C(L:Sl):List (Nat×Nat×C2)->List AV->(List AV->Prop)->Prop
 |[],cs,K=>K cs
 |(off,n,x)::ps,cs,K=>xV L x λv=>A6K v λxs=>Cn (Nat.beq xs.length n) (stc cs off n xs λcs'=>A5C L ps cs' K) False
theorem A7a{L:Sl}:∀{ps:List (Nat×Nat×C2)}{cs:List AV}{K:List AV->Prop},A5C L ps cs K->Q8 (E7 L) ps cs K
 |[],cs,K,h=>h
 |(off,n,x)::ps,cs,K,h=>by
  obtain⟨xs,h1,h2⟩:=A91 (G9 h)
  obtain⟨h3,h4⟩:=Z0.1 h2
  obtain⟨h5,h6⟩:=C54 (U5 h3) h4
  simp only[Q8,h1]
  exact⟨U5 h3,h5,A7a h6⟩
def A1w(L:Sl)(x:Option C2)(dflt:Nat)(K:Int->Prop):Prop:=
 match x with
 |none=>K dflt
 |some x=>xV L x λv=>match v with
  |.d (.int _ n)=>K n
  |_=>False
theorem A2N{L:Sl}{x:Option C2}{dflt:Nat}{K:Int->Prop}(h:A1w L x dflt K):W4 (E7 L) x dflt K:=by
 cases x with
 |none=>exact h
 |some x=>
  have:=G9 h
  simp only[W4]
  split
  ·rename_i n e;rw[e] at this;exact this
  ·rename_i e
   split at this
   ·rename_i n e2;exact absurd e2 (e _ _)
   ·exact this.elim
def B3X(os:List AO)(x:AV)(K:List (List D)->Prop):Prop:=
 match x with
 |.d x=>A8t x K
 |.arr id len=>R7 os id λob=>match ob with
  |.arr es sz frz nl=>F8 (len=es.length) (K es)
  |_=>False
 |_=>False
theorem C5O{os:List AO}{x:AV}{K:List (List D)->Prop}(h:B3X os x K):u6 os x K:=by
 cases x with
 |d x=>
  obtain⟨⟨es,h1,h2⟩⟩:=h
  rcases h1 with ⟨rfl,rfl⟩|rfl
  ·exact h2
  ·exact h2
 |arr id len=>
  obtain⟨ob,h1,h2⟩:=R0 h
  cases ob with
  |arr es sz frz nl=>simp only[u6,h1];exact⟨h2.1,h2.2⟩
  |_=>exact h2.elim
 |_=>exact h.elim
def B3U(os:List AO)(sz bytes:Nat)(s:AV)(ns:List (List D))(K:AV->List AO->Prop):Prop:=
 match s with
 |.d .nil=>F8 (ns.length*bytes<=140737488355328/\ns.length<=9223372036854775807) (F8 (∀e∈ns,e.length=sz) (A0d os 0 λm=>s9 os [.arr ns sz 0 ns.isEmpty] λos'=>K (.arr m ns.length) os'))
 |.arr id len=>R7 os id λob=>match ob with
  |.arr es sz' frz nl=>F8 (len=es.length) (Cn (Nat.beq sz' sz) (F8 ((es.length+ns.length)*bytes<=140737488355328/\es.length+ns.length<=9223372036854775807)
    (F8 (∀e∈ns,e.length=sz) (j4 os id (.arr (es++ns) sz frz (cond ns.isEmpty nl false)) λos'=>K (.arr id (es++ns).length) os'))) False)
  |_=>False
 |_=>False
theorem C5I{os:List AO}{sz bytes:Nat}{s:AV}{ns:List (List D)}{K:AV->List AO->Prop}(h:B3U os sz bytes s ns K):A1a os sz bytes s ns K:=by
 cases s with
 |d x=>cases x with
  |nil=>
   obtain⟨⟨h1,h2⟩,h3,h4⟩:=h
   refine⟨h1,h2,h3,?_⟩
   have:=A0m.1 (B2K.1 h4)
   rw[A17] at this
   exact this
  |_=>exact h.elim
 |arr id len=>
  obtain⟨ob,h1,h2⟩:=R0 h
  cases ob with
  |arr es sz' frz nl=>
   obtain⟨h3,h4⟩:=h2
   obtain⟨h5,⟨h6,h6'⟩,h7,h8⟩:=Z0.1 h4
   simp only[A1a,h1]
   refine⟨h3,U5 h5,h6,h6',h7,?_⟩
   have:=y9.1 h8
   rw[H3] at this
   have e:(nl&&ns.isEmpty)=cond ns.isEmpty nl false:=by cases ns.isEmpty<;>cases nl<;>rfl
   rw[e];exact this
  |_=>exact h2.elim
 |_=>exact h.elim
def C5J(os:List AO)(sz bytes:Nat)(s:AV)(ns:List (List AV))(K:AV->List AO->Prop):Prop:=
 match s with
 |.rs id len=>R7 os id λob=>match ob with
  |.rarr es sz' nl=>F8 (len=es.length) (Cn (Nat.beq sz' sz) (F8 ((es.length+ns.length)*bytes<=140737488355328/\es.length+ns.length<=9223372036854775807)
    (F8 (∀e∈ns,e.length=sz) (j4 os id (.rarr (es++ns) sz (cond ns.isEmpty nl false)) λos'=>K (.rs id (es++ns).length) os'))) False)
  |_=>False
 |_=>False
theorem E2Q{os:List AO}{sz bytes:Nat}{s:AV}{ns:List (List AV)}{K:AV->List AO->Prop}(h:C5J os sz bytes s ns K):A1J os sz bytes s ns K:=by
 cases s with
 |rs id len=>
  obtain⟨ob,h1,h2⟩:=R0 h
  cases ob with
  |rarr es sz' nl=>
   obtain⟨h3,h4⟩:=h2
   obtain⟨h5,⟨h6,h6'⟩,h7,h8⟩:=Z0.1 h4
   simp only[A1J,h1]
   refine⟨h3,U5 h5,h6,h6',h7,?_⟩
   have:=y9.1 h8
   rw[H3] at this
   have e:(nl&&ns.isEmpty)=cond ns.isEmpty nl false:=by cases ns.isEmpty<;>cases nl<;>rfl
   rw[e];exact this
  |_=>exact h2.elim
 |_=>exact h.elim
structure C0U(P:Program)(g:FuncId)(as:List AV)(K:List (List D)->Nat->Bool->Prop):Prop where
 h:∃es sz nl,C0 P g as [] (λr os2=>r=.arr 0 es.length/\os2=[.arr es sz 0 nl])/\K es sz nl
structure B8w(P:Program)(g:FuncId)(id len:Nat)(as:List AV)(es:List (List D))(sz frz:Nat)(nl:Bool)(K:List (List D)->Bool->Prop):Prop where
 h:∃es' nl',(∀os2:List AO,os2[id]?=some (.arr es sz frz nl)->C0 P g (.arr id len::as) os2 λr os3=>r=.arr id es'.length/\os3=os2.set id (.arr es' sz frz nl'))/\K es' nl'
def A9H(mx:Bool)(k:IntKind)(a:Int):List AV->(AV->Prop)->Prop
 |[],K=>K (.d (.int k a))
 |.d (.int k' b)::xs,K=>Cn mx (A9H mx k (max a b) xs K) (A9H mx k (min a b) xs K)
 |_,_=>False
theorem B2R{mx:Bool}{k:IntKind}{K:AV->Prop}:∀{xs:List AV}{a:Int},A9H mx k a xs K->y7 mx k a xs K
 |[],a,h=>h
 |x::xs,a,h=>by
  cases x with
  |d x=>cases x with
   |int k' b=>
    simp only[y7]
    cases mx with
    |true=>
     have h':=B2R (xs:=xs) (a:=max a b) h
     simp only[if_true]
     exact⟨λhle=>by rw[Int.max_eq_left hle] at h';exact h',λhlt=>by rw[Int.max_eq_right (by omega)] at h';exact h'⟩
    |false=>
     have h':=B2R (xs:=xs) (a:=min a b) h
     simp only[N6,if_false]
     exact⟨λhle=>by rw[Int.min_eq_left hle] at h';exact h',λhlt=>by rw[Int.min_eq_right (by omega)] at h';exact h'⟩
   |_=>exact h.elim
  |_=>exact h.elim
def xVs(L:Sl):List C2->(List AV->Prop)->Prop
 |[],K=>K []
 |x::xs,K=>xV L x λv=>xVs L xs λvs=>K (v::vs)
theorem A2c{L:Sl}:∀{xs:List C2}{K:List AV->Prop},xVs L xs K->K (xs.map (C1 (E7 L)))
 |[],_,h=>h
 |x::xs,K,h=>A2c (xs:=xs) (K:=λvs=>K (C1 (E7 L) x::vs)) (G9 h)
def B24(L:Sl):List C2->(List Nat->Prop)->Prop
 |[],K=>K []
 |x::xs,K=>xV L x λv=>match v with
  |.ptr id 0=>B24 L xs λl=>K (id::l)
  |_=>False
theorem C1D{L:Sl}:∀{xs:List C2}{K:List Nat->Prop},B24 L xs K->∃ids,xs.mapM (λc=>A5m (C1 (E7 L) c))=some ids/\K ids
 |[],K,h=>⟨[],rfl,h⟩
 |x::xs,K,h=>by
  have:=G9 h
  split at this
  ·rename_i id e
   obtain⟨ids,h1,h2⟩:=C1D this
   exact⟨id::ids,by rw[A12,h1,e];rfl,h2⟩
  ·exact this.elim
end Go.Bi
