/- An evaluator of compiled code by continuations, made to be unfolded step by step. No condition. -/
import Derived.Test.YtfnaleemmeejcaaGreatBT
set_option linter.unusedVariables false
namespace Go.Bi
set_option linter.unusedSectionVars false
variable [N0]
abbrev Sl:=List (Nat×AV)
def frc(a:AV)(K:AV->Prop):Prop:=match a with
 |.d x=>K (.d x)
 |.agg cs=>K (.agg cs)
 |.tup cs=>K (.tup cs)
 |.ptr i o=>K (.ptr i o)
 |.aptr a b c d=>K (.aptr a b c d)
 |.dptr a b c=>K (.dptr a b c)
 |.arr a b=>K (.arr a b)
 |.clo a b=>K (.clo a b)
 |.bcl a b=>K (.bcl a b)
 |.iter a=>K (.iter a)
 |.mp a=>K (.mp a)
 |.mit a=>K (.mit a)
 |.rs a b=>K (.rs a b)
 |.rp a b c d=>K (.rp a b c d)
 |.junk=>K .junk
theorem A28{a:AV}{K:AV->Prop}:frc a K↔K a:=by cases a<;>exact Iff.rfl
def A5A{α:Type}:List α->Nat->(α->Prop)->Prop
 |[],_,_=>False
 |x::_,0,K=>K x
 |_::l,n+1,K=>A5A l n K
theorem Q6{α:Type}{K:α->Prop}:∀{l:List α}{n:Nat},A5A l n K->∃x,l[n]?=some x/\K x
 |[],_,h=>h.elim
 |x::_,0,h=>⟨x,rfl,h⟩
 |_::l,n+1,h=>by
  obtain⟨x,hx,hk⟩:=Q6 (l:=l) h
  exact⟨x,by simpa using hx,hk⟩
theorem C2H{α:Type}{K:α->Prop}{x:α}:∀{l:List α}{n:Nat},l[n]?=some x->K x->A5A l n K
 |[],_,h,_=>by simp at h
 |y::_,0,h,hk=>by simp at h;subst h;exact hk
 |_::l,n+1,h,hk=>C2H (l:=l) (by simpa using h) hk
def m7{α:Type}:List α->List α->(List α->Prop)->Prop
 |[],b,K=>K b
 |x::a,b,K=>m7 a b λr=>K (x::r)
theorem A06{α:Type}:∀{a b:List α}{K:List α->Prop},m7 a b K↔K (a++b)
 |[],_,_=>Iff.rfl
 |x::a,b,K=>A06 (a:=a) (K:=λr=>K (x::r))
def l6{α:Type}:List α->Nat->(List α->Prop)->Prop
 |_,0,K=>K []
 |[],_+1,K=>K []
 |x::l,n+1,K=>l6 l n λr=>K (x::r)
theorem A1Q{α:Type}:∀{l:List α}{n:Nat}{K:List α->Prop},l6 l n K↔K (l.take n)
 |_,0,_=>by simp[l6]
 |[],_+1,_=>by simp[l6]
 |x::l,n+1,K=>A1Q (l:=l) (n:=n) (K:=λr=>K (x::r))
def A1z{α:Type}:List α->Nat->(List α->Prop)->Prop
 |l,0,K=>K l
 |[],_+1,K=>K []
 |_::l,n+1,K=>A1z l n K
theorem A4e{α:Type}:∀{l:List α}{n:Nat}{K:List α->Prop},A1z l n K↔K (l.drop n)
 |_,0,_=>by simp[A1z]
 |[],_+1,_=>by simp[A1z]
 |_::l,n+1,K=>by simpa[A1z] using A4e (l:=l) (n:=n) (K:=K)
def f6{α:Type}:List α->Nat->α->(List α->Prop)->Prop
 |[],_,_,K=>K []
 |_::l,0,y,K=>K (y::l)
 |x::l,n+1,y,K=>f6 l n y λr=>K (x::r)
theorem u0{α:Type}{y:α}:∀{l:List α}{n:Nat}{K:List α->Prop},f6 l n y K↔K (l.set n y)
 |[],_,_=>Iff.rfl
 |_::l,0,_=>Iff.rfl
 |x::l,n+1,K=>u0 (l:=l) (n:=n) (K:=λr=>K (x::r))
def A0g{α β:Type}(f:α->β):List α->(List β->Prop)->Prop
 |[],K=>K []
 |x::l,K=>A0g f l λr=>K (f x::r)
theorem A0z{α β:Type}{f:α->β}:∀{l:List α}{K:List β->Prop},A0g f l K↔K (l.map f)
 |[],_=>Iff.rfl
 |x::l,K=>A0z (l:=l) (K:=λr=>K (f x::r))
def A2X{α:Type}:List α->Nat->List α->(List α->Prop)->Prop
 |cs,0,ps,K=>A1z cs ps.length λr=>m7 ps r K
 |[],_+1,ps,K=>K ps
 |c::cs,n+1,ps,K=>A2X cs n ps λr=>K (c::r)
theorem A9I{α:Type}{ps:List α}:∀{cs:List α}{n:Nat}{K:List α->Prop},A2X cs n ps K↔K (I6 cs n ps)
 |cs,0,K=>by
  cases cs<;>simp only[A2X,A4e,A06]<;>simp[I6]
 |[],_+1,K=>by simp[A2X,I6]
 |c::cs,n+1,K=>by
  have:=A9I (ps:=ps) (cs:=cs) (n:=n) (K:=λr=>K (c::r))
  simp only[A2X]
  rw[this]
  simp[I6,Nat.add_right_comm n 1]
def y7{α:Type}:List α->Nat->(Nat->Prop)->Prop
 |[],n,K=>K n
 |_::l,n,K=>y7 l (n+1) K
theorem B2k{α:Type}:∀{l:List α}{n:Nat}{K:Nat->Prop},y7 l n K↔K (n+l.length)
 |[],_,_=>Iff.rfl
 |_::l,n,K=>by simp only[y7,B2k (l:=l)];rw[show n+1+l.length=n+(l.length+1) by omega];exact Iff.rfl
def dsK:List AV->(List D->Prop)->Prop->Prop
 |[],K,_=>K []
 |c::l,K,E=>match c with
  |.d x=>dsK l (λr=>K (x::r)) E
  |_=>E
theorem C15:∀{cs:List AV}{K:List D->Prop}{E:Prop},dsK cs K E->match A26 cs with
  |some ds=>K ds
  |none=>E
 |[],_,_,h=>h
 |c::l,K,E,h=>by
  cases c with
  |d x=>
   have h2:=C15 (cs:=l) (K:=λr=>K (x::r)) (E:=E) h
   unfold A26
   cases hl:A26 l with
   |some ds=>rw[hl] at h2;exact h2
   |none=>rw[hl] at h2;exact h2
  |_=>exact h
def A3m{α:Type}(sz:Nat):Nat->List α->(List (List α)->Prop)->Prop
 |0,_,K=>K []
 |n+1,l,K=>l6 l sz λa=>A1z l sz λb=>A3m sz n b λr=>K (a::r)
theorem A55{α:Type}{sz:Nat}:∀{n:Nat}{l:List α}{K:List (List α)->Prop},A3m sz n l K↔K (S8 sz n l)
 |0,_,_=>Iff.rfl
 |n+1,l,K=>by
  simp only[A3m,A1Q,A4e]
  exact A55 (n:=n) (K:=λr=>K (l.take sz::r))
abbrev Cn(b:Bool)(X Y:Prop):Prop:=match b with
 |true=>X
 |false=>Y
abbrev Gn(b:Bool)(X:Prop):Prop:=match b with
 |false=>False
 |true=>X
theorem B2b{b:Bool}{X:Prop}:Gn b X↔b=true/\X:=by cases b<;>simp[Gn]
def u7:Bool->D->D->D
 |true,X,_=>X
 |false,_,Y=>Y
theorem Y4{b:Bool}{X:Prop}:Cn b X False↔b=true/\X:=by cases b<;>simp[Cn]
theorem A0V{b:Bool}{X Y:Prop}:Cn b X Y↔(b=true->X)/\(b=false->Y):=by cases b<;>simp[Cn]
structure G4(p X:Prop):Prop where
 h1:p
 h2:X
structure w5(k:IntKind)(v:Int)(K:D->Prop):Prop where
 h:K (.int k (k.wrap v))
structure A86(d:D)(K:List (List D)->Prop):Prop where
 h:∃es,A9 d es/\K es
structure A2C(P:Program)(g:FuncId)(as:List AV)(K:AV->Prop):Prop where
 h:∃r,Pure P g as r/\K r
structure A3f(P:Program)(g:FuncId)(as:List AV)(os:List AO)(K:AV->List AO->Prop):Prop where
 h:B9 P g as [] λr os2=>K (shA os.length r) (os++os2.map (Y6 os.length))
structure A1h(P:Program)(g:FuncId)(as:List AV)(os:List AO)(K:AV->List AO->Prop):Prop where
 h:B9 P g as os K
structure B1l(P:Program)(g:FuncId)(as:List AV)(os:List AO)(K:AV->Prop):Prop where
 h:∃r,B9 P g as os (λr' os2=>r'=r/\os2=os)/\K r
structure B9M(P:Program)(g:FuncId)(id off:Nat)(ob:AO)(as:List AV)(K:AV->Prop):Prop where
 h:∃r,(∀os2:List AO,os2[id]?=some ob->B9 P g (.ptr id off::as) os2 (λr' os3=>r'=r/\os3=os2))/\K r
structure B0P(sk:SK)(ok g:Bool)(zs:List D)(key:D)(kvs:List (D×AV))(K:AV->Prop):Prop where
 h:mok sk key kvs/\∃r,lkR ok (zv g zs) (A2Q sk key kvs)=r/\K r
structure LkA(X Y:Prop):Prop where
 h:X\/Y
structure B7O(sk:SK)(key:D)(v:AV)(kvs:List (D×AV))(K:List (D×AV)->Prop):Prop where
 h:mok sk key kvs/\K (A12 sk key v kvs)
structure D1w(n:Nat)(seen:List Nat)(kvs:List (D×AV))(A:Nat->D×AV->Prop)(B:Prop):Prop where
 h0:n=kvs.length
 h1:∀(i:Nat) p,i∉ seen->kvs[i]?=some p->A i p
 h2:(∀i,i<n->i∈seen)->B
structure D1v(n:Nat)(seen:List Nat)(kvs:List (D×AV))(K:D×AV->Prop):Prop where
 h:n=kvs.length/\∃i p,seen.getLast?=some i/\kvs[i]?=some p/\K p
structure A80(X Y:Prop):Prop where
 h:X\/Y
def gc{α:Type}(cs:List α)(off:Nat)(K:α->Prop):Prop:=Gn (Nat.blt off cs.length) (A5A cs off K)
def gcs{α:Type}(cs:List α)(off n:Nat)(K:List α->Prop):Prop:=Cn (Nat.beq n cs.length&&Nat.beq off 0) (K cs) (Gn (Nat.ble (off+n) cs.length) (A1z cs off λr=>l6 r n K))
def stc{α:Type}(cs:List α)(off n:Nat)(vc:List α)(K:List α->Prop):Prop:=Cn (Nat.beq n cs.length&&Nat.beq off 0) (K vc) (Gn (Nat.ble (off+n) cs.length) (A2X cs off vc K))
theorem A1C{α:Type}{cs:List α}{off:Nat}{K:α->Prop}(h:gc cs off K):∃c,cs[off]?=some c/\K c:=Q6 (B2b.1 h).2
theorem A98{α:Type}{cs:List α}{off n:Nat}{K:List α->Prop}(h:gcs cs off n K):off+n<=cs.length/\K ((cs.drop off).take n):=by
 unfold gcs at h
 obtain⟨h1,h2⟩:=A0V.1 h
 cases hb:(Nat.beq n cs.length&&Nat.beq off 0) with
 |true=>
  have h3:=h1 hb
  simp only[K7] at hb
  have e1:=U3 hb.1
  have e2:=U3 hb.2
  subst e1;subst e2
  exact⟨by omega,by simpa using h3⟩
 |false=>
  obtain⟨h3,h4⟩:=B2b.1 (h2 hb)
  exact⟨R3 h3,A1Q.1 (A4e.1 h4)⟩
theorem C3S{α:Type}{cs vc:List α}{off n:Nat}{K:List α->Prop}(hl:vc.length=n)(h:stc cs off n vc K):off+n<=cs.length/\K (I6 cs off vc):=by
 unfold stc at h
 obtain⟨h1,h2⟩:=A0V.1 h
 cases hb:(Nat.beq n cs.length&&Nat.beq off 0) with
 |true=>
  have h3:=h1 hb
  simp only[K7] at hb
  have e1:=U3 hb.1
  have e2:=U3 hb.2
  subst e2
  have e3:I6 cs 0 vc=vc:=by simp[I6,show cs.length<=vc.length by omega]
  exact⟨by omega,by rw[e3];exact h3⟩
 |false=>
  obtain⟨h3,h4⟩:=B2b.1 (h2 hb)
  exact⟨R3 h3,A9I.1 h4⟩
def xV(L:Sl)(x:C1)(K:AV->Prop):Prop:=match x with
 |.t n=>frc (E8 L n) K
 |.c x=>K (.d x)
 |.g cs=>A0g .d cs λl=>K (.agg l)
theorem H1{L:Sl}{x:C1}{K:AV->Prop}(h:xV L x K):K (C0 (E8 L) x):=by
 cases x with
 |t n=>exact A28.1 h
 |c x=>exact h
 |g cs=>exact(A0z (f:=AV.d)).1 h
def R4(os:List AO)(id:Nat)(K:AO->Prop):Prop:=A5A os id K
def A6t(v:AV)(K:List AV->Prop):Prop:=match v with
 |.agg cs=>K cs
 |.tup _=>False
 |.junk=>False
 |.d x=>K [.d x]
 |.ptr i o=>K [.ptr i o]
 |.aptr a b c d=>K [.aptr a b c d]
 |.dptr a b c=>K [.dptr a b c]
 |.arr a b=>K [.arr a b]
 |.clo a b=>K [.clo a b]
 |.bcl a b=>K [.bcl a b]
 |.iter a=>K [.iter a]
 |.mp a=>K [.mp a]
 |.mit a=>K [.mit a]
 |.rs a b=>K [.rs a b]
 |.rp a b c d=>K [.rp a b c d]
theorem A8C{v:AV}{K:List AV->Prop}(h:A6t v K):∃cs,v.cells=some cs/\K cs:=by
 cases v<;>first|exact h.elim|exact⟨_,rfl,h⟩
def xUn(op:UnOp)(x:D)(K:D->Prop):Prop:=
 match op,x with
 |.neg,.int k n=>w5 k (0-n) K
 |.xor,.int k n=>K (.int k (k.wrap (BitVec.ofInt k.bits (if k.signed then -1 else k.max) ^^^ BitVec.ofInt k.bits n).toNat))
 |.not,.bool b=>K (.bool !b)
 |_,_=>False
theorem E0q{op:UnOp}{x:D}{K:D->Prop}(h:xUn op x K):unD op x K:=by
 cases op<;>cases x<;>first|exact h|exact w5.h h|exact h.elim
def B3u(op:BinOp)(k:IntKind)(a b:Int)(K:D->Prop):Prop:=
 match op with
 |.add=>w5 k (a+b) K
 |.sub=>w5 k (a-b) K
 |.mul=>w5 k (a*b) K
 |.quo=>G4 (b≠0) (w5 k (a.tdiv b) K)
 |.rem=>G4 (b≠0) (K (.int k (a.tmod b)))
 |.and=>K (.int k (k.wrap (BitVec.ofInt k.bits a &&& BitVec.ofInt k.bits b).toNat))
 |.or=>K (.int k (k.wrap (BitVec.ofInt k.bits a|||BitVec.ofInt k.bits b).toNat))
 |.xor=>K (.int k (k.wrap (BitVec.ofInt k.bits a ^^^ BitVec.ofInt k.bits b).toNat))
 |.andNot=>K (.int k (k.wrap (BitVec.ofInt k.bits a &&& ~~~ BitVec.ofInt k.bits b).toNat))
 |.eql=>K (.bool (decide (a=b)))
 |.neq=>K (.bool (!decide (a=b)))
 |.lss=>K (.bool (decide (a<b)))
 |.leq=>K (.bool (decide (a<=b)))
 |.gtr=>K (.bool (decide (b<a)))
 |.geq=>K (.bool (decide (b<=a)))
 |_=>False
theorem E0k{op:BinOp}{k:IntKind}{a b:Int}{K:D->Prop}(h:B3u op k a b K):A2J op k a b K:=by
 cases op<;>first|exact h|exact w5.h h|exact⟨G4.h1 h,w5.h (G4.h2 h)⟩|exact⟨G4.h1 h,G4.h2 h⟩|exact h.elim|skip
 all_goals
  simp only[A2J]
  first|(rw[show(a==b)=decide (a=b) by rw[A0n];simp];exact h)|(rw[show(a != b)=!decide (a=b) by rw[A0n];simp];exact h)
def C4t(op:BinOp)(x y:List UInt8)(K:D->Prop):Prop:=
 match op with
 |.add=>G4 (x.length+y.length<=9223372036854775807) (K (.str (x++y)))
 |.eql=>K (.bool (decide (x=y)))
 |.neq=>K (.bool (!decide (x=y)))
 |.lss=>K (.bool (Op.bytesLess x y))
 |.leq=>K (.bool (Op.bytesLess x y||decide (x=y)))
 |.gtr=>K (.bool !(Op.bytesLess x y||decide (x=y)))
 |.geq=>K (.bool !(Op.bytesLess x y))
 |_=>False
theorem E0l{op:BinOp}{x y:List UInt8}{K:D->Prop}(h:C4t op x y K):A3j op x y K:=by
 have e:(x==y)=decide (x=y):=by rw[A0n];simp
 cases op<;>first|exact h|exact⟨G4.h1 h,G4.h2 h⟩|exact h.elim|(simp only[A3j,e];exact h)
def kq:IntKind->IntKind->Bool
 |.i8,.i8=>true|.i16,.i16=>true|.i32,.i32=>true|.i64,.i64=>true
 |.u8,.u8=>true|.u16,.u16=>true|.u32,.u32=>true|.u64,.u64=>true
 |_,_=>false
theorem C2i{k k':IntKind}(h:kq k k'=true):k=k':=by cases k<;>cases k'<;>first|rfl|cases h
def C4s(op:BinOp)(x y:AV)(K:D->Prop):Prop:=
 match x,y with
 |.d (.int k a),.d (.int k' b)=>match op with
  |.shl=>G4 (0<=b) (K (.int k (k.wrap (a*2 ^ (min b.toNat k.bits)))))
  |.shr=>G4 (0<=b) (K (.int k (a.fdiv (2 ^ (min b.toNat k.bits)))))
  |op=>Cn (kq k k') (B3u op k a b K) False
 |.d (.str s),.d (.str t)=>C4t op s t K
 |_,_=>False
theorem E0m{op:BinOp}{x y:AV}{K:D->Prop}(h:C4s op x y K):A49 op x y K:=by
 cases x with
 |d x=>cases x with
  |int k a=>cases y with
   |d y=>cases y with
    |int k' b=>
     have key:Cn (kq k k') (B3u op k a b K) False->k=k'/\A2J op k a b K:=λh=>by
      obtain⟨h1,h2⟩:=Y4.1 h
      exact⟨C2i h1,E0k h2⟩
     cases op<;>first|exact h|exact⟨G4.h1 h,G4.h2 h⟩|exact key h
    |_=>exact h.elim
   |_=>exact h.elim
  |str s=>cases y with
   |d y=>cases y with
    |str t=>exact E0l h
    |_=>exact h.elim
   |_=>exact h.elim
  |_=>exact h.elim
 |_=>exact h.elim
def A3x:SK->AV->AV->(Bool->Prop)->Prop
 |.i,.d (.int k a),.d (.int k' b),K=>Cn (kq k k') (K (decide (a=b))) False
 |.b,.d (.bool a),.d (.bool b),K=>K (a==b)
 |.s,.d (.str a),.d (.str b),K=>K (decide (a=b))
 |_,_,_,_=>False
def A4g:List SK->List AV->List AV->(Bool->Prop)->Prop
 |[],[],[],K=>K true
 |[k],[x],[y],K=>A3x k x y K
 |k::ks,x::xs,y::ys,K=>A3x k x y λa=>A4g ks xs ys λb=>K (a&&b)
 |_,_,_,_=>False
theorem C1h{k:SK}{x y:AV}{K:Bool->Prop}(h:A3x k x y K):∃a b r,x=.d a/\y=.d b/\x7 k a b=some r/\K r:=by
 unfold A3x at h
 split at h
 ·rename_i k a k' b
  obtain⟨h1,h2⟩:=Y4.1 h
  refine⟨_,_,a==b,rfl,rfl,by simp only[x7,C2i h1,if_true],?_⟩
  rw[show(a==b)=decide (a=b) by rw[A0n];simp];exact h2
 ·exact⟨_,_,_,rfl,rfl,rfl,h⟩
 ·rename_i a b
  refine⟨_,_,a==b,rfl,rfl,rfl,?_⟩
  rw[show(a==b)=decide (a=b) by rw[A0n];simp];exact h
 ·exact h.elim
theorem D61:∀{ks:List SK}{xs ys:List AV}{K:Bool->Prop},A4g ks xs ys K->∃b,eqL ks xs ys=some b/\K b:=by
 intro ks
 induction ks with
 |nil=>
  intro xs ys K h
  cases xs<;>cases ys<;>first|exact⟨true,rfl,h⟩|exact h.elim
 |cons k ks ih=>
  intro xs ys K h
  cases xs with
  |nil=>cases ks<;>cases ys<;>exact h.elim
  |cons x xs=>
   cases ys with
   |nil=>cases ks<;>cases xs<;>exact h.elim
   |cons y ys=>
    have gen:A3x k x y (λa=>A4g ks xs ys λb=>K (a&&b))->∃b,eqL (k::ks) (x::xs) (y::ys)=some b/\K b:=λh=>by
     obtain⟨a,b,r,rfl,rfl,h1,h2⟩:=C1h h
     obtain⟨c,h3,h4⟩:=ih h2
     exact⟨r&&c,by simp only[eqL,h1,h3],h4⟩
    cases ks with
    |cons k2 ks=>cases xs<;>cases ys<;>exact gen h
    |nil=>
     cases xs with
     |cons x2 xs=>cases ys<;>exact gen h
     |nil=>
      cases ys with
      |cons y2 ys=>exact gen h
      |nil=>
       refine gen ?_
       obtain⟨a,b,r,rfl,rfl,h1,h2⟩:=C1h (K:=K) h
       cases k<;>cases a<;>cases b<;>simp only[x7] at h1<;>first|cases h1|skip
       ·simp only[A4g,A3x] at h ⊢;simpa using h
       ·simp only[A4g,A3x] at h ⊢;simpa using h
       ·simp only[A4g,A3x] at h ⊢;simpa using h
def xSh(os:List AO)(d:Nat)(x:AV)(K:AV->Prop):Prop:=
 match x with
 |.ptr id o=>K (.ptr id (o+d))
 |.aptr id l i o=>R4 os id λob=>match ob with
  |.arr es _ _ _=>G4 (l=es.length) (K (.aptr id l i (o+d)))
  |_=>False
 |.dptr es i o=>K (.dptr es i (o+d))
 |_=>False
theorem B3y{os:List AO}{d:Nat}{x:AV}{K:AV->Prop}(h:xSh os d x K):k8 os d x K:=by
 cases x with
 |aptr id l i o=>
  obtain⟨ob,h1,h2⟩:=Q6 h
  cases ob with
  |arr es sz frz nl=>simp only[k8,h1];exact⟨h2.1,h2.2⟩
  |_=>exact h2.elim
 |ptr id o=>exact h
 |dptr es i o=>exact h
 |_=>exact h.elim
def B3v(os:List AO)(agg:Bool)(n:Nat)(x:AV)(K:AV->Prop):Prop:=
 match x with
 |.ptr id off=>R4 os id λob=>match ob with
  |.cells cs=>Cn agg (gcs cs off n λl=>K (.agg l)) (gc cs off λc=>frc c K)
  |_=>False
 |.aptr id len i off=>R4 os id λob=>match ob with
  |.arr es sz frz nl=>G4 (len=es.length) (G4 (nl=false) (gc es i λe=>Cn agg (G4 (off+n<=sz) (A1z e off λr=>l6 r n λl=>A0g .d l λl=>K (.agg l))) (G4 (off<sz) (gc e off λc=>K (.d c)))))
  |_=>False
 |.rp id len i off=>R4 os id λob=>match ob with
  |.rarr es sz nl=>G4 (len=es.length) (G4 (nl=false) (gc es i λe=>Cn agg (G4 (off+n<=sz) (A1z e off λr=>l6 r n λl=>K (.agg l))) (G4 (off<sz) (gc e off λc=>frc c K))))
  |_=>False
 |.dptr es i off=>gc es i λe=>Cn agg (gcs e off n λl=>A0g .d l λl=>K (.agg l)) (gc e off λc=>K (.d c))
 |_=>False
theorem A1D{α:Type}{l:List α}{i:Nat}{e d:α}(h:l[i]?=some e):l.getD i d=e:=by rw[I4,h];exact rfl
theorem C4v{os:List AO}{agg:Bool}{n:Nat}{x:AV}{K:AV->Prop}(h:B3v os agg n x K):Y5 os agg n x K:=by
 cases x with
 |ptr id off=>
  obtain⟨ob,h1,h2⟩:=Q6 h
  cases ob with
  |cells cs=>
   simp only[Y5,h1]
   cases agg with
   |true=>exact A98 h2
   |false=>
    obtain⟨c,h3,h4⟩:=A1C h2
    exact⟨(B4.1 h3).1,by rw[A1D h3];exact A28.1 h4⟩
  |_=>exact h2.elim
 |aptr id len i off=>
  obtain⟨ob,h1,h2⟩:=Q6 h
  cases ob with
  |arr es sz frz nl=>
   obtain⟨h3,h4,h5⟩:=h2
   obtain⟨e,h6,h7⟩:=A1C h5
   simp only[Y5,h1,A1D h6]
   refine⟨h3,(B4.1 h6).1,h4,?_⟩
   cases agg with
   |true=>
    obtain⟨h8,h9⟩:=h7
    exact⟨h8,A0z.1 (A1Q.1 (A4e.1 h9))⟩
   |false=>
    obtain⟨h8,h9⟩:=h7
    obtain⟨c,h10,h11⟩:=A1C h9
    exact⟨h8,by rw[A1D h10];exact h11⟩
  |_=>exact h2.elim
 |rp id len i off=>
  obtain⟨ob,h1,h2⟩:=Q6 h
  cases ob with
  |rarr es sz nl=>
   obtain⟨h3,h4,h5⟩:=h2
   obtain⟨e,h6,h7⟩:=A1C h5
   simp only[Y5,h1,A1D h6]
   refine⟨h3,(B4.1 h6).1,h4,?_⟩
   cases agg with
   |true=>
    obtain⟨h8,h9⟩:=h7
    exact⟨h8,A1Q.1 (A4e.1 h9)⟩
   |false=>
    obtain⟨h8,h9⟩:=h7
    obtain⟨c,h10,h11⟩:=A1C h9
    exact⟨h8,by rw[A1D h10];exact A28.1 h11⟩
  |_=>exact h2.elim
 |dptr es i off=>
  obtain⟨e,h6,h7⟩:=A1C h
  simp only[Y5,A1D h6]
  refine⟨(B4.1 h6).1,?_⟩
  cases agg with
  |true=>
   obtain⟨h8,h9⟩:=A98 h7
   exact⟨h8,A0z.1 h9⟩
  |false=>
   obtain⟨c,h10,h11⟩:=A1C h7
   exact⟨(B4.1 h10).1,by rw[A1D h10];exact h11⟩
 |_=>exact h.elim
def A95(os:List AO)(v:AV)(K:D->List AO->Prop):Prop:=match v with
 |.d x=>K x os
 |.arr id len=>R4 os id λob=>match ob with
  |.arr es sz frz nl=>G4 (len=es.length) (f6 os id (.arr es sz es.length nl) λos'=>K (u7 nl .nil (.sl es)) os')
  |_=>False
 |_=>False
theorem B28{os:List AO}{v:AV}{K:D->List AO->Prop}(h:A95 os v K):∃x os',A0Y os v=some (x,os')/\K x os':=by
 cases v with
 |d x=>exact⟨x,os,rfl,h⟩
 |arr id len=>
  obtain⟨ob,h1,h2⟩:=Q6 h
  cases ob with
  |arr es sz frz nl=>
   obtain⟨h3,h4⟩:=h2
   refine⟨_,_,by simp only[A0Y,h1,if_pos h3];rfl,?_⟩
   have:=u0.1 h4
   cases nl<;>exact this
  |_=>exact h2.elim
 |_=>exact h.elim
def A4k(os:List AO):List AV->(List D->List AO->Prop)->Prop
 |[],K=>K [] os
 |c::cs,K=>A95 os c λx os1=>A4k os1 cs λxs os2=>K (x::xs) os2
theorem A6V:∀{cs:List AV}{os:List AO}{K:List D->List AO->Prop},A4k os cs K->∃xs os',n5 os cs=some (xs,os')/\K xs os'
 |[],os,K,h=>⟨[],os,rfl,h⟩
 |c::cs,os,K,h=>by
  obtain⟨x,os1,h1,h2⟩:=B28 h
  obtain⟨xs,os2,h3,h4⟩:=A6V h2
  exact⟨x::xs,os2,by simp only[n5,h1,h3],h4⟩
def B29(os:List AO)(v:AV)(K:AV->List AO->Prop):Prop:=match v with
 |.agg cs=>A4k os cs λxs os1=>A0g .d xs λl=>K (.agg l) os1
 |.d x=>K (.d x) os
 |.arr id len=>A95 os (.arr id len) λx os1=>K (.d x) os1
 |_=>False
theorem C1U{os:List AO}{v:AV}{K:AV->List AO->Prop}(h:B29 os v K):∃x os',A0Z os v=some (x,os')/\K x os':=by
 cases v with
 |d x=>exact⟨_,os,rfl,h⟩
 |arr id len=>
  obtain⟨x,os1,h1,h2⟩:=B28 (os:=os) (v:=.arr id len) (K:=λx os1=>K (.d x) os1) h
  exact⟨_,_,by simp only[A0Z,h1],h2⟩
 |agg cs=>
  obtain⟨x,os1,h1,h2⟩:=A6V h
  exact⟨_,_,by simp only[A0Z,h1],(A0z (f:=AV.d)).1 h2⟩
 |_=>exact h.elim
def A10(os:List AO):List AV->(List AV->List AO->Prop)->Prop
 |[],K=>K [] os
 |c::cs,K=>B29 os c λx os1=>A10 os1 cs λxs os2=>K (x::xs) os2
theorem A4l:∀{cs:List AV}{os:List AO}{K:List AV->List AO->Prop},A10 os cs K->∃xs os',Z5 os cs=some (xs,os')/\K xs os'
 |[],os,K,h=>⟨[],os,rfl,h⟩
 |c::cs,os,K,h=>by
  obtain⟨x,os1,h1,h2⟩:=C1U h
  obtain⟨xs,os2,h3,h4⟩:=A4l h2
  exact⟨x::xs,os2,by simp only[Z5,h1,h3],h4⟩
def A2h(os:List AO):List AV->(List AV->List AO->Prop)->Prop
 |[],K=>K [] os
 |c::cs,K=>Cn c.ref (A2h os cs λxs os2=>K (c::xs) os2) (B29 os c λx os1=>A2h os1 cs λxs os2=>K (x::xs) os2)
theorem A7i:∀{cs:List AV}{os:List AO}{K:List AV->List AO->Prop},A2h os cs K->∃xs os',p8 os cs=some (xs,os')/\K xs os'
 |[],os,K,h=>⟨[],os,rfl,h⟩
 |c::cs,os,K,h=>by
  unfold A2h at h
  cases hr:c.ref with
  |true=>
   rw[hr] at h
   obtain⟨xs,os2,h3,h4⟩:=A7i (cs:=cs) h
   exact⟨c::xs,os2,by simp only[p8,hr,if_true,h3],h4⟩
  |false=>
   rw[hr] at h
   obtain⟨x,os1,h1,h2⟩:=C1U (K:=λx os1=>A2h os1 cs λxs os2=>K (x::xs) os2) h
   obtain⟨xs,os2,h3,h4⟩:=A7i h2
   exact⟨x::xs,os2,by simp only[p8,hr,O2,if_false,h1,h3],h4⟩
def C4D(os:List AO)(n:Nat)(x v:AV)(K:List AO->Prop):Prop:=
 A6t v λvc=>match x with
 |.ptr id off=>R4 os id λob=>match ob with
  |.cells cs=>Cn (Nat.beq vc.length n) (stc cs off n vc λcs'=>f6 os id (.cells cs') K) False
  |_=>False
 |.aptr id len i off=>A4k os vc λxs os1=>R4 os1 id λob=>match ob with
  |.arr es sz frz nl=>G4 (len=es.length) (G4 (frz<=i) (G4 (nl=false) (Cn (Nat.beq xs.length n) (gc es i λe=>G4 (off+n<=sz) (A2X e off xs λe'=>f6 os1 id (.arr (es.set i e') sz frz nl) K)) False)))
  |_=>False
 |_=>False
theorem E0p{os:List AO}{n:Nat}{x v:AV}{K:List AO->Prop}(h:C4D os n x v K):A1O os n x v K:=by
 obtain⟨vc,h1,h2⟩:=A8C h
 simp only[A1O,h1]
 cases x with
 |ptr id off=>
  obtain⟨ob,h3,h4⟩:=Q6 h2
  cases ob with
  |cells cs=>
   obtain⟨h5,h6⟩:=Y4.1 h4
   obtain⟨h7,h8⟩:=C3S (U3 h5) h6
   simp only[h3]
   exact⟨U3 h5,h7,u0.1 h8⟩
  |_=>exact h4.elim
 |aptr id len i off=>
  obtain⟨xs,os1,h3,h4⟩:=A6V h2
  obtain⟨ob,h5,h6⟩:=Q6 h4
  cases ob with
  |arr es sz frz nl=>
   obtain⟨a1,a2,a3,a4⟩:=h6
   obtain⟨a5,a6⟩:=Y4.1 a4
   obtain⟨e,a7,a8,a9⟩:=A1C a6
   simp only[h3,h5,A1D a7]
   exact⟨a1,a2,(B4.1 a7).1,a3,U3 a5,a8,u0.1 (A9I.1 a9)⟩
  |_=>exact h6.elim
 |_=>exact h2.elim
def A5k(L:Sl):List (Nat×Nat×C1)->List AV->(List AV->Prop)->Prop
 |[],cs,K=>K cs
 |(off,n,x)::ps,cs,K=>xV L x λv=>A6t v λxs=>Cn (Nat.beq xs.length n) (stc cs off n xs λcs'=>A5k L ps cs' K) False
theorem A6P{L:Sl}:∀{ps:List (Nat×Nat×C1)}{cs:List AV}{K:List AV->Prop},A5k L ps cs K->Q5 (E8 L) ps cs K
 |[],cs,K,h=>h
 |(off,n,x)::ps,cs,K,h=>by
  obtain⟨xs,h1,h2⟩:=A8C (H1 h)
  obtain⟨h3,h4⟩:=Y4.1 h2
  obtain⟨h5,h6⟩:=C3S (U3 h3) h4
  simp only[Q5,h1]
  exact⟨U3 h3,h5,A6P h6⟩
def A1f(L:Sl)(x:Option C1)(dflt:Nat)(K:Int->Prop):Prop:=
 match x with
 |none=>K dflt
 |some x=>xV L x λv=>match v with
  |.d (.int _ n)=>K n
  |_=>False
theorem A2q{L:Sl}{x:Option C1}{dflt:Nat}{K:Int->Prop}(h:A1f L x dflt K):V1 (E8 L) x dflt K:=by
 cases x with
 |none=>exact h
 |some x=>
  have:=H1 h
  simp only[V1]
  split
  ·rename_i n e;rw[e] at this;exact this
  ·rename_i e
   split at this
   ·rename_i n e2;exact absurd e2 (e _ _)
   ·exact this.elim
def B3w(os:List AO)(x:AV)(K:List (List D)->Prop):Prop:=
 match x with
 |.d x=>A86 x K
 |.arr id len=>R4 os id λob=>match ob with
  |.arr es sz frz nl=>G4 (len=es.length) (K es)
  |_=>False
 |_=>False
theorem C4w{os:List AO}{x:AV}{K:List (List D)->Prop}(h:B3w os x K):p7 os x K:=by
 cases x with
 |d x=>
  obtain⟨⟨es,h1,h2⟩⟩:=h
  rcases h1 with ⟨rfl,rfl⟩|rfl
  ·exact h2
  ·exact h2
 |arr id len=>
  obtain⟨ob,h1,h2⟩:=Q6 h
  cases ob with
  |arr es sz frz nl=>simp only[p7,h1];exact⟨h2.1,h2.2⟩
  |_=>exact h2.elim
 |_=>exact h.elim
def B3t(os:List AO)(sz bytes:Nat)(s:AV)(ns:List (List D))(K:AV->List AO->Prop):Prop:=
 match s with
 |.d .nil=>G4 (ns.length*bytes<=140737488355328/\ns.length<=9223372036854775807) (G4 (∀e∈ns,e.length=sz) (y7 os 0 λm=>m7 os [.arr ns sz 0 ns.isEmpty] λos'=>K (.arr m ns.length) os'))
 |.arr id len=>R4 os id λob=>match ob with
  |.arr es sz' frz nl=>G4 (len=es.length) (Cn (Nat.beq sz' sz) (G4 ((es.length+ns.length)*bytes<=140737488355328/\es.length+ns.length<=9223372036854775807)
    (G4 (∀e∈ns,e.length=sz) (f6 os id (.arr (es++ns) sz frz (cond ns.isEmpty nl false)) λos'=>K (.arr id (es++ns).length) os'))) False)
  |_=>False
 |_=>False
theorem C4q{os:List AO}{sz bytes:Nat}{s:AV}{ns:List (List D)}{K:AV->List AO->Prop}(h:B3t os sz bytes s ns K):A0T os sz bytes s ns K:=by
 cases s with
 |d x=>cases x with
  |nil=>
   obtain⟨⟨h1,h2⟩,h3,h4⟩:=h
   refine⟨h1,h2,h3,?_⟩
   have:=A06.1 (B2k.1 h4)
   rw[A0Q] at this
   exact this
  |_=>exact h.elim
 |arr id len=>
  obtain⟨ob,h1,h2⟩:=Q6 h
  cases ob with
  |arr es sz' frz nl=>
   obtain⟨h3,h4⟩:=h2
   obtain⟨h5,⟨h6,h6'⟩,h7,h8⟩:=Y4.1 h4
   simp only[A0T,h1]
   refine⟨h3,U3 h5,h6,h6',h7,?_⟩
   have:=u0.1 h8
   rw[H8] at this
   have e:(nl&&ns.isEmpty)=cond ns.isEmpty nl false:=by cases ns.isEmpty<;>cases nl<;>rfl
   rw[e];exact this
  |_=>exact h2.elim
 |_=>exact h.elim
def C4r(os:List AO)(sz bytes:Nat)(s:AV)(ns:List (List AV))(K:AV->List AO->Prop):Prop:=
 match s with
 |.rs id len=>R4 os id λob=>match ob with
  |.rarr es sz' nl=>G4 (len=es.length) (Cn (Nat.beq sz' sz) (G4 ((es.length+ns.length)*bytes<=140737488355328/\es.length+ns.length<=9223372036854775807)
    (G4 (∀e∈ns,e.length=sz) (f6 os id (.rarr (es++ns) sz (cond ns.isEmpty nl false)) λos'=>K (.rs id (es++ns).length) os'))) False)
  |_=>False
 |_=>False
theorem E0j{os:List AO}{sz bytes:Nat}{s:AV}{ns:List (List AV)}{K:AV->List AO->Prop}(h:C4r os sz bytes s ns K):A1q os sz bytes s ns K:=by
 cases s with
 |rs id len=>
  obtain⟨ob,h1,h2⟩:=Q6 h
  cases ob with
  |rarr es sz' nl=>
   obtain⟨h3,h4⟩:=h2
   obtain⟨h5,⟨h6,h6'⟩,h7,h8⟩:=Y4.1 h4
   simp only[A1q,h1]
   refine⟨h3,U3 h5,h6,h6',h7,?_⟩
   have:=u0.1 h8
   rw[H8] at this
   have e:(nl&&ns.isEmpty)=cond ns.isEmpty nl false:=by cases ns.isEmpty<;>cases nl<;>rfl
   rw[e];exact this
  |_=>exact h2.elim
 |_=>exact h.elim
structure B9I(P:Program)(g:FuncId)(as:List AV)(K:List (List D)->Nat->Bool->Prop):Prop where
 h:∃es sz nl,B9 P g as [] (λr os2=>r=.arr 0 es.length/\os2=[.arr es sz 0 nl])/\K es sz nl
structure B7s(P:Program)(g:FuncId)(id len:Nat)(as:List AV)(es:List (List D))(sz frz:Nat)(nl:Bool)(K:List (List D)->Bool->Prop):Prop where
 h:∃es' nl',(∀os2:List AO,os2[id]?=some (.arr es sz frz nl)->B9 P g (.arr id len::as) os2 λr os3=>r=.arr id es'.length/\os3=os2.set id (.arr es' sz frz nl'))/\K es' nl'
def A9i(mx:Bool)(k:IntKind)(a:Int):List AV->(AV->Prop)->Prop
 |[],K=>K (.d (.int k a))
 |.d (.int k' b)::xs,K=>Cn mx (A9i mx k (max a b) xs K) (A9i mx k (min a b) xs K)
 |_,_=>False
theorem B2r{mx:Bool}{k:IntKind}{K:AV->Prop}:∀{xs:List AV}{a:Int},A9i mx k a xs K->t8 mx k a xs K
 |[],a,h=>h
 |x::xs,a,h=>by
  cases x with
  |d x=>cases x with
   |int k' b=>
    simp only[t8]
    cases mx with
    |true=>
     have h':=B2r (xs:=xs) (a:=max a b) h
     simp only[if_true]
     exact⟨λhle=>by rw[Int.max_eq_left hle] at h';exact h',λhlt=>by rw[Int.max_eq_right (by omega)] at h';exact h'⟩
    |false=>
     have h':=B2r (xs:=xs) (a:=min a b) h
     simp only[O2,if_false]
     exact⟨λhle=>by rw[Int.min_eq_left hle] at h';exact h',λhlt=>by rw[Int.min_eq_right (by omega)] at h';exact h'⟩
   |_=>exact h.elim
  |_=>exact h.elim
def xVs(L:Sl):List C1->(List AV->Prop)->Prop
 |[],K=>K []
 |x::xs,K=>xV L x λv=>xVs L xs λvs=>K (v::vs)
theorem A1T{L:Sl}:∀{xs:List C1}{K:List AV->Prop},xVs L xs K->K (xs.map (C0 (E8 L)))
 |[],_,h=>h
 |x::xs,K,h=>A1T (xs:=xs) (K:=λvs=>K (C0 (E8 L) x::vs)) (H1 h)
def B1A(L:Sl):List C1->(List Nat->Prop)->Prop
 |[],K=>K []
 |x::xs,K=>xV L x λv=>match v with
  |.ptr id 0=>B1A L xs λl=>K (id::l)
  |_=>False
theorem C0o{L:Sl}:∀{xs:List C1}{K:List Nat->Prop},B1A L xs K->∃ids,xs.mapM (λc=>A54 (C0 (E8 L) c))=some ids/\K ids
 |[],K,h=>⟨[],rfl,h⟩
 |x::xs,K,h=>by
  have:=H1 h
  split at this
  ·rename_i id e
   obtain⟨ids,h1,h2⟩:=C0o this
   exact⟨id::ids,by rw[A0L,h1,e];rfl,h2⟩
  ·exact this.elim
end Go.Bi
