/- An evaluator of compiled code by continuations, made to be unfolded step by step. No condition. -/
import Derived.Test.YtnhhopmldgpglaaGreatDoorBT
set_option linter.unusedVariables false
namespace Go.Bi
set_option linter.unusedSectionVars false
variable [J9]
abbrev Sl:=List (Nat×AV)
def frc(a:AV)(K:AV->Prop):Prop:=match a with
 |.d x=>K (.d x)
 |.agg cs=>K (.agg cs)
 |.tup cs=>K (.tup cs)
 |.ptr i o=>K (.ptr i o)
 |.aptr a b c d=>K (.aptr a b c d)
 |.dptr a b c=>K (.dptr a b c)
 |.arr a b=>K (.arr a b)
 |.clo a b=>K (.clo a b)
 |.iter a=>K (.iter a)
 |.mp a=>K (.mp a)
 |.mit a=>K (.mit a)
 |.rs a b=>K (.rs a b)
 |.rp a b c d=>K (.rp a b c d)
 |.junk=>K .junk
theorem A1P{a:AV}{K:AV->Prop}:frc a K↔K a:=by cases a<;>exact Iff.rfl
def A4U{α:Type}:List α->Nat->(α->Prop)->Prop
 |[],_,_=>False
 |x::_,0,K=>K x
 |_::l,n+1,K=>A4U l n K
theorem P6{α:Type}{K:α->Prop}:∀{l:List α}{n:Nat},A4U l n K->∃x,l[n]?=some x/\K x
 |[],_,h=>h.elim
 |x::_,0,h=>⟨x,rfl,h⟩
 |_::l,n+1,h=>by
  obtain⟨x,hx,hk⟩:=P6 (l:=l) h
  exact⟨x,by simpa using hx,hk⟩
theorem C0S{α:Type}{K:α->Prop}{x:α}:∀{l:List α}{n:Nat},l[n]?=some x->K x->A4U l n K
 |[],_,h,_=>by simp at h
 |y::_,0,h,hk=>by simp at h;subst h;exact hk
 |_::l,n+1,h,hk=>C0S (l:=l) (by simpa using h) hk
def j4{α:Type}:List α->List α->(List α->Prop)->Prop
 |[],b,K=>K b
 |x::a,b,K=>j4 a b λr=>K (x::r)
theorem v8{α:Type}:∀{a b:List α}{K:List α->Prop},j4 a b K↔K (a++b)
 |[],_,_=>Iff.rfl
 |x::a,b,K=>v8 (a:=a) (K:=λr=>K (x::r))
def z6{α:Type}:List α->Nat->(List α->Prop)->Prop
 |_,0,K=>K []
 |[],_+1,K=>K []
 |x::l,n+1,K=>z6 l n λr=>K (x::r)
theorem A2A{α:Type}:∀{l:List α}{n:Nat}{K:List α->Prop},z6 l n K↔K (l.take n)
 |_,0,_=>by simp[z6]
 |[],_+1,_=>by simp[z6]
 |x::l,n+1,K=>A2A (l:=l) (n:=n) (K:=λr=>K (x::r))
def A1c{α:Type}:List α->Nat->(List α->Prop)->Prop
 |l,0,K=>K l
 |[],_+1,K=>K []
 |_::l,n+1,K=>A1c l n K
theorem A3I{α:Type}:∀{l:List α}{n:Nat}{K:List α->Prop},A1c l n K↔K (l.drop n)
 |_,0,_=>by simp[A1c]
 |[],_+1,_=>by simp[A1c]
 |_::l,n+1,K=>by simpa[A1c] using A3I (l:=l) (n:=n) (K:=K)
def t6{α:Type}:List α->Nat->α->(List α->Prop)->Prop
 |[],_,_,K=>K []
 |_::l,0,y,K=>K (y::l)
 |x::l,n+1,y,K=>t6 l n y λr=>K (x::r)
theorem A0g{α:Type}{y:α}:∀{l:List α}{n:Nat}{K:List α->Prop},t6 l n y K↔K (l.set n y)
 |[],_,_=>Iff.rfl
 |_::l,0,_=>Iff.rfl
 |x::l,n+1,K=>A0g (l:=l) (n:=n) (K:=λr=>K (x::r))
def y0{α β:Type}(f:α->β):List α->(List β->Prop)->Prop
 |[],K=>K []
 |x::l,K=>y0 f l λr=>K (f x::r)
theorem A0d{α β:Type}{f:α->β}:∀{l:List α}{K:List β->Prop},y0 f l K↔K (l.map f)
 |[],_=>Iff.rfl
 |x::l,K=>A0d (l:=l) (K:=λr=>K (f x::r))
def A2t{α:Type}:List α->Nat->List α->(List α->Prop)->Prop
 |cs,0,ps,K=>A1c cs ps.length λr=>j4 ps r K
 |[],_+1,ps,K=>K ps
 |c::cs,n+1,ps,K=>A2t cs n ps λr=>K (c::r)
theorem A98{α:Type}{ps:List α}:∀{cs:List α}{n:Nat}{K:List α->Prop},A2t cs n ps K↔K (K6 cs n ps)
 |cs,0,K=>by
  cases cs<;>simp only[A2t,A3I,v8]<;>simp[K6]
 |[],_+1,K=>by simp[A2t,K6]
 |c::cs,n+1,K=>by
  have:=A98 (ps:=ps) (cs:=cs) (n:=n) (K:=λr=>K (c::r))
  simp only[A2t]
  rw[this]
  simp[K6,Nat.add_right_comm n 1]
def r8{α:Type}:List α->Nat->(Nat->Prop)->Prop
 |[],n,K=>K n
 |_::l,n,K=>r8 l (n+1) K
theorem B1E{α:Type}:∀{l:List α}{n:Nat}{K:Nat->Prop},r8 l n K↔K (n+l.length)
 |[],_,_=>Iff.rfl
 |_::l,n,K=>by simp only[r8,B1E (l:=l)];rw[show n+1+l.length=n+(l.length+1) by omega];exact Iff.rfl
def A3G{α:Type}(sz:Nat):Nat->List α->(List (List α)->Prop)->Prop
 |0,_,K=>K []
 |n+1,l,K=>z6 l sz λa=>A1c l sz λb=>A3G sz n b λr=>K (a::r)
theorem A67{α:Type}{sz:Nat}:∀{n:Nat}{l:List α}{K:List (List α)->Prop},A3G sz n l K↔K (R9 sz n l)
 |0,_,_=>Iff.rfl
 |n+1,l,K=>by
  simp only[A3G,A2A,A3I]
  exact A67 (n:=n) (K:=λr=>K (l.take sz::r))
abbrev Cn(b:Bool)(X Y:Prop):Prop:=match b with
 |true=>X
 |false=>Y
abbrev Gn(b:Bool)(X:Prop):Prop:=match b with
 |false=>False
 |true=>X
theorem B1x{b:Bool}{X:Prop}:Gn b X↔b=true/\X:=by cases b<;>simp[Gn]
def CnD:Bool->D->D->D
 |true,X,_=>X
 |false,_,Y=>Y
theorem Y6{b:Bool}{X:Prop}:Cn b X False↔b=true/\X:=by cases b<;>simp[Cn]
theorem A0z{b:Bool}{X Y:Prop}:Cn b X Y↔(b=true->X)/\(b=false->Y):=by cases b<;>simp[Cn]
structure F1(p X:Prop):Prop where
 h1:p
 h2:X
structure WrK(k:IntKind)(v:Int)(K:D->Prop):Prop where
 h:K (.int k (k.wrap v))
structure A7F(d:D)(K:List (List D)->Prop):Prop where
 h:∃es,B3 d es/\K es
structure B0C(P:Program)(g:FuncId)(as:List AV)(K:AV->Prop):Prop where
 h:∃r,Pure P g as r/\K r
structure A2M(P:Program)(g:FuncId)(as:List AV)(os:List AO)(K:AV->List AO->Prop):Prop where
 h:B0 P g as [] λr os2=>K (shA os.length r) (os++os2.map (U3 os.length))
structure A2H(P:Program)(g:FuncId)(as:List AV)(os:List AO)(K:AV->List AO->Prop):Prop where
 h:B0 P g as os K
structure B7Z(P:Program)(g:FuncId)(as:List AV)(os:List AO)(K:AV->Prop):Prop where
 h:∃r,B0 P g as os (λr' os2=>r'=r/\os2=os)/\K r
structure A9T(sk:SK)(ok g:Bool)(zs:List D)(key:D)(kvs:List (D×AV))(K:AV->Prop):Prop where
 h:n5 sk key kvs/\∃r,lkR ok (zv g zs) (J6 sk key kvs)=r/\K r
structure LkA(X Y:Prop):Prop where
 h:X\/Y
structure B6y(sk:SK)(key:D)(v:AV)(kvs:List (D×AV))(K:List (D×AV)->Prop):Prop where
 h:n5 sk key kvs/\K (K9 sk key v kvs)
structure C9w(n:Nat)(seen:List Nat)(kvs:List (D×AV))(A:Nat->D×AV->Prop)(B:Prop):Prop where
 h0:n=kvs.length
 h1:∀(i:Nat) p,i∉ seen->kvs[i]?=some p->A i p
 h2:(∀i,i<n->i∈seen)->B
structure C9v(n:Nat)(seen:List Nat)(kvs:List (D×AV))(K:D×AV->Prop):Prop where
 h:n=kvs.length/\∃i p,seen.getLast?=some i/\kvs[i]?=some p/\K p
structure A9H(X Y:Prop):Prop where
 h:X\/Y
def gc{α:Type}(cs:List α)(off:Nat)(K:α->Prop):Prop:=Gn (Nat.blt off cs.length) (A4U cs off K)
def gcs{α:Type}(cs:List α)(off n:Nat)(K:List α->Prop):Prop:=Cn (Nat.beq n cs.length&&Nat.beq off 0) (K cs) (Gn (Nat.ble (off+n) cs.length) (A1c cs off λr=>z6 r n K))
def stc{α:Type}(cs:List α)(off n:Nat)(vc:List α)(K:List α->Prop):Prop:=Cn (Nat.beq n cs.length&&Nat.beq off 0) (K vc) (Gn (Nat.ble (off+n) cs.length) (A2t cs off vc K))
theorem A1g{α:Type}{cs:List α}{off:Nat}{K:α->Prop}(h:gc cs off K):∃c,cs[off]?=some c/\K c:=P6 (B1x.1 h).2
theorem A8B{α:Type}{cs:List α}{off n:Nat}{K:List α->Prop}(h:gcs cs off n K):off+n<=cs.length/\K ((cs.drop off).take n):=by
 unfold gcs at h
 obtain⟨h1,h2⟩:=A0z.1 h
 cases hb:(Nat.beq n cs.length&&Nat.beq off 0) with
 |true=>
  have h3:=h1 hb
  simp only[L6] at hb
  have e1:=R0 hb.1
  have e2:=R0 hb.2
  subst e1;subst e2
  exact⟨by omega,by simpa using h3⟩
 |false=>
  obtain⟨h3,h4⟩:=B1x.1 (h2 hb)
  exact⟨P5 h3,A2A.1 (A3I.1 h4)⟩
theorem C20{α:Type}{cs vc:List α}{off n:Nat}{K:List α->Prop}(hl:vc.length=n)(h:stc cs off n vc K):off+n<=cs.length/\K (K6 cs off vc):=by
 unfold stc at h
 obtain⟨h1,h2⟩:=A0z.1 h
 cases hb:(Nat.beq n cs.length&&Nat.beq off 0) with
 |true=>
  have h3:=h1 hb
  simp only[L6] at hb
  have e1:=R0 hb.1
  have e2:=R0 hb.2
  subst e2
  have e3:K6 cs 0 vc=vc:=by simp[K6,show cs.length<=vc.length by omega]
  exact⟨by omega,by rw[e3];exact h3⟩
 |false=>
  obtain⟨h3,h4⟩:=B1x.1 (h2 hb)
  exact⟨P5 h3,A98.1 h4⟩
def xV(L:Sl)(x:B6)(K:AV->Prop):Prop:=match x with
 |.t n=>frc (D1 L n) K
 |.c x=>K (.d x)
 |.g cs=>y0 .d cs λl=>K (.agg l)
theorem E9{L:Sl}{x:B6}{K:AV->Prop}(h:xV L x K):K (B8 (D1 L) x):=by
 cases x with
 |t n=>exact A1P.1 h
 |c x=>exact h
 |g cs=>exact(A0d (f:=AV.d)).1 h
def Q7(os:List AO)(id:Nat)(K:AO->Prop):Prop:=A4U os id K
def A60(v:AV)(K:List AV->Prop):Prop:=match v with
 |.agg cs=>K cs
 |.tup _=>False
 |.junk=>False
 |.d x=>K [.d x]
 |.ptr i o=>K [.ptr i o]
 |.aptr a b c d=>K [.aptr a b c d]
 |.dptr a b c=>K [.dptr a b c]
 |.arr a b=>K [.arr a b]
 |.clo a b=>K [.clo a b]
 |.iter a=>K [.iter a]
 |.mp a=>K [.mp a]
 |.mit a=>K [.mit a]
 |.rs a b=>K [.rs a b]
 |.rp a b c d=>K [.rp a b c d]
theorem A8e{v:AV}{K:List AV->Prop}(h:A60 v K):∃cs,v.cells=some cs/\K cs:=by
 cases v<;>first|exact h.elim|exact⟨_,rfl,h⟩
def xUn(op:UnOp)(x:D)(K:D->Prop):Prop:=
 match op,x with
 |.neg,.int k n=>WrK k (0-n) K
 |.xor,.int k n=>K (.int k (k.wrap (BitVec.ofInt k.bits (if k.signed then -1 else k.max) ^^^ BitVec.ofInt k.bits n).toNat))
 |.not,.bool b=>K (.bool !b)
 |_,_=>False
theorem D8s{op:UnOp}{x:D}{K:D->Prop}(h:xUn op x K):unD op x K:=by
 cases op<;>cases x<;>first|exact h|exact WrK.h h|exact h.elim
def B2w(op:BinOp)(k:IntKind)(a b:Int)(K:D->Prop):Prop:=
 match op with
 |.add=>WrK k (a+b) K
 |.sub=>WrK k (a-b) K
 |.mul=>WrK k (a*b) K
 |.quo=>F1 (b≠0) (WrK k (a.tdiv b) K)
 |.rem=>F1 (b≠0) (K (.int k (a.tmod b)))
 |.and=>K (.int k (k.wrap (BitVec.ofInt k.bits a &&& BitVec.ofInt k.bits b).toNat))
 |.or=>K (.int k (k.wrap (BitVec.ofInt k.bits a|||BitVec.ofInt k.bits b).toNat))
 |.xor=>K (.int k (k.wrap (BitVec.ofInt k.bits a ^^^ BitVec.ofInt k.bits b).toNat))
 |.andNot=>K (.int k (k.wrap (BitVec.ofInt k.bits a &&& ~~~ BitVec.ofInt k.bits b).toNat))
 |.eql=>K (.bool (decide (a=b)))
 |.neq=>K (.bool (!decide (a=b)))
 |.lss=>K (.bool (decide (a<b)))
 |.leq=>K (.bool (decide (a<=b)))
 |.gtr=>K (.bool (decide (b<a)))
 |.geq=>K (.bool (decide (b<=a)))
 |_=>False
theorem D8m{op:BinOp}{k:IntKind}{a b:Int}{K:D->Prop}(h:B2w op k a b K):A2f op k a b K:=by
 cases op<;>first|exact h|exact WrK.h h|exact⟨F1.h1 h,WrK.h (F1.h2 h)⟩|exact⟨F1.h1 h,F1.h2 h⟩|exact h.elim|skip
 all_goals
  simp only[A2f]
  first|(rw[show(a==b)=decide (a=b) by rw[A0U];simp];exact h)|(rw[show(a != b)=!decide (a=b) by rw[A0U];simp];exact h)
def C2r(op:BinOp)(x y:List UInt8)(K:D->Prop):Prop:=
 match op with
 |.add=>F1 (x.length+y.length<=9223372036854775807) (K (.str (x++y)))
 |.eql=>K (.bool (decide (x=y)))
 |.neq=>K (.bool (!decide (x=y)))
 |.lss=>K (.bool (Op.bytesLess x y))
 |.leq=>K (.bool (Op.bytesLess x y||decide (x=y)))
 |.gtr=>K (.bool !(Op.bytesLess x y||decide (x=y)))
 |.geq=>K (.bool !(Op.bytesLess x y))
 |_=>False
theorem D8n{op:BinOp}{x y:List UInt8}{K:D->Prop}(h:C2r op x y K):A2P op x y K:=by
 have e:(x==y)=decide (x=y):=by rw[A0U];simp
 cases op<;>first|exact h|exact⟨F1.h1 h,F1.h2 h⟩|exact h.elim|(simp only[A2P,e];exact h)
def kq:IntKind->IntKind->Bool
 |.i8,.i8=>true|.i16,.i16=>true|.i32,.i32=>true|.i64,.i64=>true
 |.u8,.u8=>true|.u16,.u16=>true|.u32,.u32=>true|.u64,.u64=>true
 |_,_=>false
theorem C0k{k k':IntKind}(h:kq k k'=true):k=k':=by cases k<;>cases k'<;>first|rfl|cases h
def C2q(op:BinOp)(x y:AV)(K:D->Prop):Prop:=
 match x,y with
 |.d (.int k a),.d (.int k' b)=>match op with
  |.shl=>F1 (0<=b) (K (.int k (k.wrap (a*2 ^ (min b.toNat k.bits)))))
  |.shr=>F1 (0<=b) (K (.int k (a.fdiv (2 ^ (min b.toNat k.bits)))))
  |op=>Cn (kq k k') (B2w op k a b K) False
 |.d (.str s),.d (.str t)=>C2r op s t K
 |_,_=>False
theorem D8o{op:BinOp}{x y:AV}{K:D->Prop}(h:C2q op x y K):A3A op x y K:=by
 cases x with
 |d x=>cases x with
  |int k a=>cases y with
   |d y=>cases y with
    |int k' b=>
     have key:Cn (kq k k') (B2w op k a b K) False->k=k'/\A2f op k a b K:=λh=>by
      obtain⟨h1,h2⟩:=Y6.1 h
      exact⟨C0k h1,D8m h2⟩
     cases op<;>first|exact h|exact⟨F1.h1 h,F1.h2 h⟩|exact key h
    |_=>exact h.elim
   |_=>exact h.elim
  |str s=>cases y with
   |d y=>cases y with
    |str t=>exact D8n h
    |_=>exact h.elim
   |_=>exact h.elim
  |_=>exact h.elim
 |_=>exact h.elim
def A2X:SK->AV->AV->(Bool->Prop)->Prop
 |.i,.d (.int k a),.d (.int k' b),K=>Cn (kq k k') (K (decide (a=b))) False
 |.b,.d (.bool a),.d (.bool b),K=>K (a==b)
 |.s,.d (.str a),.d (.str b),K=>K (decide (a=b))
 |_,_,_,_=>False
def A3M:List SK->List AV->List AV->(Bool->Prop)->Prop
 |[],[],[],K=>K true
 |[k],[x],[y],K=>A2X k x y K
 |k::ks,x::xs,y::ys,K=>A2X k x y λa=>A3M ks xs ys λb=>K (a&&b)
 |_,_,_,_=>False
theorem B9g{k:SK}{x y:AV}{K:Bool->Prop}(h:A2X k x y K):∃a b r,x=.d a/\y=.d b/\Z6 k a b=some r/\K r:=by
 unfold A2X at h
 split at h
 ·rename_i k a k' b
  obtain⟨h1,h2⟩:=Y6.1 h
  refine⟨_,_,a==b,rfl,rfl,by simp only[Z6,C0k h1,if_true],?_⟩
  rw[show(a==b)=decide (a=b) by rw[A0U];simp];exact h2
 ·exact⟨_,_,_,rfl,rfl,rfl,h⟩
 ·rename_i a b
  refine⟨_,_,a==b,rfl,rfl,rfl,?_⟩
  rw[show(a==b)=decide (a=b) by rw[A0U];simp];exact h
 ·exact h.elim
theorem D4f:∀{ks:List SK}{xs ys:List AV}{K:Bool->Prop},A3M ks xs ys K->∃b,eqL ks xs ys=some b/\K b:=by
 intro ks
 induction ks with
 |nil=>
  intro xs ys K h
  cases xs<;>cases ys<;>first|exact⟨true,rfl,h⟩|exact h.elim
 |cons k ks ih=>
  intro xs ys K h
  cases xs with
  |nil=>cases ks<;>cases ys<;>exact h.elim
  |cons x xs=>
   cases ys with
   |nil=>cases ks<;>cases xs<;>exact h.elim
   |cons y ys=>
    have gen:A2X k x y (λa=>A3M ks xs ys λb=>K (a&&b))->∃b,eqL (k::ks) (x::xs) (y::ys)=some b/\K b:=λh=>by
     obtain⟨a,b,r,rfl,rfl,h1,h2⟩:=B9g h
     obtain⟨c,h3,h4⟩:=ih h2
     exact⟨r&&c,by simp only[eqL,h1,h3],h4⟩
    cases ks with
    |cons k2 ks=>cases xs<;>cases ys<;>exact gen h
    |nil=>
     cases xs with
     |cons x2 xs=>cases ys<;>exact gen h
     |nil=>
      cases ys with
      |cons y2 ys=>exact gen h
      |nil=>
       refine gen ?_
       obtain⟨a,b,r,rfl,rfl,h1,h2⟩:=B9g (K:=K) h
       cases k<;>cases a<;>cases b<;>simp only[Z6] at h1<;>first|cases h1|skip
       ·simp only[A3M,A2X] at h ⊢;simpa using h
       ·simp only[A3M,A2X] at h ⊢;simpa using h
       ·simp only[A3M,A2X] at h ⊢;simpa using h
def xSh(os:List AO)(d:Nat)(x:AV)(K:AV->Prop):Prop:=
 match x with
 |.ptr id o=>K (.ptr id (o+d))
 |.aptr id l i o=>Q7 os id λob=>match ob with
  |.arr es _ _ _=>F1 (l=es.length) (K (.aptr id l i (o+d)))
  |_=>False
 |.dptr es i o=>K (.dptr es i (o+d))
 |_=>False
theorem B2A{os:List AO}{d:Nat}{x:AV}{K:AV->Prop}(h:xSh os d x K):b9 os d x K:=by
 cases x with
 |aptr id l i o=>
  obtain⟨ob,h1,h2⟩:=P6 h
  cases ob with
  |arr es sz frz nl=>simp only[b9,h1];exact⟨h2.1,h2.2⟩
  |_=>exact h2.elim
 |ptr id o=>exact h
 |dptr es i o=>exact h
 |_=>exact h.elim
def B2x(os:List AO)(agg:Bool)(n:Nat)(x:AV)(K:AV->Prop):Prop:=
 match x with
 |.ptr id off=>Q7 os id λob=>match ob with
  |.cells cs=>Cn agg (gcs cs off n λl=>K (.agg l)) (gc cs off λc=>frc c K)
  |_=>False
 |.aptr id len i off=>Q7 os id λob=>match ob with
  |.arr es sz frz nl=>F1 (len=es.length) (F1 (nl=false) (gc es i λe=>Cn agg (F1 (off+n<=sz) (A1c e off λr=>z6 r n λl=>y0 .d l λl=>K (.agg l))) (F1 (off<sz) (gc e off λc=>K (.d c)))))
  |_=>False
 |.rp id len i off=>Q7 os id λob=>match ob with
  |.rarr es sz nl=>F1 (len=es.length) (F1 (nl=false) (gc es i λe=>Cn agg (F1 (off+n<=sz) (A1c e off λr=>z6 r n λl=>K (.agg l))) (F1 (off<sz) (gc e off λc=>frc c K))))
  |_=>False
 |.dptr es i off=>gc es i λe=>Cn agg (gcs e off n λl=>y0 .d l λl=>K (.agg l)) (gc e off λc=>K (.d c))
 |_=>False
theorem A1h{α:Type}{l:List α}{i:Nat}{e d:α}(h:l[i]?=some e):l.getD i d=e:=by rw[E8,h];exact rfl
theorem C2t{os:List AO}{agg:Bool}{n:Nat}{x:AV}{K:AV->Prop}(h:B2x os agg n x K):V1 os agg n x K:=by
 cases x with
 |ptr id off=>
  obtain⟨ob,h1,h2⟩:=P6 h
  cases ob with
  |cells cs=>
   simp only[V1,h1]
   cases agg with
   |true=>exact A8B h2
   |false=>
    obtain⟨c,h3,h4⟩:=A1g h2
    exact⟨(A7.1 h3).1,by rw[A1h h3];exact A1P.1 h4⟩
  |_=>exact h2.elim
 |aptr id len i off=>
  obtain⟨ob,h1,h2⟩:=P6 h
  cases ob with
  |arr es sz frz nl=>
   obtain⟨h3,h4,h5⟩:=h2
   obtain⟨e,h6,h7⟩:=A1g h5
   simp only[V1,h1,A1h h6]
   refine⟨h3,(A7.1 h6).1,h4,?_⟩
   cases agg with
   |true=>
    obtain⟨h8,h9⟩:=h7
    exact⟨h8,A0d.1 (A2A.1 (A3I.1 h9))⟩
   |false=>
    obtain⟨h8,h9⟩:=h7
    obtain⟨c,h10,h11⟩:=A1g h9
    exact⟨h8,by rw[A1h h10];exact h11⟩
  |_=>exact h2.elim
 |rp id len i off=>
  obtain⟨ob,h1,h2⟩:=P6 h
  cases ob with
  |rarr es sz nl=>
   obtain⟨h3,h4,h5⟩:=h2
   obtain⟨e,h6,h7⟩:=A1g h5
   simp only[V1,h1,A1h h6]
   refine⟨h3,(A7.1 h6).1,h4,?_⟩
   cases agg with
   |true=>
    obtain⟨h8,h9⟩:=h7
    exact⟨h8,A2A.1 (A3I.1 h9)⟩
   |false=>
    obtain⟨h8,h9⟩:=h7
    obtain⟨c,h10,h11⟩:=A1g h9
    exact⟨h8,by rw[A1h h10];exact A1P.1 h11⟩
  |_=>exact h2.elim
 |dptr es i off=>
  obtain⟨e,h6,h7⟩:=A1g h
  simp only[V1,A1h h6]
  refine⟨(A7.1 h6).1,?_⟩
  cases agg with
  |true=>
   obtain⟨h8,h9⟩:=A8B h7
   exact⟨h8,A0d.1 h9⟩
  |false=>
   obtain⟨c,h10,h11⟩:=A1g h7
   exact⟨(A7.1 h10).1,by rw[A1h h10];exact h11⟩
 |_=>exact h.elim
def A8y(os:List AO)(v:AV)(K:D->List AO->Prop):Prop:=match v with
 |.d x=>K x os
 |.arr id len=>Q7 os id λob=>match ob with
  |.arr es sz frz nl=>F1 (len=es.length) (t6 os id (.arr es sz es.length nl) λos'=>K (CnD nl .nil (.sl es)) os')
  |_=>False
 |_=>False
theorem B1t{os:List AO}{v:AV}{K:D->List AO->Prop}(h:A8y os v K):∃x os',A1f os v=some (x,os')/\K x os':=by
 cases v with
 |d x=>exact⟨x,os,rfl,h⟩
 |arr id len=>
  obtain⟨ob,h1,h2⟩:=P6 h
  cases ob with
  |arr es sz frz nl=>
   obtain⟨h3,h4⟩:=h2
   refine⟨_,_,by simp only[A1f,h1,if_pos h3];rfl,?_⟩
   have:=A0g.1 h4
   cases nl<;>exact this
  |_=>exact h2.elim
 |_=>exact h.elim
def A3P(os:List AO):List AV->(List D->List AO->Prop)->Prop
 |[],K=>K [] os
 |c::cs,K=>A8y os c λx os1=>A3P os1 cs λxs os2=>K (x::xs) os2
theorem A6k:∀{cs:List AV}{os:List AO}{K:List D->List AO->Prop},A3P os cs K->∃xs os',r6 os cs=some (xs,os')/\K xs os'
 |[],os,K,h=>⟨[],os,rfl,h⟩
 |c::cs,os,K,h=>by
  obtain⟨x,os1,h1,h2⟩:=B1t h
  obtain⟨xs,os2,h3,h4⟩:=A6k h2
  exact⟨x::xs,os2,by simp only[r6,h1,h3],h4⟩
def B1u(os:List AO)(v:AV)(K:AV->List AO->Prop):Prop:=match v with
 |.agg cs=>A3P os cs λxs os1=>y0 .d xs λl=>K (.agg l) os1
 |.d x=>K (.d x) os
 |.arr id len=>A8y os (.arr id len) λx os1=>K (.d x) os1
 |_=>False
theorem B9T{os:List AO}{v:AV}{K:AV->List AO->Prop}(h:B1u os v K):∃x os',A1Q os v=some (x,os')/\K x os':=by
 cases v with
 |d x=>exact⟨_,os,rfl,h⟩
 |arr id len=>
  obtain⟨x,os1,h1,h2⟩:=B1t (os:=os) (v:=.arr id len) (K:=λx os1=>K (.d x) os1) h
  exact⟨_,_,by simp only[A1Q,h1],h2⟩
 |agg cs=>
  obtain⟨x,os1,h1,h2⟩:=A6k h
  exact⟨_,_,by simp only[A1Q,h1],(A0d (f:=AV.d)).1 h2⟩
 |_=>exact h.elim
def A3Q(os:List AO):List AV->(List AV->List AO->Prop)->Prop
 |[],K=>K [] os
 |c::cs,K=>B1u os c λx os1=>A3Q os1 cs λxs os2=>K (x::xs) os2
theorem A4J:∀{cs:List AV}{os:List AO}{K:List AV->List AO->Prop},A3Q os cs K->∃xs os',r7 os cs=some (xs,os')/\K xs os'
 |[],os,K,h=>⟨[],os,rfl,h⟩
 |c::cs,os,K,h=>by
  obtain⟨x,os1,h1,h2⟩:=B9T h
  obtain⟨xs,os2,h3,h4⟩:=A4J h2
  exact⟨x::xs,os2,by simp only[r7,h1,h3],h4⟩
def A2r(os:List AO):List AV->(List AV->List AO->Prop)->Prop
 |[],K=>K [] os
 |c::cs,K=>Cn c.ref (A2r os cs λxs os2=>K (c::xs) os2) (B1u os c λx os1=>A2r os1 cs λxs os2=>K (x::xs) os2)
theorem A8T:∀{cs:List AV}{os:List AO}{K:List AV->List AO->Prop},A2r os cs K->∃xs os',A0N os cs=some (xs,os')/\K xs os'
 |[],os,K,h=>⟨[],os,rfl,h⟩
 |c::cs,os,K,h=>by
  unfold A2r at h
  cases hr:c.ref with
  |true=>
   rw[hr] at h
   obtain⟨xs,os2,h3,h4⟩:=A8T (cs:=cs) h
   exact⟨c::xs,os2,by simp only[A0N,hr,if_true,h3],h4⟩
  |false=>
   rw[hr] at h
   obtain⟨x,os1,h1,h2⟩:=B9T (K:=λx os1=>A2r os1 cs λxs os2=>K (x::xs) os2) h
   obtain⟨xs,os2,h3,h4⟩:=A8T h2
   exact⟨x::xs,os2,by simp only[A0N,hr,L8,if_false,h1,h3],h4⟩
def C2B(os:List AO)(n:Nat)(x v:AV)(K:List AO->Prop):Prop:=
 A60 v λvc=>match x with
 |.ptr id off=>Q7 os id λob=>match ob with
  |.cells cs=>Cn (Nat.beq vc.length n) (stc cs off n vc λcs'=>t6 os id (.cells cs') K) False
  |_=>False
 |.aptr id len i off=>A3P os vc λxs os1=>Q7 os1 id λob=>match ob with
  |.arr es sz frz nl=>F1 (len=es.length) (F1 (frz<=i) (F1 (nl=false) (Cn (Nat.beq xs.length n) (gc es i λe=>F1 (off+n<=sz) (A2t e off xs λe'=>t6 os1 id (.arr (es.set i e') sz frz nl) K)) False)))
  |_=>False
 |_=>False
theorem D8r{os:List AO}{n:Nat}{x v:AV}{K:List AO->Prop}(h:C2B os n x v K):A1p os n x v K:=by
 obtain⟨vc,h1,h2⟩:=A8e h
 simp only[A1p,h1]
 cases x with
 |ptr id off=>
  obtain⟨ob,h3,h4⟩:=P6 h2
  cases ob with
  |cells cs=>
   obtain⟨h5,h6⟩:=Y6.1 h4
   obtain⟨h7,h8⟩:=C20 (R0 h5) h6
   simp only[h3]
   exact⟨R0 h5,h7,A0g.1 h8⟩
  |_=>exact h4.elim
 |aptr id len i off=>
  obtain⟨xs,os1,h3,h4⟩:=A6k h2
  obtain⟨ob,h5,h6⟩:=P6 h4
  cases ob with
  |arr es sz frz nl=>
   obtain⟨a1,a2,a3,a4⟩:=h6
   obtain⟨a5,a6⟩:=Y6.1 a4
   obtain⟨e,a7,a8,a9⟩:=A1g a6
   simp only[h3,h5,A1h a7]
   exact⟨a1,a2,(A7.1 a7).1,a3,R0 a5,a8,A0g.1 (A98.1 a9)⟩
  |_=>exact h6.elim
 |_=>exact h2.elim
def A4H(L:Sl):List (Nat×Nat×B6)->List AV->(List AV->Prop)->Prop
 |[],cs,K=>K cs
 |(off,n,x)::ps,cs,K=>xV L x λv=>A60 v λxs=>Cn (Nat.beq xs.length n) (stc cs off n xs λcs'=>A4H L ps cs' K) False
theorem A6g{L:Sl}:∀{ps:List (Nat×Nat×B6)}{cs:List AV}{K:List AV->Prop},A4H L ps cs K->O9 (D1 L) ps cs K
 |[],cs,K,h=>h
 |(off,n,x)::ps,cs,K,h=>by
  obtain⟨xs,h1,h2⟩:=A8e (E9 h)
  obtain⟨h3,h4⟩:=Y6.1 h2
  obtain⟨h5,h6⟩:=C20 (R0 h3) h4
  simp only[O9,h1]
  exact⟨R0 h3,h5,A6g h6⟩
def A0R(L:Sl)(x:Option B6)(dflt:Nat)(K:Int->Prop):Prop:=
 match x with
 |none=>K dflt
 |some x=>xV L x λv=>match v with
  |.d (.int _ n)=>K n
  |_=>False
theorem A24{L:Sl}{x:Option B6}{dflt:Nat}{K:Int->Prop}(h:A0R L x dflt K):S2 (D1 L) x dflt K:=by
 cases x with
 |none=>exact h
 |some x=>
  have:=E9 h
  simp only[S2]
  split
  ·rename_i n e;rw[e] at this;exact this
  ·rename_i e
   split at this
   ·rename_i n e2;exact absurd e2 (e _ _)
   ·exact this.elim
def B2y(os:List AO)(x:AV)(K:List (List D)->Prop):Prop:=
 match x with
 |.d x=>A7F x K
 |.arr id len=>Q7 os id λob=>match ob with
  |.arr es sz frz nl=>F1 (len=es.length) (K es)
  |_=>False
 |_=>False
theorem C2u{os:List AO}{x:AV}{K:List (List D)->Prop}(h:B2y os x K):j9 os x K:=by
 cases x with
 |d x=>
  obtain⟨⟨es,h1,h2⟩⟩:=h
  rcases h1 with ⟨rfl,rfl⟩|rfl
  ·exact h2
  ·exact h2
 |arr id len=>
  obtain⟨ob,h1,h2⟩:=P6 h
  cases ob with
  |arr es sz frz nl=>simp only[j9,h1];exact⟨h2.1,h2.2⟩
  |_=>exact h2.elim
 |_=>exact h.elim
def B2v(os:List AO)(sz bytes:Nat)(s:AV)(ns:List (List D))(K:AV->List AO->Prop):Prop:=
 match s with
 |.d .nil=>F1 (ns.length*bytes<=140737488355328/\ns.length<=9223372036854775807) (F1 (∀e∈ns,e.length=sz) (r8 os 0 λm=>j4 os [.arr ns sz 0 ns.isEmpty] λos'=>K (.arr m ns.length) os'))
 |.arr id len=>Q7 os id λob=>match ob with
  |.arr es sz' frz nl=>F1 (len=es.length) (Cn (Nat.beq sz' sz) (F1 ((es.length+ns.length)*bytes<=140737488355328/\es.length+ns.length<=9223372036854775807)
    (F1 (∀e∈ns,e.length=sz) (t6 os id (.arr (es++ns) sz frz (cond ns.isEmpty nl false)) λos'=>K (.arr id (es++ns).length) os'))) False)
  |_=>False
 |_=>False
theorem C2o{os:List AO}{sz bytes:Nat}{s:AV}{ns:List (List D)}{K:AV->List AO->Prop}(h:B2v os sz bytes s ns K):A0u os sz bytes s ns K:=by
 cases s with
 |d x=>cases x with
  |nil=>
   obtain⟨⟨h1,h2⟩,h3,h4⟩:=h
   refine⟨h1,h2,h3,?_⟩
   have:=v8.1 (B1E.1 h4)
   rw[v7] at this
   exact this
  |_=>exact h.elim
 |arr id len=>
  obtain⟨ob,h1,h2⟩:=P6 h
  cases ob with
  |arr es sz' frz nl=>
   obtain⟨h3,h4⟩:=h2
   obtain⟨h5,⟨h6,h6'⟩,h7,h8⟩:=Y6.1 h4
   simp only[A0u,h1]
   refine⟨h3,R0 h5,h6,h6',h7,?_⟩
   have:=A0g.1 h8
   rw[J0] at this
   have e:(nl&&ns.isEmpty)=cond ns.isEmpty nl false:=by cases ns.isEmpty<;>cases nl<;>rfl
   rw[e];exact this
  |_=>exact h2.elim
 |_=>exact h.elim
def C2p(os:List AO)(sz bytes:Nat)(s:AV)(ns:List (List AV))(K:AV->List AO->Prop):Prop:=
 match s with
 |.rs id len=>Q7 os id λob=>match ob with
  |.rarr es sz' nl=>F1 (len=es.length) (Cn (Nat.beq sz' sz) (F1 ((es.length+ns.length)*bytes<=140737488355328/\es.length+ns.length<=9223372036854775807)
    (F1 (∀e∈ns,e.length=sz) (t6 os id (.rarr (es++ns) sz (cond ns.isEmpty nl false)) λos'=>K (.rs id (es++ns).length) os'))) False)
  |_=>False
 |_=>False
theorem D8l{os:List AO}{sz bytes:Nat}{s:AV}{ns:List (List AV)}{K:AV->List AO->Prop}(h:C2p os sz bytes s ns K):A14 os sz bytes s ns K:=by
 cases s with
 |rs id len=>
  obtain⟨ob,h1,h2⟩:=P6 h
  cases ob with
  |rarr es sz' nl=>
   obtain⟨h3,h4⟩:=h2
   obtain⟨h5,⟨h6,h6'⟩,h7,h8⟩:=Y6.1 h4
   simp only[A14,h1]
   refine⟨h3,R0 h5,h6,h6',h7,?_⟩
   have:=A0g.1 h8
   rw[J0] at this
   have e:(nl&&ns.isEmpty)=cond ns.isEmpty nl false:=by cases ns.isEmpty<;>cases nl<;>rfl
   rw[e];exact this
  |_=>exact h2.elim
 |_=>exact h.elim
structure B7Y(P:Program)(g:FuncId)(as:List AV)(K:List (List D)->Nat->Bool->Prop):Prop where
 h:∃es sz nl,B0 P g as [] (λr os2=>r=.arr 0 es.length/\os2=[.arr es sz 0 nl])/\K es sz nl
def A8M(mx:Bool)(k:IntKind)(a:Int):List AV->(AV->Prop)->Prop
 |[],K=>K (.d (.int k a))
 |.d (.int k' b)::xs,K=>Cn mx (A8M mx k (max a b) xs K) (A8M mx k (min a b) xs K)
 |_,_=>False
theorem B1L{mx:Bool}{k:IntKind}{K:AV->Prop}:∀{xs:List AV}{a:Int},A8M mx k a xs K->m9 mx k a xs K
 |[],a,h=>h
 |x::xs,a,h=>by
  cases x with
  |d x=>cases x with
   |int k' b=>
    simp only[m9]
    cases mx with
    |true=>
     have h':=B1L (xs:=xs) (a:=max a b) h
     simp only[if_true]
     exact⟨λhle=>by rw[Int.max_eq_left hle] at h';exact h',λhlt=>by rw[Int.max_eq_right (by omega)] at h';exact h'⟩
    |false=>
     have h':=B1L (xs:=xs) (a:=min a b) h
     simp only[L8,if_false]
     exact⟨λhle=>by rw[Int.min_eq_left hle] at h';exact h',λhlt=>by rw[Int.min_eq_right (by omega)] at h';exact h'⟩
   |_=>exact h.elim
  |_=>exact h.elim
def xVs(L:Sl):List B6->(List AV->Prop)->Prop
 |[],K=>K []
 |x::xs,K=>xV L x λv=>xVs L xs λvs=>K (v::vs)
theorem A2E{L:Sl}:∀{xs:List B6}{K:List AV->Prop},xVs L xs K->K (xs.map (B8 (D1 L)))
 |[],_,h=>h
 |x::xs,K,h=>A2E (xs:=xs) (K:=λvs=>K (B8 (D1 L) x::vs)) (E9 h)
def B0T(L:Sl):List B6->(List Nat->Prop)->Prop
 |[],K=>K []
 |x::xs,K=>xV L x λv=>match v with
  |.ptr id 0=>B0T L xs λl=>K (id::l)
  |_=>False
theorem B8D{L:Sl}:∀{xs:List B6}{K:List Nat->Prop},B0T L xs K->∃ids,xs.mapM (λc=>A4w (B8 (D1 L) c))=some ids/\K ids
 |[],K,h=>⟨[],rfl,h⟩
 |x::xs,K,h=>by
  have:=E9 h
  split at this
  ·rename_i id e
   obtain⟨ids,h1,h2⟩:=B8D this
   exact⟨id::ids,by rw[A0r,h1,e];rfl,h2⟩
  ·exact this.elim
end Go.Bi
