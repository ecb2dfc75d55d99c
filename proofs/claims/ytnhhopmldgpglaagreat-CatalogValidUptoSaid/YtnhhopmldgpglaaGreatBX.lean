/- An evaluator of compiled code by continuations, made to be unfolded step by step. No condition. -/
import Derived.Test.YtnhhopmldgpglaaGreatBT
set_option linter.unusedVariables false
namespace Go.Bi
set_option linter.unusedSectionVars false
variable [K6]
abbrev Sl:=List (Nat×AV)
def frc(a:AV)(K:AV->Prop):Prop:=match a with
 |.d x=>K (.d x)
 |.agg cs=>K (.agg cs)
 |.tup cs=>K (.tup cs)
 |.ptr i o=>K (.ptr i o)
 |.aptr a b c d=>K (.aptr a b c d)
 |.dptr a b c=>K (.dptr a b c)
 |.arr a b=>K (.arr a b)
 |.clo a b=>K (.clo a b)
 |.iter a=>K (.iter a)
 |.mp a=>K (.mp a)
 |.mit a=>K (.mit a)
 |.rs a b=>K (.rs a b)
 |.rp a b c d=>K (.rp a b c d)
 |.junk=>K .junk
theorem A1f{a:AV}{K:AV->Prop}:frc a K↔K a:=by cases a<;>exact Iff.rfl
def A45{α:Type}:List α->Nat->(α->Prop)->Prop
 |[],_,_=>False
 |x::_,0,K=>K x
 |_::l,n+1,K=>A45 l n K
theorem P3{α:Type}{K:α->Prop}:∀{l:List α}{n:Nat},A45 l n K->∃x,l[n]?=some x/\K x
 |[],_,h=>h.elim
 |x::_,0,h=>⟨x,rfl,h⟩
 |_::l,n+1,h=>by
  obtain⟨x,hx,hk⟩:=P3 (l:=l) h
  exact⟨x,by simpa using hx,hk⟩
theorem B8n{α:Type}{K:α->Prop}{x:α}:∀{l:List α}{n:Nat},l[n]?=some x->K x->A45 l n K
 |[],_,h,_=>by simp at h
 |y::_,0,h,hk=>by simp at h;subst h;exact hk
 |_::l,n+1,h,hk=>B8n (l:=l) (by simpa using h) hk
def Z8{α:Type}:List α->List α->(List α->Prop)->Prop
 |[],b,K=>K b
 |x::a,b,K=>Z8 a b λr=>K (x::r)
theorem t6{α:Type}:∀{a b:List α}{K:List α->Prop},Z8 a b K↔K (a++b)
 |[],_,_=>Iff.rfl
 |x::a,b,K=>t6 (a:=a) (K:=λr=>K (x::r))
def w5{α:Type}:List α->Nat->(List α->Prop)->Prop
 |_,0,K=>K []
 |[],_+1,K=>K []
 |x::l,n+1,K=>w5 l n λr=>K (x::r)
theorem A20{α:Type}:∀{l:List α}{n:Nat}{K:List α->Prop},w5 l n K↔K (l.take n)
 |_,0,_=>by simp[w5]
 |[],_+1,_=>by simp[w5]
 |x::l,n+1,K=>A20 (l:=l) (n:=n) (K:=λr=>K (x::r))
def A0J{α:Type}:List α->Nat->(List α->Prop)->Prop
 |l,0,K=>K l
 |[],_+1,K=>K []
 |_::l,n+1,K=>A0J l n K
theorem A2X{α:Type}:∀{l:List α}{n:Nat}{K:List α->Prop},A0J l n K↔K (l.drop n)
 |_,0,_=>by simp[A0J]
 |[],_+1,_=>by simp[A0J]
 |_::l,n+1,K=>by simpa[A0J] using A2X (l:=l) (n:=n) (K:=K)
def p8{α:Type}:List α->Nat->α->(List α->Prop)->Prop
 |[],_,_,K=>K []
 |_::l,0,y,K=>K (y::l)
 |x::l,n+1,y,K=>p8 l n y λr=>K (x::r)
theorem A01{α:Type}{y:α}:∀{l:List α}{n:Nat}{K:List α->Prop},p8 l n y K↔K (l.set n y)
 |[],_,_=>Iff.rfl
 |_::l,0,_=>Iff.rfl
 |x::l,n+1,K=>A01 (l:=l) (n:=n) (K:=λr=>K (x::r))
def u9{α β:Type}(f:α->β):List α->(List β->Prop)->Prop
 |[],K=>K []
 |x::l,K=>u9 f l λr=>K (f x::r)
theorem z8{α β:Type}{f:α->β}:∀{l:List α}{K:List β->Prop},u9 f l K↔K (l.map f)
 |[],_=>Iff.rfl
 |x::l,K=>z8 (l:=l) (K:=λr=>K (f x::r))
def A1W{α:Type}:List α->Nat->List α->(List α->Prop)->Prop
 |cs,0,ps,K=>A0J cs ps.length λr=>Z8 ps r K
 |[],_+1,ps,K=>K ps
 |c::cs,n+1,ps,K=>A1W cs n ps λr=>K (c::r)
theorem A7Q{α:Type}{ps:List α}:∀{cs:List α}{n:Nat}{K:List α->Prop},A1W cs n ps K↔K (J8 cs n ps)
 |cs,0,K=>by
  cases cs<;>simp only[A1W,A2X,t6]<;>simp[J8]
 |[],_+1,K=>by simp[A1W,J8]
 |c::cs,n+1,K=>by
  have:=A7Q (ps:=ps) (cs:=cs) (n:=n) (K:=λr=>K (c::r))
  simp only[A1W]
  rw[this]
  simp[J8,Nat.add_right_comm n 1]
def n9{α:Type}:List α->Nat->(Nat->Prop)->Prop
 |[],n,K=>K n
 |_::l,n,K=>n9 l (n+1) K
theorem A9Y{α:Type}:∀{l:List α}{n:Nat}{K:Nat->Prop},n9 l n K↔K (n+l.length)
 |[],_,_=>Iff.rfl
 |_::l,n,K=>by simp only[n9,A9Y (l:=l)];rw[show n+1+l.length=n+(l.length+1) by omega];exact Iff.rfl
def A2W{α:Type}(sz:Nat):Nat->List α->(List (List α)->Prop)->Prop
 |0,_,K=>K []
 |n+1,l,K=>w5 l sz λa=>A0J l sz λb=>A2W sz n b λr=>K (a::r)
theorem A5k{α:Type}{sz:Nat}:∀{n:Nat}{l:List α}{K:List (List α)->Prop},A2W sz n l K↔K (R9 sz n l)
 |0,_,_=>Iff.rfl
 |n+1,l,K=>by
  simp only[A2W,A20,A2X]
  exact A5k (n:=n) (K:=λr=>K (l.take sz::r))
abbrev Cn(b:Bool)(X Y:Prop):Prop:=match b with
 |true=>X
 |false=>Y
abbrev Gn(b:Bool)(X:Prop):Prop:=match b with
 |false=>False
 |true=>X
theorem A9S{b:Bool}{X:Prop}:Gn b X↔b=true/\X:=by cases b<;>simp[Gn]
def CnD:Bool->D->D->D
 |true,X,_=>X
 |false,_,Y=>Y
theorem Y0{b:Bool}{X:Prop}:Cn b X False↔b=true/\X:=by cases b<;>simp[Cn]
theorem A0h{b:Bool}{X Y:Prop}:Cn b X Y↔(b=true->X)/\(b=false->Y):=by cases b<;>simp[Cn]
structure F7(p X:Prop):Prop where
 h1:p
 h2:X
structure WrK(k:IntKind)(v:Int)(K:D->Prop):Prop where
 h:K (.int k (k.wrap v))
structure A6E(d:D)(K:List (List D)->Prop):Prop where
 h:∃es,B5 d es/\K es
structure A95(P:Program)(g:FuncId)(as:List AV)(K:AV->Prop):Prop where
 h:∃r,Pure P g as r/\K r
structure A2b(P:Program)(g:FuncId)(as:List AV)(os:List AO)(K:AV->List AO->Prop):Prop where
 h:B4 P g as [] λr os2=>K (shA os.length r) (os++os2.map (U5 os.length))
structure A24(P:Program)(g:FuncId)(as:List AV)(os:List AO)(K:AV->List AO->Prop):Prop where
 h:B4 P g as os K
structure B5C(P:Program)(g:FuncId)(as:List AV)(os:List AO)(K:AV->Prop):Prop where
 h:∃r,B4 P g as os (λr' os2=>r'=r/\os2=os)/\K r
structure A8A(sk:SK)(ok g:Bool)(zs:List D)(key:D)(kvs:List (D×AV))(K:AV->Prop):Prop where
 h:l5 sk key kvs/\∃r,lkR ok (zv g zs) (J6 sk key kvs)=r/\K r
structure LkA(X Y:Prop):Prop where
 h:X\/Y
structure B4o(sk:SK)(key:D)(v:AV)(kvs:List (D×AV))(K:List (D×AV)->Prop):Prop where
 h:l5 sk key kvs/\K (K8 sk key v kvs)
structure C65(n:Nat)(seen:List Nat)(kvs:List (D×AV))(A:Nat->D×AV->Prop)(B:Prop):Prop where
 h0:n=kvs.length
 h1:∀(i:Nat) p,i∉ seen->kvs[i]?=some p->A i p
 h2:(∀i,i<n->i∈seen)->B
structure C64(n:Nat)(seen:List Nat)(kvs:List (D×AV))(K:D×AV->Prop):Prop where
 h:n=kvs.length/\∃i p,seen.getLast?=some i/\kvs[i]?=some p/\K p
structure A8p(X Y:Prop):Prop where
 h:X\/Y
def gc{α:Type}(cs:List α)(off:Nat)(K:α->Prop):Prop:=Gn (Nat.blt off cs.length) (A45 cs off K)
def gcs{α:Type}(cs:List α)(off n:Nat)(K:List α->Prop):Prop:=Cn (Nat.beq n cs.length&&Nat.beq off 0) (K cs) (Gn (Nat.ble (off+n) cs.length) (A0J cs off λr=>w5 r n K))
def stc{α:Type}(cs:List α)(off n:Nat)(vc:List α)(K:List α->Prop):Prop:=Cn (Nat.beq n cs.length&&Nat.beq off 0) (K vc) (Gn (Nat.ble (off+n) cs.length) (A1W cs off vc K))
theorem A0M{α:Type}{cs:List α}{off:Nat}{K:α->Prop}(h:gc cs off K):∃c,cs[off]?=some c/\K c:=P3 (A9S.1 h).2
theorem A7p{α:Type}{cs:List α}{off n:Nat}{K:List α->Prop}(h:gcs cs off n K):off+n<=cs.length/\K ((cs.drop off).take n):=by
 unfold gcs at h
 obtain⟨h1,h2⟩:=A0h.1 h
 cases hb:(Nat.beq n cs.length&&Nat.beq off 0) with
 |true=>
  have h3:=h1 hb
  simp only[O9] at hb
  have e1:=Q5 hb.1
  have e2:=Q5 hb.2
  subst e1;subst e2
  exact⟨by omega,by simpa using h3⟩
 |false=>
  obtain⟨h3,h4⟩:=A9S.1 (h2 hb)
  exact⟨P2 h3,A20.1 (A2X.1 h4)⟩
theorem B9q{α:Type}{cs vc:List α}{off n:Nat}{K:List α->Prop}(hl:vc.length=n)(h:stc cs off n vc K):off+n<=cs.length/\K (J8 cs off vc):=by
 unfold stc at h
 obtain⟨h1,h2⟩:=A0h.1 h
 cases hb:(Nat.beq n cs.length&&Nat.beq off 0) with
 |true=>
  have h3:=h1 hb
  simp only[O9] at hb
  have e1:=Q5 hb.1
  have e2:=Q5 hb.2
  subst e2
  have e3:J8 cs 0 vc=vc:=by simp[J8,show cs.length<=vc.length by omega]
  exact⟨by omega,by rw[e3];exact h3⟩
 |false=>
  obtain⟨h3,h4⟩:=A9S.1 (h2 hb)
  exact⟨P2 h3,A7Q.1 h4⟩
def xV(L:Sl)(x:B7)(K:AV->Prop):Prop:=match x with
 |.t n=>frc (D5 L n) K
 |.c x=>K (.d x)
 |.g cs=>u9 .d cs λl=>K (.agg l)
theorem F6{L:Sl}{x:B7}{K:AV->Prop}(h:xV L x K):K (B9 (D5 L) x):=by
 cases x with
 |t n=>exact A1f.1 h
 |c x=>exact h
 |g cs=>exact(z8 (f:=AV.d)).1 h
def P9(os:List AO)(id:Nat)(K:AO->Prop):Prop:=A45 os id K
def A5g(v:AV)(K:List AV->Prop):Prop:=match v with
 |.agg cs=>K cs
 |.tup _=>False
 |.junk=>False
 |.d x=>K [.d x]
 |.ptr i o=>K [.ptr i o]
 |.aptr a b c d=>K [.aptr a b c d]
 |.dptr a b c=>K [.dptr a b c]
 |.arr a b=>K [.arr a b]
 |.clo a b=>K [.clo a b]
 |.iter a=>K [.iter a]
 |.mp a=>K [.mp a]
 |.mit a=>K [.mit a]
 |.rs a b=>K [.rs a b]
 |.rp a b c d=>K [.rp a b c d]
theorem A76{v:AV}{K:List AV->Prop}(h:A5g v K):∃cs,v.cells=some cs/\K cs:=by
 cases v<;>first|exact h.elim|exact⟨_,rfl,h⟩
def xUn(op:UnOp)(x:D)(K:D->Prop):Prop:=
 match op,x with
 |.neg,.int k n=>WrK k (0-n) K
 |.xor,.int k n=>K (.int k (k.wrap (BitVec.ofInt k.bits (if k.signed then -1 else k.max) ^^^ BitVec.ofInt k.bits n).toNat))
 |.not,.bool b=>K (.bool !b)
 |_,_=>False
theorem D3Q{op:UnOp}{x:D}{K:D->Prop}(h:xUn op x K):unD op x K:=by
 cases op<;>cases x<;>first|exact h|exact WrK.h h|exact h.elim
def B0H(op:BinOp)(k:IntKind)(a b:Int)(K:D->Prop):Prop:=
 match op with
 |.add=>WrK k (a+b) K
 |.sub=>WrK k (a-b) K
 |.mul=>WrK k (a*b) K
 |.quo=>F7 (b≠0) (WrK k (a.tdiv b) K)
 |.rem=>F7 (b≠0) (K (.int k (a.tmod b)))
 |.and=>K (.int k (k.wrap (BitVec.ofInt k.bits a &&& BitVec.ofInt k.bits b).toNat))
 |.or=>K (.int k (k.wrap (BitVec.ofInt k.bits a|||BitVec.ofInt k.bits b).toNat))
 |.xor=>K (.int k (k.wrap (BitVec.ofInt k.bits a ^^^ BitVec.ofInt k.bits b).toNat))
 |.andNot=>K (.int k (k.wrap (BitVec.ofInt k.bits a &&& ~~~ BitVec.ofInt k.bits b).toNat))
 |.eql=>K (.bool (decide (a=b)))
 |.neq=>K (.bool (!decide (a=b)))
 |.lss=>K (.bool (decide (a<b)))
 |.leq=>K (.bool (decide (a<=b)))
 |.gtr=>K (.bool (decide (b<a)))
 |.geq=>K (.bool (decide (b<=a)))
 |_=>False
theorem D3K{op:BinOp}{k:IntKind}{a b:Int}{K:D->Prop}(h:B0H op k a b K):A1L op k a b K:=by
 cases op<;>first|exact h|exact WrK.h h|exact⟨F7.h1 h,WrK.h (F7.h2 h)⟩|exact⟨F7.h1 h,F7.h2 h⟩|exact h.elim|skip
 all_goals
  simp only[A1L]
  first|(rw[show(a==b)=decide (a=b) by rw[A08];simp];exact h)|(rw[show(a != b)=!decide (a=b) by rw[A08];simp];exact h)
def B9O(op:BinOp)(x y:List UInt8)(K:D->Prop):Prop:=
 match op with
 |.add=>F7 (x.length+y.length<=9223372036854775807) (K (.str (x++y)))
 |.eql=>K (.bool (decide (x=y)))
 |.neq=>K (.bool (!decide (x=y)))
 |.lss=>K (.bool (Op.bytesLess x y))
 |.leq=>K (.bool (Op.bytesLess x y||decide (x=y)))
 |.gtr=>K (.bool !(Op.bytesLess x y||decide (x=y)))
 |.geq=>K (.bool !(Op.bytesLess x y))
 |_=>False
theorem D3L{op:BinOp}{x y:List UInt8}{K:D->Prop}(h:B9O op x y K):A2e op x y K:=by
 have e:(x==y)=decide (x=y):=by rw[A08];simp
 cases op<;>first|exact h|exact⟨F7.h1 h,F7.h2 h⟩|exact h.elim|(simp only[A2e,e];exact h)
def kq:IntKind->IntKind->Bool
 |.i8,.i8=>true|.i16,.i16=>true|.i32,.i32=>true|.i64,.i64=>true
 |.u8,.u8=>true|.u16,.u16=>true|.u32,.u32=>true|.u64,.u64=>true
 |_,_=>false
theorem B7P{k k':IntKind}(h:kq k k'=true):k=k':=by cases k<;>cases k'<;>first|rfl|cases h
def B9N(op:BinOp)(x y:AV)(K:D->Prop):Prop:=
 match x,y with
 |.d (.int k a),.d (.int k' b)=>match op with
  |.shl=>F7 (0<=b) (K (.int k (k.wrap (a*2 ^ (min b.toNat k.bits)))))
  |.shr=>F7 (0<=b) (K (.int k (a.fdiv (2 ^ (min b.toNat k.bits)))))
  |op=>Cn (kq k k') (B0H op k a b K) False
 |.d (.str s),.d (.str t)=>B9O op s t K
 |_,_=>False
theorem D3M{op:BinOp}{x y:AV}{K:D->Prop}(h:B9N op x y K):A2R op x y K:=by
 cases x with
 |d x=>cases x with
  |int k a=>cases y with
   |d y=>cases y with
    |int k' b=>
     have key:Cn (kq k k') (B0H op k a b K) False->k=k'/\A1L op k a b K:=λh=>by
      obtain⟨h1,h2⟩:=Y0.1 h
      exact⟨B7P h1,D3K h2⟩
     cases op<;>first|exact h|exact⟨F7.h1 h,F7.h2 h⟩|exact key h
    |_=>exact h.elim
   |_=>exact h.elim
  |str s=>cases y with
   |d y=>cases y with
    |str t=>exact D3L h
    |_=>exact h.elim
   |_=>exact h.elim
  |_=>exact h.elim
 |_=>exact h.elim
def A2m:SK->AV->AV->(Bool->Prop)->Prop
 |.i,.d (.int k a),.d (.int k' b),K=>Cn (kq k k') (K (decide (a=b))) False
 |.b,.d (.bool a),.d (.bool b),K=>K (a==b)
 |.s,.d (.str a),.d (.str b),K=>K (decide (a=b))
 |_,_,_,_=>False
def A2Z:List SK->List AV->List AV->(Bool->Prop)->Prop
 |[],[],[],K=>K true
 |[k],[x],[y],K=>A2m k x y K
 |k::ks,x::xs,y::ys,K=>A2m k x y λa=>A2Z ks xs ys λb=>K (a&&b)
 |_,_,_,_=>False
theorem B6N{k:SK}{x y:AV}{K:Bool->Prop}(h:A2m k x y K):∃a b r,x=.d a/\y=.d b/\Y6 k a b=some r/\K r:=by
 unfold A2m at h
 split at h
 ·rename_i k a k' b
  obtain⟨h1,h2⟩:=Y0.1 h
  refine⟨_,_,a==b,rfl,rfl,by simp only[Y6,B7P h1,if_true],?_⟩
  rw[show(a==b)=decide (a=b) by rw[A08];simp];exact h2
 ·exact⟨_,_,_,rfl,rfl,rfl,h⟩
 ·rename_i a b
  refine⟨_,_,a==b,rfl,rfl,rfl,?_⟩
  rw[show(a==b)=decide (a=b) by rw[A08];simp];exact h
 ·exact h.elim
theorem D0e:∀{ks:List SK}{xs ys:List AV}{K:Bool->Prop},A2Z ks xs ys K->∃b,eqL ks xs ys=some b/\K b:=by
 intro ks
 induction ks with
 |nil=>
  intro xs ys K h
  cases xs<;>cases ys<;>first|exact⟨true,rfl,h⟩|exact h.elim
 |cons k ks ih=>
  intro xs ys K h
  cases xs with
  |nil=>cases ks<;>cases ys<;>exact h.elim
  |cons x xs=>
   cases ys with
   |nil=>cases ks<;>cases xs<;>exact h.elim
   |cons y ys=>
    have gen:A2m k x y (λa=>A2Z ks xs ys λb=>K (a&&b))->∃b,eqL (k::ks) (x::xs) (y::ys)=some b/\K b:=λh=>by
     obtain⟨a,b,r,rfl,rfl,h1,h2⟩:=B6N h
     obtain⟨c,h3,h4⟩:=ih h2
     exact⟨r&&c,by simp only[eqL,h1,h3],h4⟩
    cases ks with
    |cons k2 ks=>cases xs<;>cases ys<;>exact gen h
    |nil=>
     cases xs with
     |cons x2 xs=>cases ys<;>exact gen h
     |nil=>
      cases ys with
      |cons y2 ys=>exact gen h
      |nil=>
       refine gen ?_
       obtain⟨a,b,r,rfl,rfl,h1,h2⟩:=B6N (K:=K) h
       cases k<;>cases a<;>cases b<;>simp only[Y6] at h1<;>first|cases h1|skip
       ·simp only[A2Z,A2m] at h ⊢;simpa using h
       ·simp only[A2Z,A2m] at h ⊢;simpa using h
       ·simp only[A2Z,A2m] at h ⊢;simpa using h
def xSh(os:List AO)(d:Nat)(x:AV)(K:AV->Prop):Prop:=
 match x with
 |.ptr id o=>K (.ptr id (o+d))
 |.aptr id l i o=>P9 os id λob=>match ob with
  |.arr es _ _ _=>F7 (l=es.length) (K (.aptr id l i (o+d)))
  |_=>False
 |.dptr es i o=>K (.dptr es i (o+d))
 |_=>False
theorem B0L{os:List AO}{d:Nat}{x:AV}{K:AV->Prop}(h:xSh os d x K):Z2 os d x K:=by
 cases x with
 |aptr id l i o=>
  obtain⟨ob,h1,h2⟩:=P3 h
  cases ob with
  |arr es sz frz nl=>simp only[Z2,h1];exact⟨h2.1,h2.2⟩
  |_=>exact h2.elim
 |ptr id o=>exact h
 |dptr es i o=>exact h
 |_=>exact h.elim
def B0I(os:List AO)(agg:Bool)(n:Nat)(x:AV)(K:AV->Prop):Prop:=
 match x with
 |.ptr id off=>P9 os id λob=>match ob with
  |.cells cs=>Cn agg (gcs cs off n λl=>K (.agg l)) (gc cs off λc=>frc c K)
  |_=>False
 |.aptr id len i off=>P9 os id λob=>match ob with
  |.arr es sz frz nl=>F7 (len=es.length) (F7 (nl=false) (gc es i λe=>Cn agg (F7 (off+n<=sz) (A0J e off λr=>w5 r n λl=>u9 .d l λl=>K (.agg l))) (F7 (off<sz) (gc e off λc=>K (.d c)))))
  |_=>False
 |.rp id len i off=>P9 os id λob=>match ob with
  |.rarr es sz nl=>F7 (len=es.length) (F7 (nl=false) (gc es i λe=>Cn agg (F7 (off+n<=sz) (A0J e off λr=>w5 r n λl=>K (.agg l))) (F7 (off<sz) (gc e off λc=>frc c K))))
  |_=>False
 |.dptr es i off=>gc es i λe=>Cn agg (gcs e off n λl=>u9 .d l λl=>K (.agg l)) (gc e off λc=>K (.d c))
 |_=>False
theorem A0N{α:Type}{l:List α}{i:Nat}{e d:α}(h:l[i]?=some e):l.getD i d=e:=by rw[G9,h];exact rfl
theorem B9Q{os:List AO}{agg:Bool}{n:Nat}{x:AV}{K:AV->Prop}(h:B0I os agg n x K):V1 os agg n x K:=by
 cases x with
 |ptr id off=>
  obtain⟨ob,h1,h2⟩:=P3 h
  cases ob with
  |cells cs=>
   simp only[V1,h1]
   cases agg with
   |true=>exact A7p h2
   |false=>
    obtain⟨c,h3,h4⟩:=A0M h2
    exact⟨(B2.1 h3).1,by rw[A0N h3];exact A1f.1 h4⟩
  |_=>exact h2.elim
 |aptr id len i off=>
  obtain⟨ob,h1,h2⟩:=P3 h
  cases ob with
  |arr es sz frz nl=>
   obtain⟨h3,h4,h5⟩:=h2
   obtain⟨e,h6,h7⟩:=A0M h5
   simp only[V1,h1,A0N h6]
   refine⟨h3,(B2.1 h6).1,h4,?_⟩
   cases agg with
   |true=>
    obtain⟨h8,h9⟩:=h7
    exact⟨h8,z8.1 (A20.1 (A2X.1 h9))⟩
   |false=>
    obtain⟨h8,h9⟩:=h7
    obtain⟨c,h10,h11⟩:=A0M h9
    exact⟨h8,by rw[A0N h10];exact h11⟩
  |_=>exact h2.elim
 |rp id len i off=>
  obtain⟨ob,h1,h2⟩:=P3 h
  cases ob with
  |rarr es sz nl=>
   obtain⟨h3,h4,h5⟩:=h2
   obtain⟨e,h6,h7⟩:=A0M h5
   simp only[V1,h1,A0N h6]
   refine⟨h3,(B2.1 h6).1,h4,?_⟩
   cases agg with
   |true=>
    obtain⟨h8,h9⟩:=h7
    exact⟨h8,A20.1 (A2X.1 h9)⟩
   |false=>
    obtain⟨h8,h9⟩:=h7
    obtain⟨c,h10,h11⟩:=A0M h9
    exact⟨h8,by rw[A0N h10];exact A1f.1 h11⟩
  |_=>exact h2.elim
 |dptr es i off=>
  obtain⟨e,h6,h7⟩:=A0M h
  simp only[V1,A0N h6]
  refine⟨(B2.1 h6).1,?_⟩
  cases agg with
  |true=>
   obtain⟨h8,h9⟩:=A7p h7
   exact⟨h8,z8.1 h9⟩
  |false=>
   obtain⟨c,h10,h11⟩:=A0M h7
   exact⟨(B2.1 h10).1,by rw[A0N h10];exact h11⟩
 |_=>exact h.elim
def A7n(os:List AO)(v:AV)(K:D->List AO->Prop):Prop:=match v with
 |.d x=>K x os
 |.arr id len=>P9 os id λob=>match ob with
  |.arr es sz frz nl=>F7 (len=es.length) (p8 os id (.arr es sz es.length nl) λos'=>K (CnD nl .nil (.sl es)) os')
  |_=>False
 |_=>False
theorem A9P{os:List AO}{v:AV}{K:D->List AO->Prop}(h:A7n os v K):∃x os',A0L os v=some (x,os')/\K x os':=by
 cases v with
 |d x=>exact⟨x,os,rfl,h⟩
 |arr id len=>
  obtain⟨ob,h1,h2⟩:=P3 h
  cases ob with
  |arr es sz frz nl=>
   obtain⟨h3,h4⟩:=h2
   refine⟨_,_,by simp only[A0L,h1,if_pos h3];rfl,?_⟩
   have:=A01.1 h4
   cases nl<;>exact this
  |_=>exact h2.elim
 |_=>exact h.elim
def A31(os:List AO):List AV->(List D->List AO->Prop)->Prop
 |[],K=>K [] os
 |c::cs,K=>A7n os c λx os1=>A31 os1 cs λxs os2=>K (x::xs) os2
theorem A5y:∀{cs:List AV}{os:List AO}{K:List D->List AO->Prop},A31 os cs K->∃xs os',n7 os cs=some (xs,os')/\K xs os'
 |[],os,K,h=>⟨[],os,rfl,h⟩
 |c::cs,os,K,h=>by
  obtain⟨x,os1,h1,h2⟩:=A9P h
  obtain⟨xs,os2,h3,h4⟩:=A5y h2
  exact⟨x::xs,os2,by simp only[n7,h1,h3],h4⟩
def A9Q(os:List AO)(v:AV)(K:AV->List AO->Prop):Prop:=match v with
 |.agg cs=>A31 os cs λxs os1=>u9 .d xs λl=>K (.agg l) os1
 |.d x=>K (.d x) os
 |.arr id len=>A7n os (.arr id len) λx os1=>K (.d x) os1
 |_=>False
theorem B7s{os:List AO}{v:AV}{K:AV->List AO->Prop}(h:A9Q os v K):∃x os',A1h os v=some (x,os')/\K x os':=by
 cases v with
 |d x=>exact⟨_,os,rfl,h⟩
 |arr id len=>
  obtain⟨x,os1,h1,h2⟩:=A9P (os:=os) (v:=.arr id len) (K:=λx os1=>K (.d x) os1) h
  exact⟨_,_,by simp only[A1h,h1],h2⟩
 |agg cs=>
  obtain⟨x,os1,h1,h2⟩:=A5y h
  exact⟨_,_,by simp only[A1h,h1],(z8 (f:=AV.d)).1 h2⟩
 |_=>exact h.elim
def A32(os:List AO):List AV->(List AV->List AO->Prop)->Prop
 |[],K=>K [] os
 |c::cs,K=>A9Q os c λx os1=>A32 os1 cs λxs os2=>K (x::xs) os2
theorem A3T:∀{cs:List AV}{os:List AO}{K:List AV->List AO->Prop},A32 os cs K->∃xs os',n8 os cs=some (xs,os')/\K xs os'
 |[],os,K,h=>⟨[],os,rfl,h⟩
 |c::cs,os,K,h=>by
  obtain⟨x,os1,h1,h2⟩:=B7s h
  obtain⟨xs,os2,h3,h4⟩:=A3T h2
  exact⟨x::xs,os2,by simp only[n8,h1,h3],h4⟩
def A1U(os:List AO):List AV->(List AV->List AO->Prop)->Prop
 |[],K=>K [] os
 |c::cs,K=>Cn c.ref (A1U os cs λxs os2=>K (c::xs) os2) (A9Q os c λx os1=>A1U os1 cs λxs os2=>K (x::xs) os2)
theorem A7F:∀{cs:List AV}{os:List AO}{K:List AV->List AO->Prop},A1U os cs K->∃xs os',A0q os cs=some (xs,os')/\K xs os'
 |[],os,K,h=>⟨[],os,rfl,h⟩
 |c::cs,os,K,h=>by
  unfold A1U at h
  cases hr:c.ref with
  |true=>
   rw[hr] at h
   obtain⟨xs,os2,h3,h4⟩:=A7F (cs:=cs) h
   exact⟨c::xs,os2,by simp only[A0q,hr,if_true,h3],h4⟩
  |false=>
   rw[hr] at h
   obtain⟨x,os1,h1,h2⟩:=B7s (K:=λx os1=>A1U os1 cs λxs os2=>K (x::xs) os2) h
   obtain⟨xs,os2,h3,h4⟩:=A7F h2
   exact⟨x::xs,os2,by simp only[A0q,hr,L8,if_false,h1,h3],h4⟩
def B9Y(os:List AO)(n:Nat)(x v:AV)(K:List AO->Prop):Prop:=
 A5g v λvc=>match x with
 |.ptr id off=>P9 os id λob=>match ob with
  |.cells cs=>Cn (Nat.beq vc.length n) (stc cs off n vc λcs'=>p8 os id (.cells cs') K) False
  |_=>False
 |.aptr id len i off=>A31 os vc λxs os1=>P9 os1 id λob=>match ob with
  |.arr es sz frz nl=>F7 (len=es.length) (F7 (frz<=i) (F7 (nl=false) (Cn (Nat.beq xs.length n) (gc es i λe=>F7 (off+n<=sz) (A1W e off xs λe'=>p8 os1 id (.arr (es.set i e') sz frz nl) K)) False)))
  |_=>False
 |_=>False
theorem D3P{os:List AO}{n:Nat}{x v:AV}{K:List AO->Prop}(h:B9Y os n x v K):A0T os n x v K:=by
 obtain⟨vc,h1,h2⟩:=A76 h
 simp only[A0T,h1]
 cases x with
 |ptr id off=>
  obtain⟨ob,h3,h4⟩:=P3 h2
  cases ob with
  |cells cs=>
   obtain⟨h5,h6⟩:=Y0.1 h4
   obtain⟨h7,h8⟩:=B9q (Q5 h5) h6
   simp only[h3]
   exact⟨Q5 h5,h7,A01.1 h8⟩
  |_=>exact h4.elim
 |aptr id len i off=>
  obtain⟨xs,os1,h3,h4⟩:=A5y h2
  obtain⟨ob,h5,h6⟩:=P3 h4
  cases ob with
  |arr es sz frz nl=>
   obtain⟨a1,a2,a3,a4⟩:=h6
   obtain⟨a5,a6⟩:=Y0.1 a4
   obtain⟨e,a7,a8,a9⟩:=A0M a6
   simp only[h3,h5,A0N a7]
   exact⟨a1,a2,(B2.1 a7).1,a3,Q5 a5,a8,A01.1 (A7Q.1 a9)⟩
  |_=>exact h6.elim
 |_=>exact h2.elim
def A3R(L:Sl):List (Nat×Nat×B7)->List AV->(List AV->Prop)->Prop
 |[],cs,K=>K cs
 |(off,n,x)::ps,cs,K=>xV L x λv=>A5g v λxs=>Cn (Nat.beq xs.length n) (stc cs off n xs λcs'=>A3R L ps cs' K) False
theorem A5t{L:Sl}:∀{ps:List (Nat×Nat×B7)}{cs:List AV}{K:List AV->Prop},A3R L ps cs K->O7 (D5 L) ps cs K
 |[],cs,K,h=>h
 |(off,n,x)::ps,cs,K,h=>by
  obtain⟨xs,h1,h2⟩:=A76 (F6 h)
  obtain⟨h3,h4⟩:=Y0.1 h2
  obtain⟨h5,h6⟩:=B9q (Q5 h3) h4
  simp only[O7,h1]
  exact⟨Q5 h3,h5,A5t h6⟩
def A0x(L:Sl)(x:Option B7)(dflt:Nat)(K:Int->Prop):Prop:=
 match x with
 |none=>K dflt
 |some x=>xV L x λv=>match v with
  |.d (.int _ n)=>K n
  |_=>False
theorem A1x{L:Sl}{x:Option B7}{dflt:Nat}{K:Int->Prop}(h:A0x L x dflt K):S3 (D5 L) x dflt K:=by
 cases x with
 |none=>exact h
 |some x=>
  have:=F6 h
  simp only[S3]
  split
  ·rename_i n e;rw[e] at this;exact this
  ·rename_i e
   split at this
   ·rename_i n e2;exact absurd e2 (e _ _)
   ·exact this.elim
def B0J(os:List AO)(x:AV)(K:List (List D)->Prop):Prop:=
 match x with
 |.d x=>A6E x K
 |.arr id len=>P9 os id λob=>match ob with
  |.arr es sz frz nl=>F7 (len=es.length) (K es)
  |_=>False
 |_=>False
theorem B9R{os:List AO}{x:AV}{K:List (List D)->Prop}(h:B0J os x K):f9 os x K:=by
 cases x with
 |d x=>
  obtain⟨⟨es,h1,h2⟩⟩:=h
  rcases h1 with ⟨rfl,rfl⟩|rfl
  ·exact h2
  ·exact h2
 |arr id len=>
  obtain⟨ob,h1,h2⟩:=P3 h
  cases ob with
  |arr es sz frz nl=>simp only[f9,h1];exact⟨h2.1,h2.2⟩
  |_=>exact h2.elim
 |_=>exact h.elim
def B0G(os:List AO)(sz bytes:Nat)(s:AV)(ns:List (List D))(K:AV->List AO->Prop):Prop:=
 match s with
 |.d .nil=>F7 (ns.length*bytes<=140737488355328/\ns.length<=9223372036854775807) (F7 (∀e∈ns,e.length=sz) (n9 os 0 λm=>Z8 os [.arr ns sz 0 ns.isEmpty] λos'=>K (.arr m ns.length) os'))
 |.arr id len=>P9 os id λob=>match ob with
  |.arr es sz' frz nl=>F7 (len=es.length) (Cn (Nat.beq sz' sz) (F7 ((es.length+ns.length)*bytes<=140737488355328/\es.length+ns.length<=9223372036854775807)
    (F7 (∀e∈ns,e.length=sz) (p8 os id (.arr (es++ns) sz frz (cond ns.isEmpty nl false)) λos'=>K (.arr id (es++ns).length) os'))) False)
  |_=>False
 |_=>False
theorem B9L{os:List AO}{sz bytes:Nat}{s:AV}{ns:List (List D)}{K:AV->List AO->Prop}(h:B0G os sz bytes s ns K):A0d os sz bytes s ns K:=by
 cases s with
 |d x=>cases x with
  |nil=>
   obtain⟨⟨h1,h2⟩,h3,h4⟩:=h
   refine⟨h1,h2,h3,?_⟩
   have:=t6.1 (A9Y.1 h4)
   rw[x8] at this
   exact this
  |_=>exact h.elim
 |arr id len=>
  obtain⟨ob,h1,h2⟩:=P3 h
  cases ob with
  |arr es sz' frz nl=>
   obtain⟨h3,h4⟩:=h2
   obtain⟨h5,⟨h6,h6'⟩,h7,h8⟩:=Y0.1 h4
   simp only[A0d,h1]
   refine⟨h3,Q5 h5,h6,h6',h7,?_⟩
   have:=A01.1 h8
   rw[Q3] at this
   have e:(nl&&ns.isEmpty)=cond ns.isEmpty nl false:=by cases ns.isEmpty<;>cases nl<;>rfl
   rw[e];exact this
  |_=>exact h2.elim
 |_=>exact h.elim
def B9M(os:List AO)(sz bytes:Nat)(s:AV)(ns:List (List AV))(K:AV->List AO->Prop):Prop:=
 match s with
 |.rs id len=>P9 os id λob=>match ob with
  |.rarr es sz' nl=>F7 (len=es.length) (Cn (Nat.beq sz' sz) (F7 ((es.length+ns.length)*bytes<=140737488355328/\es.length+ns.length<=9223372036854775807)
    (F7 (∀e∈ns,e.length=sz) (p8 os id (.rarr (es++ns) sz (cond ns.isEmpty nl false)) λos'=>K (.rs id (es++ns).length) os'))) False)
  |_=>False
 |_=>False
theorem D3J{os:List AO}{sz bytes:Nat}{s:AV}{ns:List (List AV)}{K:AV->List AO->Prop}(h:B9M os sz bytes s ns K):A0D os sz bytes s ns K:=by
 cases s with
 |rs id len=>
  obtain⟨ob,h1,h2⟩:=P3 h
  cases ob with
  |rarr es sz' nl=>
   obtain⟨h3,h4⟩:=h2
   obtain⟨h5,⟨h6,h6'⟩,h7,h8⟩:=Y0.1 h4
   simp only[A0D,h1]
   refine⟨h3,Q5 h5,h6,h6',h7,?_⟩
   have:=A01.1 h8
   rw[Q3] at this
   have e:(nl&&ns.isEmpty)=cond ns.isEmpty nl false:=by cases ns.isEmpty<;>cases nl<;>rfl
   rw[e];exact this
  |_=>exact h2.elim
 |_=>exact h.elim
structure B5B(P:Program)(g:FuncId)(as:List AV)(K:List (List D)->Nat->Bool->Prop):Prop where
 h:∃es sz nl,B4 P g as [] (λr os2=>r=.arr 0 es.length/\os2=[.arr es sz 0 nl])/\K es sz nl
def A7A(mx:Bool)(k:IntKind)(a:Int):List AV->(AV->Prop)->Prop
 |[],K=>K (.d (.int k a))
 |.d (.int k' b)::xs,K=>Cn mx (A7A mx k (max a b) xs K) (A7A mx k (min a b) xs K)
 |_,_=>False
theorem B05{mx:Bool}{k:IntKind}{K:AV->Prop}:∀{xs:List AV}{a:Int},A7A mx k a xs K->l4 mx k a xs K
 |[],a,h=>h
 |x::xs,a,h=>by
  cases x with
  |d x=>cases x with
   |int k' b=>
    simp only[l4]
    cases mx with
    |true=>
     have h':=B05 (xs:=xs) (a:=max a b) h
     simp only[if_true]
     exact⟨λhle=>by rw[Int.max_eq_left hle] at h';exact h',λhlt=>by rw[Int.max_eq_right (by omega)] at h';exact h'⟩
    |false=>
     have h':=B05 (xs:=xs) (a:=min a b) h
     simp only[L8,if_false]
     exact⟨λhle=>by rw[Int.min_eq_left hle] at h';exact h',λhlt=>by rw[Int.min_eq_right (by omega)] at h';exact h'⟩
   |_=>exact h.elim
  |_=>exact h.elim
def xVs(L:Sl):List B7->(List AV->Prop)->Prop
 |[],K=>K []
 |x::xs,K=>xV L x λv=>xVs L xs λvs=>K (v::vs)
theorem A22{L:Sl}:∀{xs:List B7}{K:List AV->Prop},xVs L xs K->K (xs.map (B9 (D5 L)))
 |[],_,h=>h
 |x::xs,K,h=>A22 (xs:=xs) (K:=λvs=>K (B9 (D5 L) x::vs)) (F6 h)
def A9n(L:Sl):List B7->(List Nat->Prop)->Prop
 |[],K=>K []
 |x::xs,K=>xV L x λv=>match v with
  |.ptr id 0=>A9n L xs λl=>K (id::l)
  |_=>False
theorem B69{L:Sl}:∀{xs:List B7}{K:List Nat->Prop},A9n L xs K->∃ids,xs.mapM (λc=>A3G (B9 (D5 L) c))=some ids/\K ids
 |[],K,h=>⟨[],rfl,h⟩
 |x::xs,K,h=>by
  have:=F6 h
  split at this
  ·rename_i id e
   obtain⟨ids,h1,h2⟩:=B69 this
   exact⟨id::ids,by rw[A0b,h1,e];rfl,h2⟩
  ·exact this.elim
end Go.Bi
