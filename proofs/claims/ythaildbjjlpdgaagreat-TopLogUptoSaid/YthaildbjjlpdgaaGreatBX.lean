/- An evaluator of compiled code by continuations, made to be unfolded step by step. No condition. -/
import Derived.Test.YthaildbjjlpdgaaGreatBT
set_option linter.unusedVariables false
namespace Go.Bi
set_option linter.unusedSectionVars false
variable [Globs]
abbrev Sl:=List (Nat×AV)
def frc(a:AV)(K:AV->Prop):Prop:=match a with
 |.d x=>K (.d x)
 |.agg cs=>K (.agg cs)
 |.tup cs=>K (.tup cs)
 |.ptr i o=>K (.ptr i o)
 |.aptr a b c d=>K (.aptr a b c d)
 |.dptr a b c=>K (.dptr a b c)
 |.arr a b=>K (.arr a b)
 |.clo a b=>K (.clo a b)
 |.bcl a b=>K (.bcl a b)
 |.iter a=>K (.iter a)
 |.mp a=>K (.mp a)
 |.mit a=>K (.mit a)
 |.rs a b=>K (.rs a b)
 |.rp a b c d=>K (.rp a b c d)
 |.full a=>K (.full a)
 |.sub a b c d=>K (.sub a b c d)
 |.junk=>K .junk
theorem frc_eq{a:AV}{K:AV->Prop}:frc a K↔K a:=by cases a<;>exact Iff.rfl
def nthK{α:Type}:List α->Nat->(α->Prop)->Prop
 |[],_,_=>False
 |x::_,0,K=>K x
 |_::l,n+1,K=>nthK l n K
theorem nthK_ok{α:Type}{K:α->Prop}:∀{l:List α} {n:Nat},nthK l n K->∃x,l[n]?=some x/\K x
 |[],_,h=>h.elim
 |x::_,0,h=>⟨x,rfl,h⟩
 |_::l,n+1,h=>by
  obtain⟨x,hx,hk⟩:=nthK_ok (l:=l) h
  exact⟨x,by simpa using hx,hk⟩
theorem nthK_of{α:Type}{K:α->Prop}{x:α}:∀{l:List α} {n:Nat},l[n]?=some x->K x->nthK l n K
 |[],_,h,_=>by simp at h
 |y::_,0,h,hk=>by simp at h;subst h;exact hk
 |_::l,n+1,h,hk=>nthK_of (l:=l) (by simpa using h) hk
def appK{α:Type}:List α->List α->(List α->Prop)->Prop
 |[],b,K=>K b
 |x::a,b,K=>appK a b λr=>K (x::r)
theorem appK_eq{α:Type}:∀{a b:List α} {K:List α->Prop},appK a b K↔K (a++b)
 |[],_,_=>Iff.rfl
 |x::a,b,K=>appK_eq (a:=a) (K:=λr=>K (x::r))
def takeK{α:Type}:List α->Nat->(List α->Prop)->Prop
 |_,0,K=>K []
 |[],_+1,K=>K []
 |x::l,n+1,K=>takeK l n λr=>K (x::r)
theorem takeK_eq{α:Type}:∀{l:List α} {n:Nat} {K:List α->Prop},takeK l n K↔K (l.take n)
 |_,0,_=>by simp[takeK]
 |[],_+1,_=>by simp[takeK]
 |x::l,n+1,K=>takeK_eq (l:=l) (n:=n) (K:=λr=>K (x::r))
def dropK{α:Type}:List α->Nat->(List α->Prop)->Prop
 |l,0,K=>K l
 |[],_+1,K=>K []
 |_::l,n+1,K=>dropK l n K
theorem dropK_eq{α:Type}:∀{l:List α} {n:Nat} {K:List α->Prop},dropK l n K↔K (l.drop n)
 |_,0,_=>by simp[dropK]
 |[],_+1,_=>by simp[dropK]
 |_::l,n+1,K=>by simpa[dropK] using dropK_eq (l:=l) (n:=n) (K:=K)
def setK{α:Type}:List α->Nat->α->(List α->Prop)->Prop
 |[],_,_,K=>K []
 |_::l,0,y,K=>K (y::l)
 |x::l,n+1,y,K=>setK l n y λr=>K (x::r)
theorem setK_eq{α:Type}{y:α}:∀{l:List α} {n:Nat} {K:List α->Prop},setK l n y K↔K (l.set n y)
 |[],_,_=>Iff.rfl
 |_::l,0,_=>Iff.rfl
 |x::l,n+1,K=>setK_eq (l:=l) (n:=n) (K:=λr=>K (x::r))
def mapK{α β:Type}(f:α->β):List α->(List β->Prop)->Prop
 |[],K=>K []
 |x::l,K=>mapK f l λr=>K (f x::r)
theorem mapK_eq{α β:Type}{f:α->β}:∀{l:List α} {K:List β->Prop},mapK f l K↔K (l.map f)
 |[],_=>Iff.rfl
 |x::l,K=>mapK_eq (l:=l) (K:=λr=>K (f x::r))
def setRK{α:Type}:List α->Nat->List α->(List α->Prop)->Prop
 |cs,0,ps,K=>dropK cs ps.length λr=>appK ps r K
 |[],_+1,ps,K=>K ps
 |c::cs,n+1,ps,K=>setRK cs n ps λr=>K (c::r)
theorem setRK_eq{α:Type}{ps:List α}:∀{cs:List α} {n:Nat} {K:List α->Prop},setRK cs n ps K↔K (setR cs n ps)
 |cs,0,K=>by
  cases cs<;>simp only[setRK,dropK_eq,appK_eq]<;>simp[setR]
 |[],_+1,K=>by simp[setRK,setR]
 |c::cs,n+1,K=>by
  have:=setRK_eq (ps:=ps) (cs:=cs) (n:=n) (K:=λr=>K (c::r))
  simp only[setRK]
  rw[this]
  simp[setR,Nat.add_right_comm n 1]
def lenK{α:Type}:List α->Nat->(Nat->Prop)->Prop
 |[],n,K=>K n
 |_::l,n,K=>lenK l (n+1) K
theorem lenK_eq{α:Type}:∀{l:List α} {n:Nat} {K:Nat->Prop},lenK l n K↔K (n+l.length)
 |[],_,_=>Iff.rfl
 |_::l,n,K=>by simp only[lenK,lenK_eq (l:=l)];rw[show n+1+l.length=n+(l.length+1) by omega];exact Iff.rfl
def dsK:List AV->(List D->Prop)->Prop->Prop
 |[],K,_=>K []
 |c::l,K,E=>match c with
  |.d x=>dsK l (λr=>K (x::r)) E
  |_=>E
theorem dsK_ok:∀{cs:List AV} {K:List D->Prop} {E:Prop},dsK cs K E->match dsOf cs with
  |some ds=>K ds
  |none=>E
 |[],_,_,h=>h
 |c::l,K,E,h=>by
  cases c with
  |d x=>
   have h2:=dsK_ok (cs:=l) (K:=λr=>K (x::r)) (E:=E) h
   unfold dsOf
   cases hl:dsOf l with
   |some ds=>rw[hl] at h2;exact h2
   |none=>rw[hl] at h2;exact h2
  |_=>exact h
def chunksK{α:Type}(sz:Nat):Nat->List α->(List (List α)->Prop)->Prop
 |0,_,K=>K []
 |n+1,l,K=>takeK l sz λa=>dropK l sz λb=>chunksK sz n b λr=>K (a::r)
theorem chunksK_eq{α:Type}{sz:Nat}:∀{n:Nat} {l:List α} {K:List (List α)->Prop},chunksK sz n l K↔K (chunks sz n l)
 |0,_,_=>Iff.rfl
 |n+1,l,K=>by
  simp only[chunksK,takeK_eq,dropK_eq]
  exact chunksK_eq (n:=n) (K:=λr=>K (l.take sz::r))
abbrev Cn(b:Bool)(X Y:Prop):Prop:=match b with
 |true=>X
 |false=>Y
abbrev Gn(b:Bool)(X:Prop):Prop:=match b with
 |false=>False
 |true=>X
theorem gn_iff{b:Bool}{X:Prop}:Gn b X↔b=true/\X:=by cases b<;>simp[Gn]
def CnD:Bool->D->D->D
 |true,X,_=>X
 |false,_,Y=>Y
theorem cn_false{b:Bool}{X:Prop}:Cn b X False↔b=true/\X:=by cases b<;>simp[Cn]
theorem cn_both{b:Bool}{X Y:Prop}:Cn b X Y↔(b=true->X)/\(b=false->Y):=by cases b<;>simp[Cn]
structure Chk(p X:Prop):Prop where
 h1:p
 h2:X
structure WrK(k:IntKind)(v:Int)(K:D->Prop):Prop where
 h:K (.int k (k.wrap v))
structure GetSl(d:D)(K:List (List D)->Prop):Prop where
 h:∃es,SlD d es/\K es
structure PureC(P:Program)(g:FuncId)(as:List AV)(K:AV->Prop):Prop where
 h:∃r,Pure P g as r/\K r
structure NewC(P:Program)(g:FuncId)(as:List AV)(os:List AO)(K:AV->List AO->Prop):Prop where
 h:CallSpec P g as [] λr os2=>K (shA os.length r) (os++os2.map (shO os.length))
structure CallW(P:Program)(g:FuncId)(as:List AV)(os:List AO)(K:AV->List AO->Prop):Prop where
 h:CallSpec P g as os K
structure PureR(P:Program)(g:FuncId)(as:List AV)(os:List AO)(K:AV->Prop):Prop where
 h:∃r,CallSpec P g as os (λr' os2=>r'=r/\os2=os)/\K r
structure PureA(P:Program)(g:FuncId)(id off:Nat)(ob:AO)(as:List AV)(K:AV->AO->Prop):Prop where
 h:∃r ob',(∀os2:List AO,os2[id]?=some ob->CallSpec P g (.ptr id off::as) os2 (λr' os3=>r'=r/\os3=os2.set id ob'))/\K r ob'
structure MGet(sk:SK)(ok g:Bool)(zs:List D)(key:D)(kvs:List (D×AV))(K:AV->Prop):Prop where
 h:mok sk key kvs/\∃r,lkR ok (zv g zs) (mget sk key kvs)=r/\K r
structure LkA(X Y:Prop):Prop where
 h:X\/Y
structure MPut(sk:SK)(key:D)(v:AV)(kvs:List (D×AV))(K:List (D×AV)->Prop):Prop where
 h:mok sk key kvs/\K (mput sk key v kvs)
structure CallA(X Y:Prop):Prop where
 h:X\/Y
def gc{α:Type}(cs:List α)(off:Nat)(K:α->Prop):Prop:=Gn (Nat.blt off cs.length) (nthK cs off K)
def gcs{α:Type}(cs:List α)(off n:Nat)(K:List α->Prop):Prop:=Cn (Nat.beq n cs.length&&Nat.beq off 0) (K cs) (Gn (Nat.ble (off+n) cs.length) (dropK cs off λr=>takeK r n K))
def stc{α:Type}(cs:List α)(off n:Nat)(vc:List α)(K:List α->Prop):Prop:=Cn (Nat.beq n cs.length&&Nat.beq off 0) (K vc) (Gn (Nat.ble (off+n) cs.length) (setRK cs off vc K))
theorem gc_ok{α:Type}{cs:List α}{off:Nat}{K:α->Prop}(h:gc cs off K):∃c,cs[off]?=some c/\K c:=nthK_ok (gn_iff.1 h).2
theorem gcs_ok{α:Type}{cs:List α}{off n:Nat}{K:List α->Prop}(h:gcs cs off n K):off+n<=cs.length/\K ((cs.drop off).take n):=by
 unfold gcs at h
 obtain⟨h1,h2⟩:=cn_both.1 h
 cases hb:(Nat.beq n cs.length&&Nat.beq off 0) with
 |true=>
  have h3:=h1 hb
  simp only[Bool.and_eq_true] at hb
  have e1:=Nat.eq_of_beq_eq_true hb.1
  have e2:=Nat.eq_of_beq_eq_true hb.2
  subst e1;subst e2
  exact⟨by omega,by simpa using h3⟩
 |false=>
  obtain⟨h3,h4⟩:=gn_iff.1 (h2 hb)
  exact⟨Nat.le_of_ble_eq_true h3,takeK_eq.1 (dropK_eq.1 h4)⟩
theorem stc_ok{α:Type}{cs vc:List α}{off n:Nat}{K:List α->Prop}(hl:vc.length=n)(h:stc cs off n vc K):off+n<=cs.length/\K (setR cs off vc):=by
 unfold stc at h
 obtain⟨h1,h2⟩:=cn_both.1 h
 cases hb:(Nat.beq n cs.length&&Nat.beq off 0) with
 |true=>
  have h3:=h1 hb
  simp only[Bool.and_eq_true] at hb
  have e1:=Nat.eq_of_beq_eq_true hb.1
  have e2:=Nat.eq_of_beq_eq_true hb.2
  subst e2
  have e3:setR cs 0 vc=vc:=by simp[setR,show cs.length<=vc.length by omega]
  exact⟨by omega,by rw[e3];exact h3⟩
 |false=>
  obtain⟨h3,h4⟩:=gn_iff.1 (h2 hb)
  exact⟨Nat.le_of_ble_eq_true h3,setRK_eq.1 h4⟩
def xV(L:Sl)(x:Opd)(K:AV->Prop):Prop:=match x with
 |.t n=>frc (ofL L n) K
 |.c x=>K (.d x)
 |.g cs=>mapK .d cs λl=>K (.agg l)
theorem xV_ok{L:Sl}{x:Opd}{K:AV->Prop}(h:xV L x K):K (evO (ofL L) x):=by
 cases x with
 |t n=>exact frc_eq.1 h
 |c x=>exact h
 |g cs=>exact(mapK_eq (f:=AV.d)).1 h
def getO(os:List AO)(id:Nat)(K:AO->Prop):Prop:=nthK os id K
def cellsK(v:AV)(K:List AV->Prop):Prop:=match v with
 |.agg cs=>K cs
 |.tup _=>False
 |.junk=>False
 |.d x=>K [.d x]
 |.ptr i o=>K [.ptr i o]
 |.aptr a b c d=>K [.aptr a b c d]
 |.dptr a b c=>K [.dptr a b c]
 |.arr a b=>K [.arr a b]
 |.clo a b=>K [.clo a b]
 |.bcl a b=>K [.bcl a b]
 |.iter a=>K [.iter a]
 |.mp a=>K [.mp a]
 |.mit a=>K [.mit a]
 |.rs a b=>K [.rs a b]
 |.rp a b c d=>K [.rp a b c d]
 |.full a=>K [.full a]
 |.sub a b c d=>K [.sub a b c d]
theorem cellsK_ok{v:AV}{K:List AV->Prop}(h:cellsK v K):∃cs,v.cells=some cs/\K cs:=by
 cases v<;>first|exact h.elim|exact⟨_,rfl,h⟩
def xUn(op:UnOp)(x:D)(K:D->Prop):Prop:=
 match op,x with
 |.neg,.int k n=>WrK k (0-n) K
 |.xor,.int k n=>K (.int k (k.wrap (BitVec.ofInt k.bits (if k.signed then -1 else k.max) ^^^ BitVec.ofInt k.bits n).toNat))
 |.not,.bool b=>K (.bool !b)
 |_,_=>False
theorem xUn_ok{op:UnOp}{x:D}{K:D->Prop}(h:xUn op x K):unD op x K:=by
 cases op<;>cases x<;>first|exact h|exact WrK.h h|exact h.elim
def xBinI(op:BinOp)(k:IntKind)(a b:Int)(K:D->Prop):Prop:=
 match op with
 |.add=>WrK k (a+b) K
 |.sub=>WrK k (a-b) K
 |.mul=>WrK k (a*b) K
 |.quo=>Chk (b≠0) (WrK k (a.tdiv b) K)
 |.rem=>Chk (b≠0) (K (.int k (a.tmod b)))
 |.and=>K (.int k (k.wrap (BitVec.ofInt k.bits a &&& BitVec.ofInt k.bits b).toNat))
 |.or=>K (.int k (k.wrap (BitVec.ofInt k.bits a|||BitVec.ofInt k.bits b).toNat))
 |.xor=>K (.int k (k.wrap (BitVec.ofInt k.bits a ^^^ BitVec.ofInt k.bits b).toNat))
 |.andNot=>K (.int k (k.wrap (BitVec.ofInt k.bits a &&& ~~~ BitVec.ofInt k.bits b).toNat))
 |.eql=>K (.bool (decide (a=b)))
 |.neq=>K (.bool (!decide (a=b)))
 |.lss=>K (.bool (decide (a<b)))
 |.leq=>K (.bool (decide (a<=b)))
 |.gtr=>K (.bool (decide (b<a)))
 |.geq=>K (.bool (decide (b<=a)))
 |_=>False
theorem xBinI_ok{op:BinOp}{k:IntKind}{a b:Int}{K:D->Prop}(h:xBinI op k a b K):binI op k a b K:=by
 cases op<;>first|exact h|exact WrK.h h|exact⟨Chk.h1 h,WrK.h (Chk.h2 h)⟩|exact⟨Chk.h1 h,Chk.h2 h⟩|exact h.elim|skip
 all_goals
  simp only[binI]
  first|(rw[show(a==b)=decide (a=b) by rw[Bool.eq_iff_iff];simp];exact h)|(rw[show(a != b)=!decide (a=b) by rw[Bool.eq_iff_iff];simp];exact h)
def xBinS(op:BinOp)(x y:List UInt8)(K:D->Prop):Prop:=
 match op with
 |.add=>Chk (x.length+y.length<=9223372036854775807) (K (.str (x++y)))
 |.eql=>K (.bool (decide (x=y)))
 |.neq=>K (.bool (!decide (x=y)))
 |.lss=>K (.bool (Op.bytesLess x y))
 |.leq=>K (.bool (Op.bytesLess x y||decide (x=y)))
 |.gtr=>K (.bool !(Op.bytesLess x y||decide (x=y)))
 |.geq=>K (.bool !(Op.bytesLess x y))
 |_=>False
theorem xBinS_ok{op:BinOp}{x y:List UInt8}{K:D->Prop}(h:xBinS op x y K):binS op x y K:=by
 have e:(x==y)=decide (x=y):=by rw[Bool.eq_iff_iff];simp
 cases op<;>first|exact h|exact⟨Chk.h1 h,Chk.h2 h⟩|exact h.elim|(simp only[binS,e];exact h)
def kq:IntKind->IntKind->Bool
 |.i8,.i8=>true|.i16,.i16=>true|.i32,.i32=>true|.i64,.i64=>true
 |.u8,.u8=>true|.u16,.u16=>true|.u32,.u32=>true|.u64,.u64=>true
 |_,_=>false
theorem kq_ok{k k':IntKind}(h:kq k k'=true):k=k':=by cases k<;>cases k'<;>first|rfl|cases h
def xBin(op:BinOp)(x y:AV)(K:D->Prop):Prop:=
 match x,y with
 |.d (.int k a),.d (.int k' b)=>match op with
  |.shl=>Chk (0<=b) (K (.int k (k.wrap (a*2 ^ (min b.toNat k.bits)))))
  |.shr=>Chk (0<=b) (K (.int k (a.fdiv (2 ^ (min b.toNat k.bits)))))
  |op=>Cn (kq k k') (xBinI op k a b K) False
 |.d (.str s),.d (.str t)=>xBinS op s t K
 |_,_=>False
theorem xBin_ok{op:BinOp}{x y:AV}{K:D->Prop}(h:xBin op x y K):binD op x y K:=by
 cases x with
 |d x=>cases x with
  |int k a=>cases y with
   |d y=>cases y with
    |int k' b=>
     have key:Cn (kq k k') (xBinI op k a b K) False->k=k'/\binI op k a b K:=λh=>by
      obtain⟨h1,h2⟩:=cn_false.1 h
      exact⟨kq_ok h1,xBinI_ok h2⟩
     cases op<;>first|exact h|exact⟨Chk.h1 h,Chk.h2 h⟩|exact key h
    |_=>exact h.elim
   |_=>exact h.elim
  |str s=>cases y with
   |d y=>cases y with
    |str t=>exact xBinS_ok h
    |_=>exact h.elim
   |_=>exact h.elim
  |_=>exact h.elim
 |_=>exact h.elim
def eqDK:SK->AV->AV->(Bool->Prop)->Prop
 |.i,.d (.int k a),.d (.int k' b),K=>Cn (kq k k') (K (decide (a=b))) False
 |.b,.d (.bool a),.d (.bool b),K=>K (a==b)
 |.s,.d (.str a),.d (.str b),K=>K (decide (a=b))
 |_,_,_,_=>False
def eqLK:List SK->List AV->List AV->(Bool->Prop)->Prop
 |[],[],[],K=>K true
 |[k],[x],[y],K=>eqDK k x y K
 |k::ks,x::xs,y::ys,K=>eqDK k x y λa=>eqLK ks xs ys λb=>K (a&&b)
 |_,_,_,_=>False
theorem eqDK_ok{k:SK}{x y:AV}{K:Bool->Prop}(h:eqDK k x y K):∃a b r,x=.d a/\y=.d b/\eqD k a b=some r/\K r:=by
 unfold eqDK at h
 split at h
 ·rename_i k a k' b
  obtain⟨h1,h2⟩:=cn_false.1 h
  refine⟨_,_,a==b,rfl,rfl,by simp only[eqD,kq_ok h1,if_true],?_⟩
  rw[show(a==b)=decide (a=b) by rw[Bool.eq_iff_iff];simp];exact h2
 ·exact⟨_,_,_,rfl,rfl,rfl,h⟩
 ·rename_i a b
  refine⟨_,_,a==b,rfl,rfl,rfl,?_⟩
  rw[show(a==b)=decide (a=b) by rw[Bool.eq_iff_iff];simp];exact h
 ·exact h.elim
theorem eqLK_ok:∀{ks:List SK} {xs ys:List AV} {K:Bool->Prop},eqLK ks xs ys K->∃b,eqL ks xs ys=some b/\K b:=by
 intro ks
 induction ks with
 |nil=>
  intro xs ys K h
  cases xs<;>cases ys<;>first|exact⟨true,rfl,h⟩|exact h.elim
 |cons k ks ih=>
  intro xs ys K h
  cases xs with
  |nil=>cases ks<;>cases ys<;>exact h.elim
  |cons x xs=>
   cases ys with
   |nil=>cases ks<;>cases xs<;>exact h.elim
   |cons y ys=>
    have gen:eqDK k x y (λa=>eqLK ks xs ys λb=>K (a&&b))->∃b,eqL (k::ks) (x::xs) (y::ys)=some b/\K b:=λh=>by
     obtain⟨a,b,r,rfl,rfl,h1,h2⟩:=eqDK_ok h
     obtain⟨c,h3,h4⟩:=ih h2
     exact⟨r&&c,by simp only[eqL,h1,h3],h4⟩
    cases ks with
    |cons k2 ks=>cases xs<;>cases ys<;>exact gen h
    |nil=>
     cases xs with
     |cons x2 xs=>cases ys<;>exact gen h
     |nil=>
      cases ys with
      |cons y2 ys=>exact gen h
      |nil=>
       refine gen ?_
       obtain⟨a,b,r,rfl,rfl,h1,h2⟩:=eqDK_ok (K:=K) h
       cases k<;>cases a<;>cases b<;>simp only[eqD] at h1<;>first|cases h1|skip
       ·simp only[eqLK,eqDK] at h ⊢;simpa using h
       ·simp only[eqLK,eqDK] at h ⊢;simpa using h
       ·simp only[eqLK,eqDK] at h ⊢;simpa using h
def xSh(os:List AO)(d:Nat)(x:AV)(K:AV->Prop):Prop:=
 match x with
 |.ptr id o=>K (.ptr id (o+d))
 |.aptr id l i o=>getO os id λob=>match ob with
  |.arr es _ _ _=>Chk (l=es.length) (K (.aptr id l i (o+d)))
  |_=>False
 |.dptr es i o=>K (.dptr es i (o+d))
 |_=>False
theorem xSh_ok{os:List AO}{d:Nat}{x:AV}{K:AV->Prop}(h:xSh os d x K):shI os d x K:=by
 cases x with
 |aptr id l i o=>
  obtain⟨ob,h1,h2⟩:=nthK_ok h
  cases ob with
  |arr es sz frz nl=>simp only[shI,h1];exact⟨h2.1,h2.2⟩
  |_=>exact h2.elim
 |ptr id o=>exact h
 |dptr es i o=>exact h
 |_=>exact h.elim
def xLoad(os:List AO)(agg:Bool)(n:Nat)(x:AV)(K:AV->Prop):Prop:=
 match x with
 |.ptr id off=>getO os id λob=>match ob with
  |.cells cs=>Cn agg (gcs cs off n λl=>K (.agg l)) (gc cs off λc=>frc c K)
  |_=>False
 |.aptr id len i off=>getO os id λob=>match ob with
  |.arr es sz frz nl=>Chk (len=es.length) (Chk (nl=false) (gc es i λe=>Cn agg (Chk (off+n<=sz) (dropK e off λr=>takeK r n λl=>mapK .d l λl=>K (.agg l))) (Chk (off<sz) (gc e off λc=>K (.d c)))))
  |_=>False
 |.rp id len i off=>getO os id λob=>match ob with
  |.rarr es sz nl=>Chk (len=es.length) (Chk (nl=false) (gc es i λe=>Cn agg (Chk (off+n<=sz) (dropK e off λr=>takeK r n λl=>K (.agg l))) (Chk (off<sz) (gc e off λc=>frc c K))))
  |_=>False
 |.dptr es i off=>gc es i λe=>Cn agg (gcs e off n λl=>mapK .d l λl=>K (.agg l)) (gc e off λc=>K (.d c))
 |_=>False
theorem getD_get{α:Type}{l:List α}{i:Nat}{e d:α}(h:l[i]?=some e):l.getD i d=e:=by rw[List.getD_eq_getElem?_getD,h];exact rfl
theorem xLoad_ok{os:List AO}{agg:Bool}{n:Nat}{x:AV}{K:AV->Prop}(h:xLoad os agg n x K):loadI os agg n x K:=by
 cases x with
 |ptr id off=>
  obtain⟨ob,h1,h2⟩:=nthK_ok h
  cases ob with
  |cells cs=>
   simp only[loadI,h1]
   cases agg with
   |true=>exact gcs_ok h2
   |false=>
    obtain⟨c,h3,h4⟩:=gc_ok h2
    exact⟨(List.getElem?_eq_some_iff.1 h3).1,by rw[getD_get h3];exact frc_eq.1 h4⟩
  |_=>exact h2.elim
 |aptr id len i off=>
  obtain⟨ob,h1,h2⟩:=nthK_ok h
  cases ob with
  |arr es sz frz nl=>
   obtain⟨h3,h4,h5⟩:=h2
   obtain⟨e,h6,h7⟩:=gc_ok h5
   simp only[loadI,h1,getD_get h6]
   refine⟨h3,(List.getElem?_eq_some_iff.1 h6).1,h4,?_⟩
   cases agg with
   |true=>
    obtain⟨h8,h9⟩:=h7
    exact⟨h8,mapK_eq.1 (takeK_eq.1 (dropK_eq.1 h9))⟩
   |false=>
    obtain⟨h8,h9⟩:=h7
    obtain⟨c,h10,h11⟩:=gc_ok h9
    exact⟨h8,by rw[getD_get h10];exact h11⟩
  |_=>exact h2.elim
 |rp id len i off=>
  obtain⟨ob,h1,h2⟩:=nthK_ok h
  cases ob with
  |rarr es sz nl=>
   obtain⟨h3,h4,h5⟩:=h2
   obtain⟨e,h6,h7⟩:=gc_ok h5
   simp only[loadI,h1,getD_get h6]
   refine⟨h3,(List.getElem?_eq_some_iff.1 h6).1,h4,?_⟩
   cases agg with
   |true=>
    obtain⟨h8,h9⟩:=h7
    exact⟨h8,takeK_eq.1 (dropK_eq.1 h9)⟩
   |false=>
    obtain⟨h8,h9⟩:=h7
    obtain⟨c,h10,h11⟩:=gc_ok h9
    exact⟨h8,by rw[getD_get h10];exact frc_eq.1 h11⟩
  |_=>exact h2.elim
 |dptr es i off=>
  obtain⟨e,h6,h7⟩:=gc_ok h
  simp only[loadI,getD_get h6]
  refine⟨(List.getElem?_eq_some_iff.1 h6).1,?_⟩
  cases agg with
  |true=>
   obtain⟨h8,h9⟩:=gcs_ok h7
   exact⟨h8,mapK_eq.1 h9⟩
  |false=>
   obtain⟨c,h10,h11⟩:=gc_ok h7
   exact⟨(List.getElem?_eq_some_iff.1 h10).1,by rw[getD_get h10];exact h11⟩
 |_=>exact h.elim
def frzCK(os:List AO)(v:AV)(K:D->List AO->Prop):Prop:=match v with
 |.d x=>K x os
 |.arr id len=>getO os id λob=>match ob with
  |.arr es sz frz nl=>Chk (len=es.length) (setK os id (.arr es sz es.length nl) λos'=>K (CnD nl .nil (.sl es)) os')
  |_=>False
 |.full es=>K (.sl es) os
 |.sub id tot lo n=>getO os id λob=>match ob with
  |.arr es sz frz nl=>Chk (tot=es.length) (setK os id (.arr es sz (max frz (lo+n)) nl) λos'=>K (CnD nl .nil (.sl ((es.drop lo).take n))) os')
  |_=>False
 |_=>False
theorem frzCK_ok{os:List AO}{v:AV}{K:D->List AO->Prop}(h:frzCK os v K):∃x os',frzC os v=some (x,os')/\K x os':=by
 cases v with
 |d x=>exact⟨x,os,rfl,h⟩
 |arr id len=>
  obtain⟨ob,h1,h2⟩:=nthK_ok h
  cases ob with
  |arr es sz frz nl=>
   obtain⟨h3,h4⟩:=h2
   refine⟨_,_,by simp only[frzC,h1,if_pos h3];rfl,?_⟩
   have:=setK_eq.1 h4
   cases nl<;>exact this
  |_=>exact h2.elim
 |full es=>exact⟨_,_,rfl,h⟩
 |sub id tot lo n=>
  obtain⟨ob,h1,h2⟩:=nthK_ok h
  cases ob with
  |arr es sz frz nl=>
   obtain⟨h3,h4⟩:=h2
   refine⟨_,_,by simp only[frzC,h1,if_pos h3];rfl,?_⟩
   have:=setK_eq.1 h4
   cases nl<;>exact this
  |_=>exact h2.elim
 |_=>exact h.elim
def frzCsK(os:List AO):List AV->(List D->List AO->Prop)->Prop
 |[],K=>K [] os
 |c::cs,K=>frzCK os c λx os1=>frzCsK os1 cs λxs os2=>K (x::xs) os2
theorem frzCsK_ok:∀{cs:List AV} {os:List AO} {K:List D->List AO->Prop},frzCsK os cs K->∃xs os',frzCs os cs=some (xs,os')/\K xs os'
 |[],os,K,h=>⟨[],os,rfl,h⟩
 |c::cs,os,K,h=>by
  obtain⟨x,os1,h1,h2⟩:=frzCK_ok h
  obtain⟨xs,os2,h3,h4⟩:=frzCsK_ok h2
  exact⟨x::xs,os2,by simp only[frzCs,h1,h3],h4⟩
def frzGK(os:List AO)(v:AV)(K:AV->List AO->Prop):Prop:=match v with
 |.agg cs=>frzCsK os cs λxs os1=>mapK .d xs λl=>K (.agg l) os1
 |.d x=>K (.d x) os
 |.arr id len=>frzCK os (.arr id len) λx os1=>K (.d x) os1
 |.full es=>K (.d (.sl es)) os
 |.sub a b c e=>frzCK os (.sub a b c e) λx os1=>K (.d x) os1
 |_=>False
theorem frzGK_ok{os:List AO}{v:AV}{K:AV->List AO->Prop}(h:frzGK os v K):∃x os',frzG os v=some (x,os')/\K x os':=by
 cases v with
 |d x=>exact⟨_,os,rfl,h⟩
 |arr id len=>
  obtain⟨x,os1,h1,h2⟩:=frzCK_ok (os:=os) (v:=.arr id len) (K:=λx os1=>K (.d x) os1) h
  exact⟨_,_,by simp only[frzG,h1],h2⟩
 |full es=>exact⟨_,_,rfl,h⟩
 |sub a b c e=>
  obtain⟨x,os1,h1,h2⟩:=frzCK_ok (os:=os) (v:=.sub a b c e) (K:=λx os1=>K (.d x) os1) h
  exact⟨_,_,by simp only[frzG,h1],h2⟩
 |agg cs=>
  obtain⟨x,os1,h1,h2⟩:=frzCsK_ok h
  exact⟨_,_,by simp only[frzG,h1],(mapK_eq (f:=AV.d)).1 h2⟩
 |_=>exact h.elim
def frzGsK(os:List AO):List AV->(List AV->List AO->Prop)->Prop
 |[],K=>K [] os
 |c::cs,K=>frzGK os c λx os1=>frzGsK os1 cs λxs os2=>K (x::xs) os2
theorem frzGsK_ok:∀{cs:List AV} {os:List AO} {K:List AV->List AO->Prop},frzGsK os cs K->∃xs os',frzGs os cs=some (xs,os')/\K xs os'
 |[],os,K,h=>⟨[],os,rfl,h⟩
 |c::cs,os,K,h=>by
  obtain⟨x,os1,h1,h2⟩:=frzGK_ok h
  obtain⟨xs,os2,h3,h4⟩:=frzGsK_ok h2
  exact⟨x::xs,os2,by simp only[frzGs,h1,h3],h4⟩
def prepK(os:List AO):List AV->(List AV->List AO->Prop)->Prop
 |[],K=>K [] os
 |c::cs,K=>Cn c.ref (prepK os cs λxs os2=>K (c::xs) os2) (frzGK os c λx os1=>prepK os1 cs λxs os2=>K (x::xs) os2)
theorem prepK_ok:∀{cs:List AV} {os:List AO} {K:List AV->List AO->Prop},prepK os cs K->∃xs os',prepGs os cs=some (xs,os')/\K xs os'
 |[],os,K,h=>⟨[],os,rfl,h⟩
 |c::cs,os,K,h=>by
  unfold prepK at h
  cases hr:c.ref with
  |true=>
   rw[hr] at h
   obtain⟨xs,os2,h3,h4⟩:=prepK_ok (cs:=cs) h
   exact⟨c::xs,os2,by simp only[prepGs,hr,if_true,h3],h4⟩
  |false=>
   rw[hr] at h
   obtain⟨x,os1,h1,h2⟩:=frzGK_ok (K:=λx os1=>prepK os1 cs λxs os2=>K (x::xs) os2) h
   obtain⟨xs,os2,h3,h4⟩:=prepK_ok h2
   exact⟨x::xs,os2,by simp only[prepGs,hr,Bool.false_eq_true,if_false,h1,h3],h4⟩
def xStore(os:List AO)(n:Nat)(x v:AV)(K:List AO->Prop):Prop:=
 cellsK v λvc=>match x with
 |.ptr id off=>getO os id λob=>match ob with
  |.cells cs=>Cn (Nat.beq vc.length n) (stc cs off n vc λcs'=>setK os id (.cells cs') K) False
  |_=>False
 |.aptr id len i off=>frzCsK os vc λxs os1=>getO os1 id λob=>match ob with
  |.arr es sz frz nl=>Chk (len=es.length) (Chk (frz<=i) (Chk (nl=false) (Cn (Nat.beq xs.length n) (gc es i λe=>Chk (off+n<=sz) (setRK e off xs λe'=>setK os1 id (.arr (es.set i e') sz frz nl) K)) False)))
  |_=>False
 |_=>False
theorem xStore_ok{os:List AO}{n:Nat}{x v:AV}{K:List AO->Prop}(h:xStore os n x v K):storeI os n x v K:=by
 obtain⟨vc,h1,h2⟩:=cellsK_ok h
 simp only[storeI,h1]
 cases x with
 |ptr id off=>
  obtain⟨ob,h3,h4⟩:=nthK_ok h2
  cases ob with
  |cells cs=>
   obtain⟨h5,h6⟩:=cn_false.1 h4
   obtain⟨h7,h8⟩:=stc_ok (Nat.eq_of_beq_eq_true h5) h6
   simp only[h3]
   exact⟨Nat.eq_of_beq_eq_true h5,h7,setK_eq.1 h8⟩
  |_=>exact h4.elim
 |aptr id len i off=>
  obtain⟨xs,os1,h3,h4⟩:=frzCsK_ok h2
  obtain⟨ob,h5,h6⟩:=nthK_ok h4
  cases ob with
  |arr es sz frz nl=>
   obtain⟨a1,a2,a3,a4⟩:=h6
   obtain⟨a5,a6⟩:=cn_false.1 a4
   obtain⟨e,a7,a8,a9⟩:=gc_ok a6
   simp only[h3,h5,getD_get a7]
   exact⟨a1,a2,(List.getElem?_eq_some_iff.1 a7).1,a3,Nat.eq_of_beq_eq_true a5,a8,setK_eq.1 (setRK_eq.1 a9)⟩
  |_=>exact h6.elim
 |_=>exact h2.elim
def fillK(L:Sl):List (Nat×Nat×Opd)->List AV->(List AV->Prop)->Prop
 |[],cs,K=>K cs
 |(off,n,x)::ps,cs,K=>xV L x λv=>cellsK v λxs=>Cn (Nat.beq xs.length n) (stc cs off n xs λcs'=>fillK L ps cs' K) False
theorem fillK_ok{L:Sl}:∀{ps:List (Nat×Nat×Opd)} {cs:List AV} {K:List AV->Prop},fillK L ps cs K->fillA (ofL L) ps cs K
 |[],cs,K,h=>h
 |(off,n,x)::ps,cs,K,h=>by
  obtain⟨xs,h1,h2⟩:=cellsK_ok (xV_ok h)
  obtain⟨h3,h4⟩:=cn_false.1 h2
  obtain⟨h5,h6⟩:=stc_ok (Nat.eq_of_beq_eq_true h3) h4
  simp only[fillA,h1]
  exact⟨Nat.eq_of_beq_eq_true h3,h5,fillK_ok h6⟩
def xBnd(L:Sl)(x:Option Opd)(dflt:Nat)(K:Int->Prop):Prop:=
 match x with
 |none=>K dflt
 |some x=>xV L x λv=>match v with
  |.d (.int _ n)=>K n
  |_=>False
theorem xBnd_ok{L:Sl}{x:Option Opd}{dflt:Nat}{K:Int->Prop}(h:xBnd L x dflt K):bndI (ofL L) x dflt K:=by
 cases x with
 |none=>exact h
 |some x=>
  have:=xV_ok h
  simp only[bndI]
  split
  ·rename_i n e;rw[e] at this;exact this
  ·rename_i e
   split at this
   ·rename_i n e2;exact absurd e2 (e _ _)
   ·exact this.elim
def xNews(os:List AO)(x:AV)(K:List (List D)->Prop):Prop:=
 match x with
 |.d x=>GetSl x K
 |.arr id len=>getO os id λob=>match ob with
  |.arr es sz frz nl=>Chk (len=es.length) (K es)
  |_=>False
 |.full es=>K es
 |_=>False
theorem xNews_ok{os:List AO}{x:AV}{K:List (List D)->Prop}(h:xNews os x K):newsI os x K:=by
 cases x with
 |d x=>
  obtain⟨⟨es,h1,h2⟩⟩:=h
  rcases h1 with ⟨rfl,rfl⟩|rfl
  ·exact h2
  ·exact h2
 |arr id len=>
  obtain⟨ob,h1,h2⟩:=nthK_ok h
  cases ob with
  |arr es sz frz nl=>simp only[newsI,h1];exact⟨h2.1,h2.2⟩
  |_=>exact h2.elim
 |full es=>exact h
 |_=>exact h.elim
def xApp(os:List AO)(sz bytes:Nat)(s:AV)(ns:List (List D))(K:AV->List AO->Prop):Prop:=
 match s with
 |.d .nil=>Chk (ns.length*bytes<=140737488355328/\ns.length<=9223372036854775807) (Chk (∀e∈ns,e.length=sz) (lenK os 0 λm=>appK os [.arr ns sz 0 ns.isEmpty] λos'=>K (.arr m ns.length) os'))
 |.arr id len=>getO os id λob=>match ob with
  |.arr es sz' frz nl=>Chk (len=es.length) (Cn (Nat.beq sz' sz) (Chk ((es.length+ns.length)*bytes<=140737488355328/\es.length+ns.length<=9223372036854775807)
    (Chk (∀e∈ns,e.length=sz) (setK os id (.arr (es++ns) sz frz (cond ns.isEmpty nl false)) λos'=>K (.arr id (es++ns).length) os'))) False)
  |_=>False
 |_=>False
theorem xApp_ok{os:List AO}{sz bytes:Nat}{s:AV}{ns:List (List D)}{K:AV->List AO->Prop}(h:xApp os sz bytes s ns K):appI os sz bytes s ns K:=by
 cases s with
 |d x=>cases x with
  |nil=>
   obtain⟨⟨h1,h2⟩,h3,h4⟩:=h
   refine⟨h1,h2,h3,?_⟩
   have:=appK_eq.1 (lenK_eq.1 h4)
   rw[Nat.zero_add] at this
   exact this
  |_=>exact h.elim
 |arr id len=>
  obtain⟨ob,h1,h2⟩:=nthK_ok h
  cases ob with
  |arr es sz' frz nl=>
   obtain⟨h3,h4⟩:=h2
   obtain⟨h5,⟨h6,h6'⟩,h7,h8⟩:=cn_false.1 h4
   simp only[appI,h1]
   refine⟨h3,Nat.eq_of_beq_eq_true h5,h6,h6',h7,?_⟩
   have:=setK_eq.1 h8
   rw[List.length_append] at this
   have e:(nl&&ns.isEmpty)=cond ns.isEmpty nl false:=by cases ns.isEmpty<;>cases nl<;>rfl
   rw[e];exact this
  |_=>exact h2.elim
 |_=>exact h.elim
def xAppX(os:List AO)(sz bytes:Nat)(s:AV)(ns:List (List D))(K:AV->List AO->Prop):Prop:=
 match s with
 |.full es=>Chk ((es.length+ns.length)*bytes<=140737488355328/\es.length+ns.length<=9223372036854775807) (Chk (∀e∈ns,e.length=sz) (Chk (∀e∈es,e.length=sz) (Chk (ns≠[]) (lenK os 0 λm=>appK os [.arr (es++ns) sz 0 false] λos'=>K (.arr m (es++ns).length) os'))))
 |.d d=>match d with
  |.lit v=>match v with
   |.slice none 0 0=>xApp os sz bytes (.d .nil) ns K
   |_=>False
  |d=>xApp os sz bytes (.d d) ns K
 |s=>xApp os sz bytes s ns K
theorem xAppX_ok{os:List AO}{sz bytes:Nat}{s:AV}{ns:List (List D)}{K:AV->List AO->Prop}(h:xAppX os sz bytes s ns K):appXI os sz bytes s ns K:=by
 cases s with
 |full es=>
  obtain⟨⟨h1,h2⟩,h3,h4,h5,h6⟩:=h
  have:=appK_eq.1 (lenK_eq.1 h6)
  rw[Nat.zero_add,List.length_append] at this
  exact⟨h3,h4,h1,h2,h5,this⟩
 |d d=>
  cases d with
  |lit v=>
   simp only[xAppX] at h
   split at h
   ·exact xApp_ok h
   ·exact h.elim
  |_=>simp only[xAppX] at h;simp only[appXI];exact xApp_ok h
 |_=>simp only[xAppX] at h;simp only[appXI];exact xApp_ok h
def holeK(os:List AO)(id:Nat)(o':AO)(K:List AO->Prop):Prop:=getO os id λob=>match ob with
 |.hole=>setK os id o' K
 |_=>False
theorem holeK_ok{os:List AO}{id:Nat}{o':AO}{K:List AO->Prop}(h:holeK os id o' K):os[id]?=some .hole/\K (os.set id o'):=by
 obtain⟨ob,h1,h2⟩:=nthK_ok h
 cases ob with
 |hole=>exact⟨h1,setK_eq.1 h2⟩
 |_=>exact h2.elim
def xAppN(os:List AO)(id sz bytes:Nat)(s:AV)(ns:List (List D))(K:AV->List AO->Prop):Prop:=
 match s with
 |.full es=>Chk ((es.length+ns.length)*bytes<=140737488355328/\es.length+ns.length<=9223372036854775807) (Chk (∀e∈ns,e.length=sz) (Chk (∀e∈es,e.length=sz) (Chk (ns≠[]) (holeK os id (.arr (es++ns) sz 0 false) λos'=>K (.arr id (es++ns).length) os'))))
 |.d d=>match d with
  |.nil=>Chk (ns.length*bytes<=140737488355328/\ns.length<=9223372036854775807) (Chk (∀e∈ns,e.length=sz) (Chk (ns≠[]) (holeK os id (.arr ns sz 0 false) λos'=>K (.arr id ns.length) os')))
  |.lit v=>match v with
   |.slice none 0 0=>Chk (ns.length*bytes<=140737488355328/\ns.length<=9223372036854775807) (Chk (∀e∈ns,e.length=sz) (Chk (ns≠[]) (holeK os id (.arr ns sz 0 false) λos'=>K (.arr id ns.length) os')))
   |_=>False
  |_=>False
 |.arr a b=>xApp os sz bytes (.arr a b) ns K
 |_=>False
theorem xAppN_ok{os:List AO}{id sz bytes:Nat}{s:AV}{ns:List (List D)}{K:AV->List AO->Prop}(h:xAppN os id sz bytes s ns K):appNI os id sz bytes s ns K:=by
 cases s with
 |full es=>
  obtain⟨⟨h1,h2⟩,h3,h4,h5,h6⟩:=h
  obtain⟨h7,h8⟩:=holeK_ok h6
  rw[List.length_append] at h8
  exact⟨h7,h3,h4,h1,h2,h5,h8⟩
 |d d=>
  cases d with
  |lit v=>
   simp only[xAppN] at h
   split at h
   ·obtain⟨⟨h1,h2⟩,h3,h5,h6⟩:=h
    obtain⟨h7,h8⟩:=holeK_ok h6
    exact⟨h7,h3,h1,h2,h5,h8⟩
   ·exact h.elim
  |nil=>
   obtain⟨⟨h1,h2⟩,h3,h5,h6⟩:=h
   obtain⟨h7,h8⟩:=holeK_ok h6
   exact⟨h7,h3,h1,h2,h5,h8⟩
  |_=>exact h.elim
 |arr a b=>simp only[xAppN] at h;simp only[appNI];exact xApp_ok h
 |_=>exact h.elim
def xAppD(os:List AO)(sz bytes:Nat)(s:AV)(ns:List (List D))(K:AV->Prop):Prop:=
 match s with
 |.full es=>Chk ((es.length+ns.length)*bytes<=140737488355328/\es.length+ns.length<=9223372036854775807) (Chk (∀e∈ns,e.length=sz) (Chk (∀e∈es,e.length=sz) (K (.d (.sl (es++ns))))))
 |.d d=>match d with
  |.lit v=>match v with
   |.slice none 0 0=>Chk (ns.length*bytes<=140737488355328/\ns.length<=9223372036854775807) (Chk (∀e∈ns,e.length=sz) (K (.d (CnD ns.isEmpty .nil (.sl ns)))))
   |_=>False
  |_=>False
 |_=>False
theorem cnd_if{b:Bool}{x y:D}:CnD b x y=if b then x else y:=by cases b<;>rfl
theorem xAppD_ok{os:List AO}{sz bytes:Nat}{s:AV}{ns:List (List D)}{K:AV->Prop}(h:xAppD os sz bytes s ns K):appDI os sz bytes s ns K:=by
 cases s with
 |full es=>
  obtain⟨⟨h1,h2⟩,h3,h4,h5⟩:=h
  exact⟨h3,h4,h1,h2,h5⟩
 |d d=>
  cases d with
  |lit v=>
   simp only[xAppD] at h
   split at h
   ·obtain⟨⟨h1,h2⟩,h3,h5⟩:=h
    rw[cnd_if] at h5
    exact⟨h3,h1,h2,h5⟩
   ·exact h.elim
  |_=>exact h.elim
 |_=>exact h.elim
def partK(os:List AO)(x:AV)(K:(id lo n:Nat)->List (List D)->(sz frz:Nat)->Bool->Prop):Prop:=
 match x with
 |.arr id len=>getO os id λob=>match ob with
  |.arr es sz frz nl=>Chk (len=es.length) (K id 0 len es sz frz nl)
  |_=>False
 |.sub id tot lo n=>getO os id λob=>match ob with
  |.arr es sz frz nl=>Chk (tot=es.length) (K id lo n es sz frz nl)
  |_=>False
 |_=>False
theorem partK_ok{os:List AO}{x:AV}{K:(id lo n:Nat)->List (List D)->(sz frz:Nat)->Bool->Prop}(h:partK os x K):partI os x K:=by
 cases x with
 |arr id len=>
  obtain⟨ob,h1,h2⟩:=nthK_ok h
  cases ob with
  |arr es sz frz nl=>simp only[partI,h1];exact⟨h2.1,h2.2⟩
  |_=>exact h2.elim
 |sub id tot lo n=>
  obtain⟨ob,h1,h2⟩:=nthK_ok h
  cases ob with
  |arr es sz frz nl=>simp only[partI,h1];exact⟨h2.1,h2.2⟩
  |_=>exact h2.elim
 |_=>exact h.elim
def bndVK(b:Bool)(d:Int)(vs:List AV)(K:Int->List AV->Prop):Prop:=Cn b (match vs with
 |[]=>False
 |v::r=>match v with
  |.d x=>match x with
   |.int _ n=>K n r
   |_=>False
  |_=>False) (K d vs)
theorem bndVK_ok{b:Bool}{d:Int}{vs:List AV}{K:Int->List AV->Prop}(h:bndVK b d vs K):bndV b d vs K:=by
 cases b with
 |false=>exact h
 |true=>
  cases vs with
  |nil=>exact h.elim
  |cons v r=>
   cases v with
   |d x=>
    cases x with
    |int k n=>exact h
    |_=>exact h.elim
   |_=>exact h.elim
theorem bndV_mono{b:Bool}{d:Int}{vs:List AV}{K K':Int->List AV->Prop}(hk:∀n r,K n r->K' n r)(h:bndV b d vs K):bndV b d vs K':=by
 obtain⟨n,r,h1,h2⟩:=bndV_iff h
 exact h2 K' (hk _ _ h1)
theorem partI_mono{os:List AO}{x:AV}{K K':(id lo n:Nat)->List (List D)->(sz frz:Nat)->Bool->Prop}(hk:∀id lo n es sz frz nl,K id lo n es sz frz nl->K' id lo n es sz frz nl)(h:partI os x K):partI os x K':=by
 obtain⟨id,lo,n,es,sz,frz,nl,h1,h2⟩:=partI_iff h
 exact h2 K' (hk _ _ _ _ _ _ _ h1)
def xSlu(os:List AO)(l h:Bool)(x:AV)(vs:List AV)(K:AV->Prop):Prop:=
 match x with
 |.d d=>match d with
  |.nil=>bndVK l 0 vs λlo vs=>bndVK h 0 vs λhi _=>Chk (lo=0/\hi=0) (K (.d .nil))
  |.sl es=>bndVK l 0 vs λlo vs=>bndVK h es.length vs λhi _=>Chk (0<=lo/\lo<=hi/\hi<=es.length) (Chk (∀e∈es,e.length=1) (K (.d (.sl ((es.drop lo.toNat).take (hi.toNat-lo.toNat))))))
  |_=>False
 |.arr id len=>partK os (.arr id len) λ_ _ n es sz frz nl=>bndVK l 0 vs λlo vs=>bndVK h n vs λhi _=>Chk (0<=lo/\lo<=hi/\hi<=n) (Cn (Nat.beq sz 1) (K (.sub id len lo.toNat (hi.toNat-lo.toNat))) False)
 |.sub id tot l1 n1=>partK os (.sub id tot l1 n1) λ_ _ n es sz frz nl=>bndVK l 0 vs λlo vs=>bndVK h n vs λhi _=>Chk (0<=lo/\lo<=hi/\hi<=n) (Cn (Nat.beq sz 1) (K (.sub id tot (l1+lo.toNat) (hi.toNat-lo.toNat))) False)
 |_=>False
theorem xSlu_ok{os:List AO}{l h:Bool}{x:AV}{vs:List AV}{K:AV->Prop}(hh:xSlu os l h x vs K):sluI os l h x vs K:=by
 cases x with
 |d d=>
  cases d with
  |nil=>
   refine bndV_mono (λlo vs hh=>?_) (bndVK_ok hh)
   refine bndV_mono (λhi _ hh=>?_) (bndVK_ok hh)
   exact⟨hh.1.1,hh.1.2,hh.2⟩
  |sl es=>
   refine bndV_mono (λlo vs hh=>?_) (bndVK_ok hh)
   refine bndV_mono (λhi _ hh=>?_) (bndVK_ok hh)
   exact⟨hh.1.1,hh.1.2.1,hh.1.2.2,hh.2.1,hh.2.2⟩
  |_=>exact hh.elim
 |arr id len=>
  simp only[xSlu] at hh
  simp only[sluI]
  refine partI_mono (λ_ _ n es sz frz nl hh=>?_) (partK_ok hh)
  refine bndV_mono (λlo vs hh=>?_) (bndVK_ok hh)
  refine bndV_mono (λhi _ hh=>?_) (bndVK_ok hh)
  obtain⟨h3,h4⟩:=cn_false.1 hh.2
  exact⟨hh.1.1,hh.1.2.1,hh.1.2.2,Nat.eq_of_beq_eq_true h3,h4⟩
 |sub id tot l1 n1=>
  simp only[xSlu] at hh
  simp only[sluI]
  refine partI_mono (λ_ _ n es sz frz nl hh=>?_) (partK_ok hh)
  refine bndV_mono (λlo vs hh=>?_) (bndVK_ok hh)
  refine bndV_mono (λhi _ hh=>?_) (bndVK_ok hh)
  obtain⟨h3,h4⟩:=cn_false.1 hh.2
  exact⟨hh.1.1,hh.1.2.1,hh.1.2.2,Nat.eq_of_beq_eq_true h3,h4⟩
 |_=>exact hh.elim
structure ByK(ns:List (List D))(K:List UInt8->Prop):Prop where
 h:∃s,unbyte ns=some s/\K s
structure MDel(sk:SK)(key:D)(kvs:List (D×AV))(K:List (D×AV)->Prop):Prop where
 h:mok sk key kvs/\K (mdelL sk key kvs)
def xEx(os:List AO)(K:AV->List AO->Prop):XO->List AV->Prop
 |.eqp neg,[.ptr _ _]=>K (.d (.bool neg)) os
 |.s2b,[.d (.str s)]=>K (.d (.sl (byteL s))) os
 |.b2s,[x]=>xNews os x λns=>ByK ns λs=>K (.d (.str s)) os
 |.cpy sz,[dst,src]=>xNews os src λns=>partK os dst λid lo n es sz' frz nl=>Cn (Nat.beq sz' sz) (Chk (∀e∈ns,e.length=sz) (Chk (ns.length=0\/frz<=lo)
   (setK os id (.arr (es.take lo++ns.take n++es.drop (lo+min ns.length n)) sz frz nl) λos'=>K (.d (.int .i64 (min ns.length n:Nat))) os'))) False
 |.sl3,[.d .nil,.d (.int _ h),.d (.int _ m)]=>Chk (h=0/\m=0) (K (.d (.lit (.slice none 0 0))) os)
 |.sl3,[.d (.sl es),.d (.int _ h),.d (.int _ m)]=>Chk (h=es.length/\m=es.length) (K (.full es) os)
 |.apps sz bytes,[s,.d (.str t)]=>xApp os sz bytes s (byteL t) K
 |.appd sz bytes,[s,x]=>xNews os x λns=>xAppD os sz bytes s ns λr=>K r os
 |.mdel sk,[.mp id,.d key]=>getO os id λob=>match ob with
  |.map kvs=>MDel sk key kvs λkvs'=>setK os id (.map kvs') λos'=>K .junk os'
  |_=>False
 |.slu l h,x::vs=>xSlu os l h x vs λr=>K r os
 |_,_=>False
theorem newsI_mono0{os:List AO}{x:AV}{K K':List (List D)->Prop}(hk:∀n,K n->K' n)(h:newsI os x K):newsI os x K':=by
 obtain⟨r,h1,h2⟩:=newsI_iff h
 exact h2 K' (hk _ h1)
theorem xEx_ok{os:List AO}{K:AV->List AO->Prop}{e:XO}{vs:List AV}(h:xEx os K e vs):exI os K e vs:=by
 unfold xEx at h
 split at h
 ·exact h
 ·exact h
 ·unfold exI
  refine newsI_mono0 (λns hn=>?_) (xNews_ok h)
  obtain⟨⟨s,h1,h2⟩⟩:=hn
  simp only[h1]
  exact h2
 ·unfold exI
  refine newsI_mono0 (λns hn=>?_) (xNews_ok h)
  refine partI_mono (λid lo n es sz' frz nl hn=>?_) (partK_ok hn)
  obtain⟨h1,h2,h3,h4⟩:=cn_false.1 hn
  have h1:=Nat.eq_of_beq_eq_true h1
  exact⟨h1,h2,h3,setK_eq.1 h4⟩
 ·exact⟨h.1.1,h.1.2,h.2⟩
 ·exact⟨h.1.1,h.1.2,h.2⟩
 ·exact xApp_ok h
 ·unfold exI
  exact newsI_mono0 (λns hn=>xAppD_ok hn) (xNews_ok h)
 ·obtain⟨ob,h1,h2⟩:=nthK_ok h
  cases ob with
  |map kvs=>
   obtain⟨⟨h3,h4⟩⟩:=h2
   simp only[exI,h1]
   exact⟨h3,setK_eq.1 h4⟩
  |_=>exact h2.elim
 ·exact xSlu_ok h
 ·exact h.elim
def xAppr(os:List AO)(sz bytes:Nat)(s:AV)(ns:List (List AV))(K:AV->List AO->Prop):Prop:=
 match s with
 |.rs id len=>getO os id λob=>match ob with
  |.rarr es sz' nl=>Chk (len=es.length) (Cn (Nat.beq sz' sz) (Chk ((es.length+ns.length)*bytes<=140737488355328/\es.length+ns.length<=9223372036854775807)
    (Chk (∀e∈ns,e.length=sz) (setK os id (.rarr (es++ns) sz (cond ns.isEmpty nl false)) λos'=>K (.rs id (es++ns).length) os'))) False)
  |_=>False
 |_=>False
theorem xAppr_ok{os:List AO}{sz bytes:Nat}{s:AV}{ns:List (List AV)}{K:AV->List AO->Prop}(h:xAppr os sz bytes s ns K):apprI os sz bytes s ns K:=by
 cases s with
 |rs id len=>
  obtain⟨ob,h1,h2⟩:=nthK_ok h
  cases ob with
  |rarr es sz' nl=>
   obtain⟨h3,h4⟩:=h2
   obtain⟨h5,⟨h6,h6'⟩,h7,h8⟩:=cn_false.1 h4
   simp only[apprI,h1]
   refine⟨h3,Nat.eq_of_beq_eq_true h5,h6,h6',h7,?_⟩
   have:=setK_eq.1 h8
   rw[List.length_append] at this
   have e:(nl&&ns.isEmpty)=cond ns.isEmpty nl false:=by cases ns.isEmpty<;>cases nl<;>rfl
   rw[e];exact this
  |_=>exact h2.elim
 |_=>exact h.elim
structure OwnC(P:Program)(g:FuncId)(as:List AV)(K:List (List D)->Nat->Bool->Prop):Prop where
 h:∃es sz nl,CallSpec P g as [] (λr os2=>r=.arr 0 es.length/\os2=[.arr es sz 0 nl])/\K es sz nl
structure InPl(P:Program)(g:FuncId)(id len:Nat)(as:List AV)(es:List (List D))(sz frz:Nat)(nl:Bool)(K:List (List D)->Bool->Prop):Prop where
 h:∃es' nl',(∀os2:List AO,os2[id]?=some (.arr es sz frz nl)->CallSpec P g (.arr id len::as) os2 λr os3=>r=.arr id es'.length/\os3=os2.set id (.arr es' sz frz nl'))/\K es' nl'
def minmaxK(mx:Bool)(k:IntKind)(a:Int):List AV->(AV->Prop)->Prop
 |[],K=>K (.d (.int k a))
 |.d (.int k' b)::xs,K=>Cn mx (minmaxK mx k (max a b) xs K) (minmaxK mx k (min a b) xs K)
 |_,_=>False
theorem minmaxK_ok{mx:Bool}{k:IntKind}{K:AV->Prop}:∀{xs:List AV} {a:Int},minmaxK mx k a xs K->minmaxI mx k a xs K
 |[],a,h=>h
 |x::xs,a,h=>by
  cases x with
  |d x=>cases x with
   |int k' b=>
    simp only[minmaxI]
    cases mx with
    |true=>
     have h':=minmaxK_ok (xs:=xs) (a:=max a b) h
     simp only[if_true]
     exact⟨λhle=>by rw[Int.max_eq_left hle] at h';exact h',λhlt=>by rw[Int.max_eq_right (by omega)] at h';exact h'⟩
    |false=>
     have h':=minmaxK_ok (xs:=xs) (a:=min a b) h
     simp only[Bool.false_eq_true,if_false]
     exact⟨λhle=>by rw[Int.min_eq_left hle] at h';exact h',λhlt=>by rw[Int.min_eq_right (by omega)] at h';exact h'⟩
   |_=>exact h.elim
  |_=>exact h.elim
def xVs(L:Sl):List Opd->(List AV->Prop)->Prop
 |[],K=>K []
 |x::xs,K=>xV L x λv=>xVs L xs λvs=>K (v::vs)
theorem xVs_ok{L:Sl}:∀{xs:List Opd} {K:List AV->Prop},xVs L xs K->K (xs.map (evO (ofL L)))
 |[],_,h=>h
 |x::xs,K,h=>xVs_ok (xs:=xs) (K:=λvs=>K (evO (ofL L) x::vs)) (xV_ok h)
def capsK(L:Sl):List Opd->(List Nat->Prop)->Prop
 |[],K=>K []
 |x::xs,K=>xV L x λv=>match v with
  |.ptr id 0=>capsK L xs λl=>K (id::l)
  |_=>False
theorem capsK_ok{L:Sl}:∀{xs:List Opd} {K:List Nat->Prop},capsK L xs K->∃ids,xs.mapM (λc=>capId (evO (ofL L) c))=some ids/\K ids
 |[],K,h=>⟨[],rfl,h⟩
 |x::xs,K,h=>by
  have:=xV_ok h
  split at this
  ·rename_i id e
   obtain⟨ids,h1,h2⟩:=capsK_ok this
   exact⟨id::ids,by rw[List.mapM_cons,h1,e];rfl,h2⟩
  ·exact this.elim
end Go.Bi
