/- From the row's reading of the arguments to data, and from a contract to a law's row. No condition. -/
import Derived.Test.YthaildbjjlpdgaaGreatBZ
import Derived.OpenShut
import Derived.JoinedCond
import Derived.ChangeCalls
set_option linter.unusedVariables false
namespace Go.Bi
set_option linter.unusedSectionVars false
variable [Globs]
mutual
/-- How many values and letters a datum holds. -/
def bulkD:D->Nat
 |.sl es=>bulkLL es+1
 |.str s=>s.length+1
 |_=>1
def bulkLL:List (List D)->Nat
 |[]=>0
 |e::es=>bulkL e+bulkLL es
def bulkL:List D->Nat
 |[]=>0
 |d::l=>bulkD d+bulkL l
end
theorem bulkL_app(a b:List D):bulkL (a++b)=bulkL a+bulkL b:=by
 induction a with
 |nil=>simp[bulkL]
 |cons x a ih=>simp only[List.cons_append,bulkL,ih];omega
inductive WT(P:Program):TypeId->List D->Prop where
 |int {t:TypeId} {k:IntKind} {n:Int} (h:P.underlying t=some (.int k)) (h1:k.min<=n) (h2:n<=k.max):WT P t [.int k n]
 |bool {t:TypeId} {b:Bool} (h:P.underlying t=some .bool):WT P t [.bool b]
 |str {t:TypeId} {s:List UInt8} (h:P.underlying t=some .string) (hl:s.length<=maxLen):WT P t [.str s]
 |nil {t e:TypeId} (h:P.underlying t=some (.slice e)):WT P t [.nil]
 |sl {t e:TypeId} {es:List (List D)} (h:P.underlying t=some (.slice e)) (hl:es.length<=maxLen) (hs:∀x∈es,x.length=P.cellsOf e) (he:∀x∈es,WT P e x):WT P t [.sl es]
 |st {t:TypeId} {fs:Array Field} {ds:List D} (h:P.underlying t=some (.struct fs)) (hl:ds.length=P.cellsOf t) (hf:∀f∈fs.toList,WT P f.type ((ds.drop f.offset).take (P.cellsOf f.type))):WT P t ds
theorem WT.int'{P:Program}{t:TypeId}{k:IntKind}{ds:List D}(h:WT P t ds)(ht:P.underlying t=some (.int k)):∃n,ds=[.int k n]/\k.min<=n/\n<=k.max:=by
 cases h with
 |int h h1 h2=>rw[ht] at h;cases h;exact⟨_,rfl,h1,h2⟩
 |bool h=>rw[ht] at h;cases h
 |str h _=>rw[ht] at h;cases h
 |nil h=>rw[ht] at h;cases h
 |sl h _ _ _=>rw[ht] at h;cases h
 |st h _ _=>rw[ht] at h;cases h
theorem WT.bool'{P:Program}{t:TypeId}{ds:List D}(h:WT P t ds)(ht:P.underlying t=some .bool):∃b,ds=[.bool b]:=by
 cases h with
 |int h h1 h2=>rw[ht] at h;cases h
 |bool h=>exact⟨_,rfl⟩
 |str h _=>rw[ht] at h;cases h
 |nil h=>rw[ht] at h;cases h
 |sl h _ _ _=>rw[ht] at h;cases h
 |st h _ _=>rw[ht] at h;cases h
theorem WT.str'{P:Program}{t:TypeId}{ds:List D}(h:WT P t ds)(ht:P.underlying t=some .string):∃s,ds=[.str s]/\s.length<=maxLen:=by
 cases h with
 |int h h1 h2=>rw[ht] at h;cases h
 |bool h=>rw[ht] at h;cases h
 |str h hl=>exact⟨_,rfl,hl⟩
 |nil h=>rw[ht] at h;cases h
 |sl h _ _ _=>rw[ht] at h;cases h
 |st h _ _=>rw[ht] at h;cases h
theorem WT.sl'{P:Program}{t e:TypeId}{ds:List D}(h:WT P t ds)(ht:P.underlying t=some (.slice e)):∃d es,ds=[d]/\SlD d es/\es.length<=maxLen/\(∀x∈es,WT P e x):=by
 cases h with
 |int h h1 h2=>rw[ht] at h;cases h
 |bool h=>rw[ht] at h;cases h
 |str h hl=>rw[ht] at h;cases h
 |nil h=>exact⟨_,[],rfl,.inl ⟨rfl,rfl⟩,Nat.zero_le _,by simp⟩
 |sl h hl hs he=>rw[ht] at h;cases h;exact⟨_,_,rfl,.inr rfl,hl,he⟩
 |st h _ _=>rw[ht] at h;cases h
theorem WT.st'{P:Program}{t:TypeId}{fs:Array Field}{ds:List D}(h:WT P t ds)(ht:P.underlying t=some (.struct fs)):ds.length=P.cellsOf t/\∀f∈fs.toList,WT P f.type ((ds.drop f.offset).take (P.cellsOf f.type)):=by
 cases h with
 |int h h1 h2=>rw[ht] at h;cases h
 |bool h=>rw[ht] at h;cases h
 |str h hl=>rw[ht] at h;cases h
 |nil h=>rw[ht] at h;cases h
 |sl h hl hs he=>rw[ht] at h;cases h
 |st h hl hf=>rw[ht] at h;cases h;exact⟨hl,hf⟩
def layT(P:Program)(S:List TypeId):List Field->Nat->Option Nat
 |[],off=>some off
 |f::fs,off=>if Nat.beq f.offset off&&S.contains f.type then layT P S fs (off+P.cellsOf f.type) else none
def tyOK(P:Program)(S:List TypeId)(t:TypeId):Bool:=match P.underlying t with
 |some .bool=>Nat.beq (P.cellsOf t) 1
 |some (.int _)=>Nat.beq (P.cellsOf t) 1
 |some .string=>Nat.beq (P.cellsOf t) 1
 |some (.slice e)=>Nat.beq (P.cellsOf t) 1&&S.contains e&&Nat.blt 0 (P.cellsOf e)
 |some (.struct fs)=>match layT P S fs.toList 0 with
  |some n=>Nat.beq n (P.cellsOf t)
  |none=>false
 |_=>false
structure Bulk{H:Type}(ub:DataW H->Nat)(ubs:List (DataW H)->Nat):Prop where
 lit:∀l,1<=ub (.lit l)
 str:∀b,b.length+1<=ub (.lit (.string b))
 nil:1<=ub .nil
 sl:∀es sp,ubs es+1<=ub (.slice es sp)
 agg:∀ps,ubs ps<=ub (.agg ps)
 cons:∀x l,ub x+ubs l<=ubs (x::l)
section
variable {H:Type}{enc:TypeId×Value->H}{P:Program}{W:World}{S:List TypeId}{ub:DataW H->Nat}{ubs:List (DataW H)->Nat}
theorem cells?_get{a:Addr}{n:Nat}{cs:List Value}(h:W.cells? 0 a n=some cs):cs.length=n/\∀j u,cs[j]?=some u->W.cell? (a.add j)=some u:=by
 unfold World.cells? at h
 rw[if_pos (Nat.zero_le _)] at h
 have h1:=mapM_get h
 refine⟨by have:=h1.1;simpa using this,λj u hj=>?_⟩
 have hlt:=(List.getElem?_eq_some_iff.1 hj).1
 rw[h1.1] at hlt
 have hlt':j<n:=by simpa using hlt
 obtain⟨y,hy,hu⟩:=h1.2 j j (by simp[hlt'])
 rw[hj] at hy
 cases hy
 exact hu
theorem cell_spot{a:Addr}{u:Value}(h:W.cell? a=some u):a.spot=none:=by
 cases hs:a.spot with
 |none=>rfl
 |some s=>
  unfold World.cell? at h
  split at h
  ·simp[hs] at h
  ·cases h
theorem addr_eq{b:Addr}(h:b.spot=none):b=⟨b.block,b.off,none⟩:=by cases b;simp_all
theorem add_off(a:Addr)(n:Nat):(a.add n).block=a.block/\(a.add n).off=a.off+n:=by
 unfold Addr.add
 split
 ·rename_i h;subst h;simp
 ·simp
theorem exists_list{α:Type}{Q:Nat->α->Prop}:∀(n:Nat),(∀i,i<n->∃y,Q i y)->∃l:List α,l.length=n/\∀i y,l[i]?=some y->Q i y
 |0,_=>⟨[],rfl,λi y h=>by simp at h⟩
 |n+1,h=>by
  obtain⟨l,h1,h2⟩:=exists_list n (λi hi=>h i (by omega))
  obtain⟨y,hy⟩:=h n (by omega)
  refine⟨l++[y],by simp[h1],λi z hz=>?_⟩
  by_cases hi:i<l.length
  ·rw[List.getElem?_append_left hi] at hz;exact h2 i z hz
  ·rw[List.getElem?_append_right (by omega)] at hz
   have hlt:=(List.getElem?_eq_some_iff.1 hz).1
   simp at hlt
   have:i=n:=by omega
   subst this
   rw[h1] at hz
   simp at hz
   subst hz
   exact hy
theorem bulkLL_le(hb:Bulk ub ubs):∀(es:List (List D)) (xs:List (DataW H)),es.length=xs.length->(∀(i:Nat) e x,es[i]?=some e->xs[i]?=some x->bulkL e<=ub x)->bulkLL es<=ubs xs
 |[],_,_,_=>Nat.zero_le _
 |e::es,[],h,_=>by simp at h
 |e::es,x::xs,h,hi=>by
  have h1:=hi 0 e x rfl rfl
  have h2:=bulkLL_le hb es xs (by simpa using h) (λi e x he hx=>hi (i+1) e x (by simpa using he) (by simpa using hx))
  have h3:=hb.cons x xs
  simp only[bulkLL]
  omega
def Rdg(W:World)(ds:List D)(cs:List Value):Prop:=∀(j:Nat) d u,ds[j]?=some d->cs[j]?=some u->Rd (λa=>W.cell? a) d u
theorem fields_rd(hb:Bulk ub ubs){n:Nat}{cs:List Value}{tot:Nat}
  (ih:∀t∈S,∀(cs:List Value) (x:DataW H×List MemPlace),DataW.trod enc P W 0 (λ_=>true) true n t cs=some x->∃ds:List D,ds.length=cs.length/\cs.length=P.cellsOf t/\Rdg W ds cs/\WT P t ds/\bulkL ds<=ub x.1) :
  ∀(fs:List Field) (xs:List (DataW H×List MemPlace)) (off:Nat),layT P S fs off=some tot->tot<=cs.length->fs.length=xs.length->
   (∀(i:Nat) f,fs[i]?=some f->DataW.trod enc P W 0 (λ_=>true) true n f.type ((cs.drop f.offset).take (P.cellsOf f.type))=xs[i]?)->
   off<=tot/\∃ds:List D,off+ds.length=tot/\Rdg W ds (cs.drop off)/\(∀f∈fs,off<=f.offset/\WT P f.type ((ds.drop (f.offset-off)).take (P.cellsOf f.type)))/\bulkL ds<=ubs (xs.map (·.1)):=by
 intro fs
 induction fs with
 |nil=>
  intro xs off hl ht hx hf
  simp only[layT,Option.some.injEq] at hl
  exact⟨by omega,[],by simpa using hl,λj d u hd=>by simp at hd,by simp,Nat.zero_le _⟩
 |cons f fs ihf=>
  intro xs off hl ht hx hf
  simp only[layT] at hl
  split at hl
  ·rename_i hc
   simp only[Bool.and_eq_true] at hc
   obtain⟨hc1,hc2⟩:=hc
   have hoff:=Nat.eq_of_beq_eq_true hc1
   have hS:f.type∈S:=by simpa using hc2
   cases xs with
   |nil=>simp at hx
   |cons x xs=>
    obtain⟨g0,ds2,g1,g2,g3,g4⟩:=ihf xs (off+P.cellsOf f.type) hl ht (by simpa using hx) (λi f' hi=>by have:=hf (i+1) f' (by simpa using hi);simpa using this)
    have h0:=hf 0 f rfl
    simp only[List.getElem?_cons_zero] at h0
    obtain⟨ds1,e1,e2,e3,e4,e5⟩:=ih _ hS _ _ h0
    rw[hoff] at e1 e2 e3
    rw[e2] at e1
    refine⟨by omega,ds1++ds2,by simp[e1];omega,?_,?_,?_⟩
    ·intro j d u hd hu
     by_cases hj:j<ds1.length
     ·rw[List.getElem?_append_left hj] at hd
      exact e3 j d u hd (by rw[List.getElem?_take,if_pos (by omega)];exact hu)
     ·rw[List.getElem?_append_right (by omega)] at hd
      refine g2 (j-ds1.length) d u hd ?_
      rw[List.getElem?_drop] at hu ⊢
      rw[<- hu];congr 1;omega
    ·intro f' hf'
     rcases List.mem_cons.1 hf' with rfl|hf'
     ·refine⟨by omega,?_⟩
      rw[hoff,Nat.sub_self,List.drop_zero,List.take_left' e1]
      exact e4
     ·obtain⟨k1,k2⟩:=g3 f' hf'
      refine⟨by omega,?_⟩
      rw[List.drop_append,List.drop_eq_nil_of_le (by omega),List.nil_append,e1]
      rw[show f'.offset-off-P.cellsOf f.type=f'.offset-(off+P.cellsOf f.type) by omega]
      exact k2
    ·rw[bulkL_app]
     have:=hb.cons x.1 (xs.map (·.1))
     simp only[List.map_cons]
     omega
  ·cases hl
theorem rd_trod(hb:Bulk ub ubs)(hS:S.all (tyOK P S)=true):∀(n:Nat),∀t∈S,∀(cs:List Value) (x:DataW H×List MemPlace),DataW.trod enc P W 0 (λ_=>true) true n t cs=some x->
  ∃ds:List D,ds.length=cs.length/\cs.length=P.cellsOf t/\Rdg W ds cs/\WT P t ds/\bulkL ds<=ub x.1:=by
 intro n
 induction n with
 |zero=>intro t _ cs x h;simp[DataW.trod] at h
 |succ n ih=>
  intro t ht cs x h
  have hok:=List.all_eq_true.1 hS t ht
  have one:∀(d:D) (u:Value),Rd (λa=>W.cell? a) d u->Rdg W [d] [u]:=by
   intro d u hr j d' u' hd hu
   match j with
   |0=>simp at hd hu;subst hd;subst hu;exact hr
   |j+1=>simp at hd
  unfold tyOK at hok
  split at hok
  ·rename_i hu
   obtain⟨b,rfl,rfl⟩:=DataW.trod_bool hu h
   exact⟨[.bool b],rfl,(Nat.eq_of_beq_eq_true hok).symm,one _ _ (.bool b),.bool hu,by simp only[bulkL,bulkD];exact hb.lit _⟩
  ·rename_i k hu
   obtain⟨m,rfl,rfl,hw⟩:=DataW.trod_int hu h
   simp only[Lit.wf,Bool.and_eq_true,decide_eq_true_eq] at hw
   exact⟨[.int k m],rfl,(Nat.eq_of_beq_eq_true hok).symm,one _ _ (.int k m),.int hu hw.1 hw.2,by simp only[bulkL,bulkD];exact hb.lit _⟩
  ·rename_i hu
   obtain⟨s,rfl,rfl,hl⟩:=DataW.trod_string hu h
   refine⟨[.str s.data.toList],rfl,(Nat.eq_of_beq_eq_true hok).symm,one _ _ ?_,.str hu (by show s.data.toList.length<=maxLen;rw[Array.length_toList];exact hl),by simp only[bulkL,bulkD];exact hb.str _⟩
   exact Rd.str s.data.toList
  ·rename_i e hu
   simp only[Bool.and_eq_true] at hok
   obtain⟨⟨hc1,hc2⟩,hc3⟩:=hok
   have hpos:0<P.cellsOf e:=Nat.le_of_ble_eq_true hc3
   have heS:e∈S:=by simpa using hc2
   rcases DataW.trod_slice hu h with ⟨rfl,rfl⟩|⟨a,len,cap,elems,rest,n',hn,rfl,rfl,_,hlc,hcm,hlen,hel,_,_⟩
   ·exact⟨[.nil],rfl,(Nat.eq_of_beq_eq_true hc1).symm,one _ _ .nil,.nil hu,by simp only[bulkL,bulkD];exact hb.nil⟩
   ·obtain rfl:n=n':=by omega
    have hex:∀i,i<len->∃y:List D,∃cs' xe,elems[i]?=some xe/\W.cells? 0 (a.add (i*P.cellsOf e)) (P.cellsOf e)=some cs'/\y.length=cs'.length/\cs'.length=P.cellsOf e/\Rdg W y cs'/\WT P e y/\bulkL y<=ub xe.1:=by
     intro i hi
     have h1:=hel i hi
     have h2:elems[i]?=some elems[i]:=List.getElem?_eq_getElem (by omega)
     rw[h2,Option.bind_eq_some_iff] at h1
     obtain⟨cs',h3,h4⟩:=h1
     obtain⟨y,k1,k2,k3,k4,k5⟩:=ih e heS cs' _ h4
     exact⟨y,cs',_,h2,h3,k1,k2,k3,k4,k5⟩
    obtain⟨es,hes,hq⟩:=exists_list len hex
    have hb2:bulkLL es<=ubs (elems.map (·.1)):=by
     refine bulkLL_le hb es _ (by simp[hes,hlen]) (λi e' x he hx=>?_)
     obtain⟨cs',xe,h1,_,_,_,_,_,h5⟩:=hq i e' he
     rw[List.getElem?_map,h1] at hx
     simp at hx
     subst hx
     exact h5
    have hb3:=hb.sl (elems.map (·.1)) (rest.map (·.1))
    refine⟨[.sl es],rfl,(Nat.eq_of_beq_eq_true hc1).symm,one _ _ ?_,.sl hu (by omega) (λx hx=>?_) (λx hx=>?_),by simp only[bulkL,bulkD];omega⟩
    ·cases len with
     |zero=>
      have:es=[]:=List.length_eq_zero_iff.1 hes
      subst this
      exact .sle a cap
     |succ len=>
      have hcell:∀i j,i<es.length->j<P.cellsOf e->∃u,W.cell? ⟨a.block,a.off+(i*P.cellsOf e+j),none⟩=some u/\∀d y,es[i]?=some y->y[j]?=some d->Rd (λa=>W.cell? a) d u:=by
       intro i j hi hj
       obtain⟨cs',xe,h1,h2,h3,h4,h5,h6,h7⟩:=hq i es[i] (List.getElem?_eq_getElem hi)
       obtain⟨c1,c2⟩:=cells?_get h2
       have h8:cs'[j]?=some cs'[j]:=List.getElem?_eq_getElem (by omega)
       have h9:=c2 j _ h8
       have hsp:=cell_spot h9
       have e1:=addr_eq hsp
       rw[(add_off _ _).1,(add_off _ _).1,(add_off _ _).2,(add_off _ _).2] at e1
       rw[e1] at h9
       rw[Nat.add_assoc] at h9
       refine⟨_,h9,λd y hy hd=>?_⟩
       rw[List.getElem?_eq_getElem hi] at hy
       cases hy
       exact h5 j d _ hd h8
      have hspot:a.spot=none:=by
       obtain⟨cs',xe,h1,h2,h3,h4,_⟩:=hq 0 es[0] (List.getElem?_eq_getElem (by omega))
       obtain⟨c1,c2⟩:=cells?_get h2
       have h8:cs'[0]?=some cs'[0]:=List.getElem?_eq_getElem (by omega)
       have h9:=cell_spot (c2 0 _ h8)
       simpa[Addr.add] using h9
      rw[addr_eq hspot]
      have:=Rd.sl (M:=λa=>W.cell? a) es a.block a.off cap (P.cellsOf e) (λi j=>(W.cell? ⟨a.block,a.off+(i*P.cellsOf e+j),none⟩).getD undef) (by omega) (λy hy=>?_) (λi j hi hj=>?_) (λi j y d hy hd=>?_)
      ·rw[hes] at this;exact this
      ·obtain⟨i,hi⟩:=List.getElem?_of_mem hy
       obtain⟨cs',xe,h1,h2,h3,h4,_⟩:=hq i y hi
       omega
      ·obtain⟨u,h1,_⟩:=hcell i j hi hj
       simp only[h1,Option.getD_some]
      ·have hi:=(List.getElem?_eq_some_iff.1 hy).1
       obtain⟨cs',xe,h1,h2,h3,h4,_⟩:=hq i y hy
       have hj:=(List.getElem?_eq_some_iff.1 hd).1
       obtain⟨u,h5,h6⟩:=hcell i j hi (by omega)
       simp only[h5,Option.getD_some]
       exact h6 d y hy hd
    ·obtain⟨i,hi⟩:=List.getElem?_of_mem hx
     obtain⟨cs',xe,h1,h2,h3,h4,_⟩:=hq i x hi
     omega
    ·obtain⟨i,hi⟩:=List.getElem?_of_mem hx
     obtain⟨cs',xe,h1,h2,h3,h4,h5,h6,h7⟩:=hq i x hi
     exact h6
  ·rename_i fs hu
   split at hok
   ·rename_i tot hl
    have htot:=Nat.eq_of_beq_eq_true hok
    obtain⟨xs,n',hn,rfl,hlen,hfl,hf⟩:=DataW.trod_struct hu h
    obtain rfl:n=n':=by omega
    obtain⟨_,ds,g1,g2,g3,g4⟩:=fields_rd hb ih fs.toList xs 0 hl (by omega) (by simp[hfl]) (λi f hi=>hf i f (by simpa using hi))
    have hb3:=hb.agg (xs.map (·.1))
    refine⟨ds,by omega,hlen,by simpa using g2,.st hu (by omega) (λf hf=>by simpa using(g3 f hf).2),by show bulkL ds<=ub (.agg (xs.map (·.1)));omega⟩
   ·cases hok
  ·cases hok
def avOf(P:Program)(t:TypeId)(ds:List D):AV:=match P.underlying t with
 |some (.struct _)=>.agg (ds.map .d)
 |_=>match ds with
  |[d]=>.d d
  |_=>.junk
def avs(P:Program):List TypeId->List (List D)->List AV
 |t::ts,ds::dss=>avOf P t ds::avs P ts dss
 |_,_=>[]
def WTs(P:Program):List TypeId->List (List D)->Prop
 |[],[]=>True
 |t::ts,ds::dss=>ds.length=P.cellsOf t/\WT P t ds/\WTs P ts dss
 |_,_=>False
theorem arg_vg(hS:S.all (tyOK P S)=true){t:TypeId}(ht:t∈S){base:Nat}{v:Value}(hok:Value.okWide P W .any base t v){ds:List D}(hl:ds.length=v.cells.toList.length)(hr:Rdg W ds v.cells.toList)(G:Gh) :
  VG (λa=>W.cell? a) G [] (avOf P t ds) v:=by
 have hty:=List.all_eq_true.1 hS t ht
 have one:(∀cs,v≠.agg cs)->(∀fs,P.underlying t≠some (.struct fs))->VG (λa=>W.cell? a) G [] (avOf P t ds) v:=by
  intro hv hu
  have hc:v.cells.toList=[v]:=by
   cases v with
   |agg cs=>exact absurd rfl (hv cs)
   |_=>rfl
  rw[hc] at hl hr
  match ds,hl with
  |[d],_=>
   have:avOf P t [d]=.d d:=by
    unfold avOf
    split
    ·rename_i fs h;exact absurd h (hu fs)
    ·rfl
   rw[this]
   exact hr 0 d v rfl rfl
 unfold tyOK at hty
 unfold Value.okWide at hok
 split at hty
 ·rename_i hu
  rw[hu] at hok
  simp only[Cell.okWide,hu] at hok
  refine one (λcs e=>?_) (λfs h=>by rw[hu] at h;cases h)
  subst e;simp[Cell.ok,hu] at hok
 ·rename_i k hu
  rw[hu] at hok
  simp only[Cell.okWide,hu] at hok
  refine one (λcs e=>?_) (λfs h=>by rw[hu] at h;cases h)
  subst e;simp[Cell.ok,hu] at hok
 ·rename_i hu
  rw[hu] at hok
  simp only[Cell.okWide,hu] at hok
  refine one (λcs e=>?_) (λfs h=>by rw[hu] at h;cases h)
  subst e;simp[Cell.ok,hu] at hok
 ·rename_i e hu
  rw[hu] at hok
  simp only[Cell.okWide,hu] at hok
  refine one (λcs e=>?_) (λfs h=>by rw[hu] at h;cases h)
  subst e;simp[Cell.ok,hu] at hok
 ·rename_i fs hu
  rw[hu] at hok
  obtain⟨cs,rfl,_,_⟩:=hok
  have:avOf P t ds=.agg (ds.map .d):=by unfold avOf;rw[hu]
  rw[this]
  refine⟨cs,rfl,by simpa[Value.cells] using hl.symm,λj c u hc hu=>?_⟩
  rw[List.getElem?_map,Option.map_eq_some_iff] at hc
  obtain⟨d,hd,rfl⟩:=hc
  exact hr j d u hd (by simpa[Value.cells] using hu)
 ·cases hty
theorem args_vg(hb:Bulk ub ubs)(hS:S.all (tyOK P S)=true)(G:Gh){base:Nat}:∀(ts:List TypeId) (vs:List Value) (ds:List (DataW H)) (ps:List MemPlace),(∀t∈ts,t∈S)->DataW.TrodAll enc P W 0 (λ_=>true) true ts vs ds ps->
  (∀(j:Nat) t v,ts[j]?=some t->vs[j]?=some v->Value.okWide P W .any base t v)->
  ∃dss,WTs P ts dss/\bulkLL dss<=ubs ds/\vs.length=(avs P ts dss).length/\∀(j:Nat) a v,(avs P ts dss)[j]?=some a->vs[j]?=some v->VG (λa=>W.cell? a) G [] a v
 |[],vs,ds,ps,_,h,_=>by
  obtain⟨rfl,rfl,rfl⟩:=Go.ChangeShapes.trodAll_nil h
  exact⟨[],trivial,Nat.zero_le _,rfl,λj a v h=>by simp[avs] at h⟩
 |t::ts,vs,ds,ps,hts,h,hok=>by
  obtain⟨v,vs',d,ds',p,q,rfl,rfl,rfl,h0,hr⟩:=Go.ChangeShapes.trodAll_cons h
  obtain⟨dss,g1,g2,g3,g4⟩:=args_vg hb hS G ts vs' ds' q (λt ht=>hts t (by simp[ht])) hr (λj t v h1 h2=>hok (j+1) t v (by simpa using h1) (by simpa using h2))
  obtain⟨n,hn⟩:=h0
  obtain⟨ds0,e1,e2,e3,e4,e5⟩:=rd_trod hb hS n t (hts t (by simp)) _ _ hn
  have e5:bulkL ds0<=ub d:=e5
  have h1:=hb.cons d ds'
  refine⟨ds0::dss,⟨by omega,e4,g1⟩,by simp only[bulkLL];omega,by simp[avs,g3],λj a u ha hu=>?_⟩
  cases j with
  |zero=>
   simp[avs] at ha hu
   subst ha;subst hu
   exact arg_vg hS (hts t (by simp)) (hok 0 t v rfl rfl) e1 e3 G
  |succ j=>exact g4 j a u (by simpa[avs] using ha) (by simpa using hu)
theorem stays_all(hlaid:laidOutB P=true){W':World}(hsame:∀b,b<W.heap.size->W'.heap[b]?=W.heap[b]?){sp':Nat->Bool}:∀(ts:List TypeId) (vs:List Value) (ds:List (DataW H)) (ps:List MemPlace),(∀t∈ts,P.readableRec t=true/\t<P.types.size)->DataW.TrodAll enc P W 0 (λ_=>true) true ts vs ds ps->
  (∀p∈ps,p.block<W.heap.size/\sp' p.block=true)->DataW.TrodAll enc P W' 0 sp' true ts vs ds ps
 |[],vs,ds,ps,_,h,_=>by
  obtain⟨rfl,rfl,rfl⟩:=Go.ChangeShapes.trodAll_nil h
  exact h
 |t::ts,vs,ds,ps,hts,h,hp=>by
  obtain⟨v,vs',d,ds',p,q,rfl,rfl,rfl,h0,hr⟩:=Go.ChangeShapes.trodAll_cons h
  refine⟨p,q,Go.WideElems.Trod_stays hlaid (hts t (by simp)).1 (hts t (by simp)).2 h0 (λx hx=>?_) (λx hx=>(hp x (by simp[hx])).2),stays_all hlaid hsame ts vs' ds' q (λt ht=>hts t (by simp[ht])) hr (λx hx=>hp x (by simp[hx])),rfl⟩
  have hlt:=(hp x (by simp[hx])).1
  cases x with
  |cell b off=>simp only[World.sameAt,World.cell?];rw[hsame b hlt]
  |map b=>exact hsame b hlt
theorem law_contract(hb:Bulk ub ubs)(hS:S.all (tyOK P S)=true){f:FuncId}{fn:Func}{s:ChangeSpec}{bt:TypeId}(hts:∀t∈fn.params.toList,t∈S)(hread:∀t∈fn.params.toList,P.readableRec t=true/\t<P.types.size)(hlaid:laidOutB P=true)
  (hvars:s.vars=[]) (hres:fn.resultTypes=#[bt]) (hbt:P.underlying bt=some .bool) {base:Nat} {args:Array Value} {ds gs:List (DataW H)} {before:List MemPlace}
  (hspec:ds.length=fn.params.size->s.fn H (ds++[])={results:=[.lit (.bool true)],args:=ds})
  (hval:∀(j:Nat) t v,fn.params[j]?=some t->args[j]?=some v->Value.okWide P W .any base t v) (hW:DataW.Whole enc P fn.params.toList s.vars false W args.toList ds gs before)
  (hG:∀b,Globs.has b->∃o,W.heap[b]?=some o/\Globs.ok b o) (hlaw:∀dss,WTs P fn.params.toList dss->bulkLL dss<=ubs ds->Pure P f (avs P fn.params.toList dss) (.d (.bool true))) :
  Calls P f args W λe W'=>∃v,e=.returned v/\s.post enc P fn false true false false W args v W':=by
 have hW':=hW
 have hlt:=hW.lt
 obtain⟨p,q,hA,hV,rfl,hfz,hnd⟩:=hW
 rw[hvars] at hV
 obtain⟨rfl,rfl⟩:=Go.ChangeShapes.trodVars_none hV
 let G:Gh:=⟨λ_=>0,λ_=>0⟩
 obtain⟨dss,g1,g2,g3,g4⟩:=args_vg (base:=base) hb hS G _ _ _ _ hts hA (λj t v h1 h2=>hval j t v (by simpa using h1) (by simpa using h2))
 have hp:=hlaw dss g1 g2
 have hE:Env (λa=>W.cell? a) G [] W:=⟨λa v h=>h,λid o h=>by simp at h,λi j hi=>by obtain⟨o,ho,_⟩:=hi;simp at ho,λi a v hi=>by obtain⟨o,ho,_⟩:=hi;simp at ho,λb hb=>⟨hG b hb,λi hi=>by obtain⟨o,ho,_⟩:=hi;simp at ho⟩⟩
 refine(hp.2 _ G W args hE (by simpa using g3) (λj a v h1 h2=>g4 j a v h1 (by simpa using h2))).mono λe W' h=>?_
 obtain⟨v,rfl,M',G',r,os',h1,h2,h3,rfl,rfl⟩:=h
 have hv:=va_bool h3
 subst hv
 have hsame:∀b,b<W.heap.size->W'.heap[b]?=W.heap[b]?:=λb hb=>h2.frame b hb λi hi=>by obtain⟨o,ho,_⟩:=hi;simp at ho
 have hlen:ds.length=fn.params.size:=by have:=(Go.trodAll_length hA).2;simpa using this
 refine⟨_,rfl,ds,[],p++[],[],p,[],hW',?_,?_,?_,⟨h2.sys,h2.output,λi hi=>?_⟩,λh=>by cases h⟩
 ·rw[hspec hlen,hres]
  exact Go.ChangeShapes.trodAll_mk1 (Go.RowKit.shut_bool hbt true)
 ·rw[hspec hlen]
  exact stays_all hlaid hsame _ _ _ _ hread hA (λx hx=>⟨hlt x (by simpa using hx),by simpa using hlt x (by simpa using hx)⟩)
 ·rw[hspec hlen,hvars]
  exact rfl
 ·rw[hsame i hi]
  cases W.heap[i]? with
  |none=>rfl
  |some o=>cases o<;>first|exact⟨rfl,rfl,rfl,λ_ _=>rfl⟩|exact .inr ⟨rfl,rfl⟩|rfl
end
end Go.Bi
namespace Go.Bi
set_option linter.unusedSectionVars false
variable [Globs]
end Go.Bi
