/- Texts of this claim, joined. No condition. -/
import Derived.Test.YtlkkaepbnnakpaaGreatDoorQ10
set_option linter.unusedSimpArgs false
set_option linter.unusedVariables false
set_option maxRecDepth 10000
set_option maxHeartbeats 4000000
section
namespace Go.Proofs
open Go.Bi
def fwN(S:List St)(row:List Vl):List Vl:=S.foldl (λr s=>fwV s.x.t s.c r) row
def bwN(S:List St)(row:List Vl):List Vl:=S.foldr (λs r=>bwV s.x.t s.c r) row
theorem fwN_snoc(S:List St)(a p:Nat)(s:St)(row:List Vl)(hap:a<=p)(h:S[p]?=some s):fwN ((S.drop a).take (p+1-a)) row=fwV s.x.t s.c (fwN ((S.drop a).take (p-a)) row):=by
 have e:(S.drop a)[p-a]?=some s:=by rw[List.getElem?_drop,show a+(p-a)=p by omega];exact h
 unfold fwN
 rw[show p+1-a=(p-a)+1 by omega,List.take_add_one,e,List.foldl_append]
 rfl
theorem bwN_cons(S:List St)(a p:Nat)(s:St)(row:List Vl)(hpa:p<a)(h:S[p]?=some s):bwN ((S.drop p).take (a-p)) row=bwV s.x.t s.c (bwN ((S.drop (p+1)).take (a-(p+1))) row):=by
 obtain⟨hlt,he⟩:=List.getElem?_eq_some_iff.1 h
 rw[List.drop_eq_getElem_cons hlt,he,show a-p=(a-(p+1))+1 by omega,List.take_succ_cons]
 rfl
theorem fwN_self(S:List St)(a:Nat)(row:List Vl):fwN ((S.drop a).take (a-a)) row=row:=by simp[fwN]
theorem bwN_self(S:List St)(a:Nat)(row:List Vl):bwN ((S.drop a).take (a-a)) row=row:=by simp[bwN]
def vK(x:TD)(l:List Ch)(i:Nat):List Int:=kd (chn x (l.take i)).t.cs
theorem vK_succ{x:TD}{l:List Ch}{i:Nat}{c:Ch}(hb:stB x l=true)(h:l[i]?=some c):vK x l (i+1)=kd (evoT (chn x (l.take i)).t c).cs:=by
 unfold vK
 rw[take_one h,chn_snoc,to_evo (stB_get hb h)]
theorem fits_fwN{x:TD}{l:List Ch}(hb:stB x l=true){a:Nat}{row:List Vl}(hf:fits row (vK x l a)=true):∀k,a+k<=l.length->fits (fwN (((stL x l).drop a).take k) row) (vK x l (a+k))=true
 |0,_=>by simpa[fwN] using hf
 |k+1,hk=>by
  have ih:=fits_fwN hb hf k (by omega)
  obtain⟨c,hc⟩:∃c,l[a+k]?=some c:=⟨_,List.getElem?_eq_getElem (by omega)⟩
  have hs:=fwN_snoc (stL x l) a (a+k) _ row (by omega) (stL_get (x:=x) hc)
  rw[show a+k+1-a=k+1 by omega,show a+k-a=k by omega] at hs
  rw[hs,show a+(k+1)=a+k+1 by omega,vK_succ hb hc]
  exact fits_fw (stB_get hb hc) ih
theorem fits_bwN{x:TD}{l:List Ch}(hb:stB x l=true){a:Nat}(ha:a<=l.length){row:List Vl}(hf:fits row (vK x l a)=true):∀k,k<=a->fits (bwN (((stL x l).drop (a-k)).take k) row) (vK x l (a-k))=true
 |0,_=>by simpa[bwN] using hf
 |k+1,hk=>by
  have ih:=fits_bwN hb ha hf k (by omega)
  obtain⟨c,hc⟩:∃c,l[a-(k+1)]?=some c:=⟨_,List.getElem?_eq_getElem (by omega)⟩
  have hs:=bwN_cons (stL x l) a (a-(k+1)) _ row (by omega) (stL_get (x:=x) hc)
  rw[show a-(a-(k+1))=k+1 by omega,show a-(a-(k+1)+1)=k by omega,show a-(k+1)+1=a-k by omega] at hs
  rw[hs]
  have h2:=vK_succ hb hc
  rw[show a-(k+1)+1=a-k by omega] at h2
  rw[h2] at ih
  exact fits_bw (stB_get hb hc) ih
def cnvR(x:TD)(l:List Ch)(a b:Nat)(row:List Vl):List Vl:=if a<=b then fwN (((stL x l).drop a).take (b-a)) row else bwN (((stL x l).drop b).take (a-b)) row
end Go.Proofs
end
section
namespace Go.Proofs
open Go.Bi
def saT:Tb:=⟨[116],[⟨[97],1,false⟩,⟨[98],1,true⟩],[0],[],[]⟩
def saA:Ch:=⟨1,[],[],⟨[99],1,true⟩,⟨1,7,[]⟩⟩
def saX:Ch:=⟨4,[98],[],⟨[],0,false⟩,⟨0,0,[]⟩⟩
def saD:TD:=⟨saT,.sl (eCs saT.cs),.sl (eIs saT.ks),.nil,.nil⟩
theorem saD_ok:saD.ok:=
 ⟨⟨by decide,by decide,by decide,by decide,by decide,λf hf=>by simp[saD,saT] at hf,by decide,λe he=>by simp[saD,saT] at he,sld_sl,sld_sl,sld_nil,sld_nil⟩,λe he=>by simp[saD,saT] at he⟩
theorem saA_ok:Cok saA:=⟨by decide,by decide,by decide,by decide⟩
theorem saX_ok:Cok saX:=⟨by decide,by decide,by decide,by decide⟩
theorem sa_evo:evoE saT saA=0/\evoE saT saX=0:=⟨by kernel_rfl,by kernel_rfl⟩
abbrev w1:Vl:=⟨1,1,[]⟩
abbrev w7:Vl:=⟨1,7,[]⟩
abbrev t7:Vl:=⟨2,0,[55]⟩
abbrev t07:Vl:=⟨2,0,[48,55]⟩
theorem tx_w7:txV w7=t7:=by
 have h:Lib.itoa 7=[55]:=by
  have:=Lib.itoa_nonneg 7
  rw[Lib.decDigits_one (by decide)] at this
  exact this
 have hv:vValid w7=true:=by decide
 have hl:vLit w7=[55]:=by
  unfold vLit
  rw[hv,if_neg (by decide),if_pos rfl,h]
 unfold txV
 rw[if_neg (show ¬(1:Int)=0 by decide),hl]
 decide
theorem sa1:fwD saT saA [w1,w1]=.sl (eVs [w1,w1,w7]):=by
 unfold fwD
 rw[if_pos ⟨sa_evo.1,by decide⟩];rfl
theorem sa2:bwD saT saA [w1,w1,w1]=.sl (eVs [w1,w1]):=by
 unfold bwD
 rw[if_pos ⟨sa_evo.1,by decide⟩];rfl
theorem sa3:fwD saT saX [w1,w7]=.sl (eVs [w1,t7]):=by
 unfold fwD
 rw[if_pos ⟨sa_evo.2,by decide⟩]
 have:fwV saT saX [w1,w7]=[w1,txV w7]:=rfl
 rw[this,tx_w7]
theorem sa4:bwD saT saX [w1,t07]=.sl (eVs [w1,vNull]):=by
 unfold bwD
 rw[if_pos ⟨sa_evo.2,by decide⟩];kernel_rfl
theorem sa5:bwD saT saX [w1,t7]=.sl (eVs [w1,w7]):=by
 unfold bwD
 rw[if_pos ⟨sa_evo.2,by decide⟩];kernel_rfl
theorem C.law15_awake:Pure Tryz.prog N.bt_law15_awake [] (.d (.bool true)):=by
 have hI1:Bi.Pure Tryz.prog N.bt_ref07_Int [.d (eI 1)] (eV ⟨1,1,[]⟩):=C.r7_Int 1
 have hI7:Bi.Pure Tryz.prog N.bt_ref07_Int [.d (eI 7)] (eV ⟨1,7,[]⟩):=C.r7_Int 7
 have hT7:Bi.Pure Tryz.prog N.bt_ref07_Text [.d (.str [55])] (eV ⟨2,0,[55]⟩):=C.r7_Text [55] (by decide)
 have hT07:Bi.Pure Tryz.prog N.bt_ref07_Text [.d (.str [48,55])] (eV ⟨2,0,[48,55]⟩):=C.r7_Text [48,55] (by decide)
 have hN:=C.r7_Null
 have h1:=C.mapping_Forward saD saD_ok saA saA_ok [w1,w1] (by decide) (by decide) (.sl (eVs [w1,w1])) (.inr rfl)
 have h2:=C.mapping_Backward saD saD_ok saA saA_ok [w1,w1,w1] (by decide) (by decide) (.sl (eVs [w1,w1,w1])) (.inr rfl)
 have h3:=C.mapping_Forward saD saD_ok saX saX_ok [w1,w7] (by decide) (by decide) (.sl (eVs [w1,w7])) (.inr rfl)
 have h4:=C.mapping_Backward saD saD_ok saX saX_ok [w1,t07] (by decide) (by decide) (.sl (eVs [w1,t07])) (.inr rfl)
 have h5:=C.mapping_Backward saD saD_ok saX saX_ok [w1,t7] (by decide) (by decide) (.sl (eVs [w1,t7])) (.inr rfl)
 rw[show saD.t=saT from rfl,sa1] at h1
 rw[show saD.t=saT from rfl,sa2] at h2
 rw[show saD.t=saT from rfl,sa3] at h3
 rw[show saD.t=saT from rfl,sa4] at h4
 rw[show saD.t=saT from rfl,sa5] at h5
 have e1:=C.r8_Equal_refl [w1,w1,w7] (by decide) _ _ (.inr rfl) (.inr rfl)
 have e2:=C.r8_Equal_refl [w1,t7] (by decide) _ _ (.inr rfl) (.inr rfl)
 have e3:=C.r8_Equal_refl [w1,w7] (by decide) _ _ (.inr rfl) (.inr rfl)
 have e4:=C.r8_Equal_refl [w1,vNull] (by decide) _ _ (.inr rfl) (.inr rfl)
 refine F.bt_law15_awake.go mixed rfl ?_
 repeat' first|refine st ?_|((with_reducible first|apply k_pn|apply k_pc);(·first|exact hI1|exact hI7|exact hT7|exact hT07|exact hN|exact h1|exact h2|exact h3|exact h4|exact h5|exact e1|exact e2|exact e3|exact e4))|(with_reducible first|apply k_d|apply k_b)<;>intro _
 all_goals rfl
end Go.Proofs
end
section
namespace Go.Proofs
open Go.Bi
theorem cnvR_fw{x:TD}{l:List Ch}{a b:Nat}(h:a<=b)(row:List Vl):cnvR x l a b row=fwN (((stL x l).drop a).take (b-a)) row:=by unfold cnvR;rw[if_pos h]
theorem cnvR_bw{x:TD}{l:List Ch}{a b:Nat}(h:b<=a)(row:List Vl):cnvR x l a b row=bwN (((stL x l).drop b).take (a-b)) row:=by
 unfold cnvR
 by_cases e:a=b
 ·subst e;rw[if_pos (Nat.le_refl _),fwN_self,bwN_self]
 ·rw[if_neg (by omega)]
theorem erase_at{α:Type}(row:List α)(i j:Nat)(h:i≠j):(row.eraseIdx i)[(belowI (j:Int) i).toNat]?=row[j]?:=by
 unfold belowI
 rw[List.getElem?_eraseIdx]
 split
 ·rw[if_neg (by omega)]
  congr 1
  omega
 ·rw[if_pos (by omega)];rfl
theorem fw_keep{t:Tb}{c:Ch}(h:evoE t c=0)(h4:c.k≠4){row:List Vl}(hf:fits row (kd t.cs)=true){j:Int}{v:Vl}(hj:0<=j)(hv:row[j.toNat]?=some v):idxE t c j=-1\/(0<=idxE t c j/\(fwV t c row)[(idxE t c j).toNat]?=some v):=by
 obtain⟨q1,q2,q3,q4,q5⟩:=evo_inv h
 have hl:=(fits_bd hf).1
 rw[kd_len] at hl
 have hjl:=(List.getElem?_eq_some_iff.1 hv).1
 unfold idxE
 rw[if_neg (by omega)]
 unfold fwV
 by_cases k1:c.k=1
 ·rw[if_pos (by omega),if_pos k1]
  right
  refine⟨hj,?_⟩
  rw[List.getElem?_append_left hjl];exact hv
 ·rw[if_neg k1]
  by_cases k2:c.k=2
  ·rw[if_neg (by omega),if_pos k2]
   obtain⟨i,co,hi,hco,_⟩:=chg_inv (q5 k1)
   rw[hi]
   by_cases hij:(i:Int)=j
   ·rw[if_pos hij];exact .inl rfl
   ·rw[if_neg hij]
    right
    obtain⟨n,rfl⟩:∃n:Nat,j=n:=⟨j.toNat,by omega⟩
    have e:=erase_at row i n (by omega)
    rw[Int.toNat_natCast] at hv
    refine⟨?_,?_⟩
    ·unfold belowI;split<;>omega
    ·rw[Int.toNat_natCast,e];exact hv
  ·rw[if_pos k2,if_neg k2,if_neg h4]
   exact .inr ⟨hj,hv⟩
theorem bw_keep{t:Tb}{c:Ch}(h:evoE t c=0)(h4:c.k≠4){row:List Vl}(hf:fits row (kd (evoT t c).cs)=true){j:Int}{v:Vl}(hj:0<=j)(hv:row[j.toNat]?=some v):bkT t c j=-1\/(0<=bkT t c j/\(bwV t c row)[(bkT t c j).toNat]?=some v):=by
 obtain⟨q1,q2,q3,q4,q5⟩:=evo_inv h
 have hl:=(fits_bd hf).1
 rw[kd_len] at hl
 have hjl:=(List.getElem?_eq_some_iff.1 hv).1
 unfold bkT bwV
 unfold evoT at hl
 by_cases k1:c.k=1
 ·rw[if_pos k1] at hl ⊢
  dsimp only at hl
  rw[List.length_append,List.length_singleton] at hl
  by_cases e:j=(t.cs.length:Int)
  ·rw[if_pos ⟨k1,e⟩];exact .inl rfl
  ·rw[if_neg (λh=>e h.2),if_neg (by omega)]
   right
   refine⟨hj,?_⟩
   rw[List.getElem?_take_of_lt (by omega)];exact hv
 ·rw[if_neg (λh=>k1 h.1),if_neg k1]
  by_cases k2:c.k=2
  ·rw[if_pos k2]
   obtain⟨i,co,hi,hco,_⟩:=chg_inv (q5 k1)
   have hil:=(List.getElem?_eq_some_iff.1 hco).1
   rw[if_neg k1,if_pos k2,hi,Int.toNat_natCast] at hl
   dsimp only at hl
   rw[List.length_eraseIdx,if_pos hil] at hl
   rw[hi]
   right
   by_cases hij:(i:Int)<=j
   ·rw[if_pos ⟨k2,hij⟩]
    refine⟨by omega,?_⟩
    rw[Int.toNat_natCast,List.getElem?_append_right (by rw[List.length_take];omega),List.length_take,Nat.min_eq_left (by omega),show(j+1).toNat-i=(j.toNat-i)+1 by omega,List.getElem?_cons_succ,List.getElem?_drop,show i+(j.toNat-i)=j.toNat by omega]
    exact hv
   ·rw[if_neg (λh=>hij h.2)]
    refine⟨hj,?_⟩
    rw[Int.toNat_natCast,List.getElem?_append_left (by rw[List.length_take];omega),List.getElem?_take_of_lt (by omega)]
    exact hv
  ·rw[if_neg (λh=>k2 h.1),if_neg k2,if_neg h4]
   exact .inr ⟨hj,hv⟩
theorem idxE_m1(t:Tb)(c:Ch):idxE t c (-1)=-1:=by unfold idxE;rw[if_pos (.inr (.inl (by decide)))]
theorem keep_fw{x:TD}{l:List Ch}(hb:stB x l=true){a:Nat}{row:List Vl}(hf:fits row (vK x l a)=true){j:Int}{v:Vl}(hj:0<=j)(hv:row[j.toNat]?=some v):∀k,a+k<=l.length->(∀(i:Nat) c,a<=i->i<a+k->l[i]?=some c->c.k≠4)->
  fwI (((stL x l).drop a).take k) j=-1\/(0<=fwI (((stL x l).drop a).take k) j/\(fwN (((stL x l).drop a).take k) row)[(fwI (((stL x l).drop a).take k) j).toNat]?=some v)
 |0,_,_=>.inr ⟨hj,by simpa[fwN,fwI] using hv⟩
 |k+1,hk,hl=>by
  have ih:=keep_fw hb hf hj hv k (by omega) λi c h1 h2 h3=>hl i c h1 (by omega) h3
  obtain⟨c,hc⟩:∃c,l[a+k]?=some c:=⟨_,List.getElem?_eq_getElem (by omega)⟩
  have hff:=fits_fwN hb hf k (by omega)
  have h1:=fwI_snoc (stL x l) a (a+k) _ j (by omega) (stL_get (x:=x) hc)
  have h2:=fwN_snoc (stL x l) a (a+k) _ row (by omega) (stL_get (x:=x) hc)
  rw[show a+k+1-a=k+1 by omega,show a+k-a=k by omega] at h1 h2
  rw[h1,h2]
  dsimp only
  rcases ih with e|⟨e1,e2⟩
  ·rw[e];exact .inl (idxE_m1 _ _)
  ·exact fw_keep (stB_get hb hc) (hl _ c (by omega) (by omega) hc) hff e1 e2
theorem keep_bw{x:TD}{l:List Ch}(hb:stB x l=true){a:Nat}(ha:a<=l.length){row:List Vl}(hf:fits row (vK x l a)=true){j:Int}{v:Vl}(hj:0<=j)(hv:row[j.toNat]?=some v):∀k,k<=a->(∀(i:Nat) c,a-k<=i->i<a->l[i]?=some c->c.k≠4)->
  bwI (((stL x l).drop (a-k)).take k) j=-1\/(0<=bwI (((stL x l).drop (a-k)).take k) j/\(bwN (((stL x l).drop (a-k)).take k) row)[(bwI (((stL x l).drop (a-k)).take k) j).toNat]?=some v)
 |0,_,_=>.inr ⟨hj,by simpa[bwN,bwI] using hv⟩
 |k+1,hk,hl=>by
  have ih:=keep_bw hb ha hf hj hv k (by omega) λi c h1 h2 h3=>hl i c (by omega) h2 h3
  obtain⟨c,hc⟩:∃c,l[a-(k+1)]?=some c:=⟨_,List.getElem?_eq_getElem (by omega)⟩
  have hff:=fits_bwN hb ha hf k (by omega)
  have h1:=bwI_cons (stL x l) a (a-(k+1)) _ j (by omega) (stL_get (x:=x) hc)
  have h2:=bwN_cons (stL x l) a (a-(k+1)) _ row (by omega) (stL_get (x:=x) hc)
  rw[show a-(a-(k+1))=k+1 by omega,show a-(a-(k+1)+1)=k by omega,show a-(k+1)+1=a-k by omega] at h1 h2
  rw[h1,h2]
  unfold bkI
  dsimp only
  have h3:=vK_succ hb hc
  rw[show a-(k+1)+1=a-k by omega] at h3
  rw[h3] at hff
  rcases ih with e|⟨e1,e2⟩
  ·rw[e];exact .inl (bkT_neg (stB_get hb hc))
  ·exact bw_keep (stB_get hb hc) (hl _ c (by omega) (by omega) hc) hff e1 e2
structure Va(x:TD)(l:List Ch)(a b:Nat)(row:List Vl):Prop where
 t:tabE x.t=0
 s:stB x l=true
 la:a<=l.length
 lb:b<=l.length
 f:fits row (vK x l a)=true
theorem Va.e{x:TD}{l:List Ch}{a b:Nat}{row:List Vl}(h:Va x l a b row):stE x l=true:=by unfold stE;rw[h.t,h.s];rfl
theorem keeps{x:TD}{l:List Ch}{a b:Nat}{row:List Vl}(h:Va x l a b row){j:Int}{v:Vl}(hj:0<=j)(hv:row[j.toNat]?=some v)(hl:∀(i:Nat) c,min a b<=i->i<max a b->l[i]?=some c->c.k≠4) :
  colM x l a b j=-1\/(0<=colM x l a b j/\(cnvR x l a b row)[(colM x l a b j).toNat]?=some v):=by
 have hjl:=(List.getElem?_eq_some_iff.1 hv).1
 have hrl:=(fits_bd h.f).1
 have ha:=h.la
 have hb:=h.lb
 unfold vK at hrl
 rw[kd_len] at hrl
 have e:colM x l a b j=if a<=b then fwI (((stL x l).drop a).take (b-a)) j else bwI (((stL x l).drop b).take (a-b)) j:=by
  unfold colM
  rw[if_neg]
  ·simp only[Int.toNat_natCast]
   by_cases hab:a<=b
   ·rw[if_pos hab,if_pos (by omega)]
   ·rw[if_neg hab,if_neg (by omega)]
  ·rw[h.e,Int.toNat_natCast]
   rintro(e|e|e|e|e|e|e)<;>first|omega|cases e
 rw[e]
 by_cases hab:a<=b
 ·rw[if_pos hab,cnvR_fw hab]
  exact keep_fw h.s h.f hj hv (b-a) (by omega) λi c h1 h2 h3=>hl i c (by omega) (by omega) h3
 ·rw[if_neg hab,cnvR_bw (by omega)]
  have:=keep_bw h.s h.la h.f hj hv (a-b) (by omega) λi c h1 h2 h3=>hl i c (by omega) (by omega) h3
  rwa [show a-(a-b)=b by omega] at this
end Go.Proofs
end
section
namespace Go.Proofs
open Go.Bi
abbrev caD(x:TD)(d:D)(a b:Int)(dr:D):AV:=.agg [.d (.str x.t.nm),.d x.dc,.d x.dk,.d x.df,.d x.dx,.d d,.d (eI a),.d (eI b),.d dr]
theorem L.MappingColumns(x:TD)(h:x.ok)(l:List Ch)(hl:l.length<=1048576)(hls:∀c∈l,Cok c)(d:D)(hd:SlD d (eChs l))(a b:Int)(dr:D)(k:Int) :
  Pure Tryz.prog N.bt_law15_MappingColumns [caD x d a b dr,.d (eI k)] (.d (.bool true)):=by
 have h1:=C.mapping_Column x h l hl hls d hd a b k
 have h2:=C.r15_Column x h l hl hls d hd a b k
 obtain⟨q1,hq1⟩:∃q,q=colM x l a b k:=⟨_,rfl⟩
 rw[<- hq1] at h1 h2
 have r1:q1=q1:=rfl
 have hA:=C.law15_awake
 clear h hq1 hd
 obtain⟨⟨nm,cs,ks,fs,xs⟩,dc,dk,df,dx⟩:=x
 refine F.bt_law15_MappingColumns.go mixed rfl ?_
 repeat' first|refine st ?_|((with_reducible first|apply k_pn|apply k_pc);(·first|exact h1|exact h2|exact hA))|(with_reducible first|apply k_d|apply k_b)<;>intro _
 all_goals first|rfl|(exfalso;rename_i hh;exact hh rfl)
end Go.Proofs
end
section
namespace Go.Proofs
open Go.Bi
abbrev T.co:TypeId:=29
abbrev T.cos:TypeId:=22
abbrev T.fo:TypeId:=79
abbrev T.fos:TypeId:=24
abbrev T.tb:TypeId:=27
theorem cells_co:Tryz.prog.cellsOf T.co=3:=by kernel_rfl
theorem cells_cos:Tryz.prog.cellsOf T.cos=1:=by kernel_rfl
theorem cells_ints:Tryz.prog.cellsOf T.ints=1:=by kernel_rfl
theorem cells_fo:Tryz.prog.cellsOf T.fo=2:=by kernel_rfl
theorem cells_fos:Tryz.prog.cellsOf T.fos=1:=by kernel_rfl
theorem cells_tb:Tryz.prog.cellsOf T.tb=5:=by kernel_rfl
theorem wt_co{ds:List D}(h:WT Tryz.prog T.co ds):∃c:Co,ds=c.ds:=by
 obtain⟨hl,hf⟩:=h.st' Tryz.underlying29
 rw[cells_co] at hl
 match ds,hl with
 |[x,y,z],_=>
  have h0:=hf _ (List.mem_cons_self ..)
  have h1:=hf _ (List.mem_cons_of_mem _ (List.mem_cons_self ..))
  have h2:=hf _ (List.mem_cons_of_mem _ (List.mem_cons_of_mem _ (List.mem_cons_self ..)))
  dsimp only at h0 h1 h2
  rw[cells_str] at h0
  rw[cells_int] at h1
  rw[cells_bool] at h2
  obtain⟨a,ha⟩:=wt_str h0
  obtain⟨b,hb⟩:=wt_int h1
  obtain⟨s,hs⟩:=wt_bool h2
  simp at ha hb hs
  exact⟨⟨a,b,s⟩,by rw[ha,hb,hs]⟩
theorem wt_cos{ds:List D}(h:WT Tryz.prog T.cos ds):∃d l,ds=[d]/\SlD d (eCs l):=by
 obtain⟨d,es,h1,h2,h4,h3⟩:=h.sl' Tryz.underlying22
 have:∃l,es=eCs l:=by
  clear h1 h2 h4
  induction es with
  |nil=>exact⟨[],rfl⟩
  |cons x es ih=>
   obtain⟨n,hn⟩:=wt_co (h3 x (by simp))
   obtain⟨ks,hk⟩:=ih λy hy=>h3 y (by simp[hy])
   exact⟨n::ks,by rw[hn,hk];rfl⟩
 obtain⟨ks,rfl⟩:=this
 exact⟨d,ks,h1,h2⟩
theorem wt_fo{ds:List D}(h:WT Tryz.prog T.fo ds):∃f:Fo,ds=f.ds:=by
 obtain⟨hl,hf⟩:=h.st' Tryz.underlying79
 rw[cells_fo] at hl
 match ds,hl with
 |[x,y],_=>
  have h0:=hf _ (List.mem_cons_self ..)
  have h1:=hf _ (List.mem_cons_of_mem _ (List.mem_cons_self ..))
  dsimp only at h0 h1
  rw[cells_ints] at h0
  rw[cells_str] at h1
  obtain⟨d,ks,ha,hd⟩:=wt_ints h0
  obtain⟨s,hs⟩:=wt_str h1
  simp at ha hs
  rcases hd with ⟨rfl,he⟩|rfl
  ·have:ks=[]:=by cases ks with
    |nil=>rfl
    |cons k ks=>cases he
   subst this
   exact⟨⟨true,[],s⟩,by rw[ha,hs];rfl⟩
  ·exact⟨⟨false,ks,s⟩,by rw[ha,hs];rfl⟩
theorem wt_fos{ds:List D}(h:WT Tryz.prog T.fos ds):∃d l,ds=[d]/\SlD d (eFs l):=by
 obtain⟨d,es,h1,h2,h4,h3⟩:=h.sl' Tryz.underlying24
 have:∃l,es=eFs l:=by
  clear h1 h2 h4
  induction es with
  |nil=>exact⟨[],rfl⟩
  |cons x es ih=>
   obtain⟨n,hn⟩:=wt_fo (h3 x (by simp))
   obtain⟨ks,hk⟩:=ih λy hy=>h3 y (by simp[hy])
   exact⟨n::ks,by rw[hn,hk];rfl⟩
 obtain⟨ks,rfl⟩:=this
 exact⟨d,ks,h1,h2⟩
theorem cos_bulk{d:D}{l:List Co}(h:SlD d (eCs l)):l.length<=bulkL [d]/\∀v∈l,v.nm.length<=bulkL [d]:=by
 have h1:=sld_bulk h
 have h2:(eCs l).length<=bulkLL (eCs l):=bulkLL_len λx hx=>by
  obtain⟨k,_,rfl⟩:=List.mem_map.1 hx
  simp only[Co.ds,bulkL,bulkD];omega
 rw[eCs_len] at h2
 refine⟨by omega,λv hv=>?_⟩
 have h3:bulkL v.ds<=bulkLL (eCs l):=bulkLL_mem (List.mem_map.2 ⟨v,hv,rfl⟩)
 have h4:v.nm.length<=bulkL v.ds:=by simp only[Co.ds,bulkL,bulkD];omega
 omega
theorem fos_bulk{d:D}{l:List Fo}(h:SlD d (eFs l)):l.length<=bulkL [d]/\∀f∈l,f.cs.length<=bulkL [d]/\f.tb.length<=bulkL [d]:=by
 have h1:=sld_bulk h
 have h2:(eFs l).length<=bulkLL (eFs l):=bulkLL_len λx hx=>by
  obtain⟨k,_,rfl⟩:=List.mem_map.1 hx
  simp only[Fo.ds,bulkL,bulkD];omega
 rw[eFs_len] at h2
 refine⟨by omega,λv hv=>?_⟩
 have h3:bulkL v.ds<=bulkLL (eFs l):=bulkLL_mem (List.mem_map.2 ⟨v,hv,rfl⟩)
 have h4:v.tb.length<=bulkL v.ds:=by simp only[Fo.ds,bulkL,bulkD];omega
 have h5:v.cs.length<=bulkL [v.d]:=ints_bulk v.sld
 have h6:bulkL [v.d]<=bulkL v.ds:=by simp only[Fo.ds,bulkL];omega
 omega
theorem exs_bulk{d:D}{l:List Ex}(h:SlD d (xL l)):l.length<=bulkL [d]/\∀e∈l,e.bk<=bulkL [d]:=by
 have h1:=sld_bulk h
 have h2:=xL_bulk_len l
 refine⟨by omega,λv hv=>?_⟩
 have h3:bulkL v.ds<=bulkLL (xL l):=bulkLL_mem (List.mem_map.2 ⟨v,hv,rfl⟩)
 unfold Ex.bk
 omega
theorem tb_tok{t:Tb}{dc dk df dx:D}(hb:bulkL [.str t.nm,dc,dk,df,dx]<=1048576)(hc:SlD dc (eCs t.cs))(hk:SlD dk (eIs t.ks))(hf:SlD df (eFs t.fs))(hx:SlD dx (xL t.xs)):Tok t dc dk df dx:=by
 have h1:=cos_bulk hc
 have h2:=ints_bulk hk
 have h3:=fos_bulk hf
 have h4:=exs_bulk hx
 have e:bulkL [.str t.nm,dc,dk,df,dx]=t.nm.length+1+(bulkL [dc]+(bulkL [dk]+(bulkL [df]+bulkL [dx]))):=by simp only[bulkL,bulkD];omega
 rw[e] at hb
 exact {hn:=by omega,hl:=by omega,hls:=λc hc=>Nat.le_trans (h1.2 c hc) (by omega),hk:=by omega,hfl:=by omega,hfc:=λf hf=>⟨Nat.le_trans (h3.2 f hf).1 (by omega),Nat.le_trans (h3.2 f hf).2 (by omega)⟩,hxs:=by omega,hxb:=λe he=>Nat.le_trans (h4.2 e he) (by omega),dc:=hc,dk:=hk,df:=hf,dx:=hx}
end Go.Proofs
end
section
namespace Go.Proofs
open Go.Bi
abbrev T.ch:TypeId:=33
theorem cells_ch:Tryz.prog.cellsOf T.ch=9:=by kernel_rfl
abbrev Ch.ds(c:Ch):List D:=[eI c.k,.str c.nm,.str c.to,.str c.co.nm,eI c.co.k,.bool c.co.nl,eI c.df.k,eI c.df.n,.str c.df.s]
theorem wt_ch{ds:List D}(h:WT Tryz.prog T.ch ds):∃c:Ch,ds=c.ds:=by
 obtain⟨hl,hf⟩:=h.st' Tryz.underlying33
 rw[cells_ch] at hl
 match ds,hl with
 |[d0,d1,d2,d3,d4,d5,d6,d7,d8],_=>
  have h0:=hf _ (List.mem_cons_self ..)
  have h1:=hf _ (List.mem_cons_of_mem _ (List.mem_cons_self ..))
  have h2:=hf _ (List.mem_cons_of_mem _ (List.mem_cons_of_mem _ (List.mem_cons_self ..)))
  have h3:=hf _ (List.mem_cons_of_mem _ (List.mem_cons_of_mem _ (List.mem_cons_of_mem _ (List.mem_cons_self ..))))
  have h4:=hf _ (List.mem_cons_of_mem _ (List.mem_cons_of_mem _ (List.mem_cons_of_mem _ (List.mem_cons_of_mem _ (List.mem_cons_self ..)))))
  dsimp only at h0 h1 h2 h3 h4
  rw[cells_int] at h0
  rw[cells_str] at h1 h2
  rw[cells_co] at h3
  rw[cells_val] at h4
  obtain⟨k,h0⟩:=wt_int h0
  obtain⟨nm,h1⟩:=wt_str h1
  obtain⟨to,h2⟩:=wt_str h2
  obtain⟨co,h3⟩:=wt_co h3
  obtain⟨df,h4⟩:=wt_val h4
  simp at h0 h1 h2 h3 h4
  obtain⟨e3,e4,e5⟩:=h3
  obtain⟨e6,e7,e8⟩:=h4
  exact⟨⟨k,nm,to,co,df⟩,by rw[h0,h1,h2,e3,e4,e5,e6,e7,e8]⟩
theorem ch_cok{c:Ch}(hb:bulkL c.ds<=1048576):Cok c:=by
 simp only[Ch.ds,bulkL,bulkD] at hb
 exact⟨by omega,by omega,by omega,by omega⟩
end Go.Proofs
end
section
namespace Go.Proofs
open Go.Bi
abbrev TD.ds(x:TD):List D:=[.str x.t.nm,x.dc,x.dk,x.df,x.dx]
theorem wt_td{ds:List D}(h:WT Tryz.prog T.tb ds):∃x:TD,ds=x.ds/\SlD x.dc (eCs x.t.cs)/\SlD x.dk (eIs x.t.ks)/\SlD x.df (eFs x.t.fs)/\SlD x.dx (xL x.t.xs)/\x.t.Rg:=by
 obtain⟨hl,hf⟩:=h.st' Tryz.underlying27
 rw[cells_tb] at hl
 match ds,hl with
 |[d0,d1,d2,d3,d4],_=>
  have h0:=hf _ (List.mem_cons_self ..)
  have h1:=hf _ (List.mem_cons_of_mem _ (List.mem_cons_self ..))
  have h2:=hf _ (List.mem_cons_of_mem _ (List.mem_cons_of_mem _ (List.mem_cons_self ..)))
  have h3:=hf _ (List.mem_cons_of_mem _ (List.mem_cons_of_mem _ (List.mem_cons_of_mem _ (List.mem_cons_self ..))))
  have h4:=hf _ (List.mem_cons_of_mem _ (List.mem_cons_of_mem _ (List.mem_cons_of_mem _ (List.mem_cons_of_mem _ (List.mem_cons_self ..)))))
  dsimp only at h0 h1 h2 h3 h4
  rw[cells_str] at h0
  rw[cells_cos] at h1
  rw[cells_ints] at h2
  rw[cells_fos] at h3
  rw[cells_exs] at h4
  obtain⟨s,hs⟩:=wt_str h0
  obtain⟨dc,l,h1,hc⟩:=wt_cos h1
  obtain⟨dk,ks,h2,hk⟩:=wt_ints h2
  obtain⟨df,fs,h3,hf⟩:=wt_fos h3
  obtain⟨nl,xs,h4,hx⟩:=wt_exsr h4
  simp at hs h1 h2 h3 h4
  exact⟨⟨⟨s,l,ks,fs,xs⟩,dc,dk,df,ng nl (xL xs)⟩,by rw[hs,h1,h2,h3,h4],hc,hk,hf,sld_ng,hx⟩
theorem td_ok{x:TD}(hb:bulkL x.ds<=1048576)(h:SlD x.dc (eCs x.t.cs)/\SlD x.dk (eIs x.t.ks)/\SlD x.df (eFs x.t.fs)/\SlD x.dx (xL x.t.xs)/\x.t.Rg):x.ok:=
 ⟨tb_tok hb h.1 h.2.1 h.2.2.1 h.2.2.2.1,h.2.2.2.2⟩
abbrev T.chs:TypeId:=39
theorem wt_chs{ds:List D}(h:WT Tryz.prog T.chs ds):∃d l,ds=[d]/\SlD d (eChs l):=by
 obtain⟨d,es,h1,h2,h4,h3⟩:=h.sl' Tryz.underlying39
 have:∃l,es=eChs l:=by
  clear h1 h2 h4
  induction es with
  |nil=>exact⟨[],rfl⟩
  |cons x es ih=>
   obtain⟨n,hn⟩:=wt_ch (h3 x (by simp))
   obtain⟨ks,hk⟩:=ih λy hy=>h3 y (by simp[hy])
   exact⟨n::ks,by rw[hn,hk];rfl⟩
 obtain⟨ks,rfl⟩:=this
 exact⟨d,ks,h1,h2⟩
theorem chs_bulk{d:D}{l:List Ch}(h:SlD d (eChs l))(hb:bulkL [d]<=1048576):l.length<=1048576/\∀c∈l,Cok c:=by
 have h1:=sld_bulk h
 have h2:(eChs l).length<=bulkLL (eChs l):=bulkLL_len λx hx=>by
  obtain⟨k,_,rfl⟩:=List.mem_map.1 hx
  simp only[chds,bulkL,bulkD];omega
 rw[eChs_len] at h2
 refine⟨by omega,λv hv=>?_⟩
 have h3:bulkL (chds v)<=bulkLL (eChs l):=bulkLL_mem (List.mem_map.2 ⟨v,hv,rfl⟩)
 exact ch_cok (c:=v) (by show bulkL (chds v)<=_;omega)
end Go.Proofs
end
section
namespace Go.Proofs
open Go.Bi
abbrev T.ca:TypeId:=45
theorem cells_ca:Tryz.prog.cellsOf T.ca=9:=by kernel_rfl
theorem cells_tb2:Tryz.prog.cellsOf T.tb=5:=by kernel_rfl
theorem cells_chs:Tryz.prog.cellsOf T.chs=1:=by kernel_rfl
theorem cells_vals:Tryz.prog.cellsOf T.vals=1:=by kernel_rfl
abbrev caL(x:TD)(d:D)(a b:Int)(dr:D):List D:=[.str x.t.nm,x.dc,x.dk,x.df,x.dx,d,eI a,eI b,dr]
theorem wt_ca{ds:List D}(h:WT Tryz.prog T.ca ds):∃(x:TD)(l:List Ch)(d:D)(a b:Int)(row:List Vl)(dr:D),ds=caL x d a b dr/\(SlD x.dc (eCs x.t.cs)/\SlD x.dk (eIs x.t.ks)/\SlD x.df (eFs x.t.fs)/\SlD x.dx (xL x.t.xs)/\x.t.Rg)/\SlD d (eChs l)/\SlD dr (eVs row):=by
 obtain⟨hl,hf⟩:=h.st' Tryz.underlying45
 rw[cells_ca] at hl
 match ds,hl with
 |[d0,d1,d2,d3,d4,d5,d6,d7,d8],_=>
  have h0:=hf _ (List.mem_cons_self ..)
  have h1:=hf _ (List.mem_cons_of_mem _ (List.mem_cons_self ..))
  have h2:=hf _ (List.mem_cons_of_mem _ (List.mem_cons_of_mem _ (List.mem_cons_self ..)))
  have h3:=hf _ (List.mem_cons_of_mem _ (List.mem_cons_of_mem _ (List.mem_cons_of_mem _ (List.mem_cons_self ..))))
  have h4:=hf _ (List.mem_cons_of_mem _ (List.mem_cons_of_mem _ (List.mem_cons_of_mem _ (List.mem_cons_of_mem _ (List.mem_cons_self ..)))))
  dsimp only at h0 h1 h2 h3 h4
  rw[cells_tb2] at h0
  rw[cells_chs] at h1
  rw[cells_int] at h2 h3
  rw[cells_vals] at h4
  obtain⟨x,h0,hx⟩:=wt_td h0
  obtain⟨d,l,h1,hl⟩:=wt_chs h1
  obtain⟨a,h2⟩:=wt_int h2
  obtain⟨b,h3⟩:=wt_int h3
  obtain⟨dr,row,h4,hr⟩:=wt_vals h4
  simp at h0 h1 h2 h3 h4
  obtain⟨e0,e1,e2,e3,e4⟩:=h0
  exact⟨x,l,d,a,b,row,dr,by rw[e0,e1,e2,e3,e4,h1,h2,h3,h4],hx,hl,hr⟩
theorem av_ca(x:TD)(d:D)(a b:Int)(dr:D):avOf Tryz.prog T.ca (caL x d a b dr)=caD x d a b dr:=by unfold avOf;rw[Tryz.underlying45];rfl
theorem ca_ok{x:TD}{l:List Ch}{d:D}{a b:Int}{row:List Vl}{dr:D}(hb:bulkL (caL x d a b dr)<=1048576)(hx:SlD x.dc (eCs x.t.cs)/\SlD x.dk (eIs x.t.ks)/\SlD x.df (eFs x.t.fs)/\SlD x.dx (xL x.t.xs)/\x.t.Rg)(hl:SlD d (eChs l))(hr:SlD dr (eVs row)) :
  x.ok/\(l.length<=1048576/\∀c∈l,Cok c)/\row.length<=1048576/\∀v∈row,v.s.length<=1048576:=by
 have h1:bulkL x.ds<=1048576:=by simp only[bulkL] at hb ⊢;omega
 have h2:bulkL [d]<=1048576:=by simp only[bulkL] at hb ⊢;omega
 have h3:bulkL [dr]<=1048576:=by simp only[bulkL] at hb ⊢;omega
 have hv:=vals_bulk hr
 exact⟨td_ok h1 hx,chs_bulk hl h2,by omega,λv hm=>Nat.le_trans (hv.2 v hm) h3⟩
end Go.Proofs
end
