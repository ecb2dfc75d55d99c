/- Texts of this claim, joined. No condition. -/
import Derived.Test.YthaildbjjlpdgaaGreatQ2
set_option linter.unusedSimpArgs false
set_option linter.unusedVariables false
set_option maxRecDepth 10000
set_option maxHeartbeats 4000000
section
namespace Go.Bi
structure WeakL(n nb:Nat)(L:Sl)(os:List AO)(L2:Sl)(os2:List AO):Prop where
 un:Weak n nb (ofL L) os (ofL L2) os2
theorem WeakL.frz{n nb:Nat}{L L2:Sl}{os os2:List AO}(t:Nat){id len sz frz:Nat}{nl:Bool}{es:List (List D)}(ht:ofL L t=.arr id len)(ho:os[id]?=some (.arr es sz frz nl))(hl:len=es.length)
  (k:WeakL n nb ((t,.d (if nl then .nil else .sl es))::L) (os.set id (.arr es sz es.length nl)) L2 os2):WeakL n nb L os L2 os2:=by
 have hw:=weak_frz (n:=n) (nb:=nb) (ρ:=ofL L) (os:=os) t ht ho hl
 rw[ofL_cons] at hw
 exact⟨hw.trans k.un⟩
theorem WeakL.refl{n nb:Nat}{L:Sl}{os:List AO}:WeakL n nb L os L os:=⟨λc M G w a h=>⟨M,G,h⟩⟩
theorem x_exitW{P:Program}{n nb:Nat}{cd:IC}{N:Sl->List AO->Prop}{E0:Nat->Sl->List AO->Prop}{R:Sl->List AO->Prop}{L:Sl}{os:List AO}
  (h:LoopX P n nb cd N (λi L os=>∃L2 os2,WeakL n nb L os L2 os2/\E0 i L2 os2) R L os):LoopX P n nb cd N E0 R L os:=by
 refine⟨λcode hc c M G w a hR=>wp_mono (h.h code hc c M G w a hR) λe a' w' hp=>?_⟩
 cases e with
 |exit id=>
  obtain⟨M',G',os',ρ',hR',L1,rfl,L2,os2,hw,he⟩:=hp
  obtain⟨M2,G2,hR2⟩:=hw.un c M' G' w' a' hR'
  exact⟨M2,G2,os2,_,hR2,L2,rfl,he⟩
 |normal=>exact hp
 |ret=>exact hp
 |_=>exact hp.elim
end Go.Bi
namespace Go.Proofs
open Go.Bi
def rdFa(x:Fa):Fa:=⟨false,x.r,x.a,x.b⟩
def rdDe(x:De):De:=⟨x.tb,true,x.cl,true,x.op.map rdFa⟩
def rdFk(x:Fk):Fk:=⟨true,x.cs,x.tb⟩
theorem ng_e(l:List (List D)):(if l.isEmpty then D.nil else D.sl l)=ng true l:=by
 unfold ng
 cases l.isEmpty<;>rfl
theorem flat_split{α:Type}{f:α->List UInt8}{l:List α}{i:Nat}{x:α}(h:l[i]?=some x):l.flatMap f=(l.take i).flatMap f++(f x++(l.drop (i+1)).flatMap f):=by
 rw[<- List.append_assoc,<- flat_take h,<- List.flatMap_append,List.take_append_drop]
theorem C.get_int(l:List Int)(enc:Int->List UInt8)(f:FuncId)(hl:l.length<=1048576)(B:List UInt8)(hB:B.length<=1073741824)(a:Nat)(post:List UInt8)(hd:B.drop a=encL enc l++post)
  (hone:∀x∈l,∀(a:Nat) (post:List UInt8),B.drop a=enc x++post->Rd f [] B a (.d (eI x)) (a+(enc x).length)):Rd N.record_get_int [.d (.fn f)] B a (.d (ng true (eIs l))) (a+(encL enc l).length):=by
 have hd1:B.drop a=encI l.length++(l.flatMap enc++post):=by rw[hd,encL,List.append_assoc]
 have h0:=C.source_int B hB a l.length ⟨by omega,by omega⟩ _ hd1
 have hd2:=drop_more hd1
 have hone':=λx hx a post hd os=>Rd.at (hone x hx a post hd) rfl rfl 0 os
 clear hone
 rw[encL,List.length_append,<- Nat.add_assoc]
 obtain⟨p,hp⟩:∃p,p=a+(encI l.length).length:=⟨_,rfl⟩
 rw[<- hp] at h0 hd2 ⊢
 unfold Rd SR at h0 hone' ⊢
 obtain⟨Z,hZ⟩:∃z,z=byteL B:=⟨_,rfl⟩
 rw[<- hZ] at h0 hone' ⊢
 refine CallSpec.drop 1 rfl (Q:=λr os=>r=.d (ng true (eIs l))/\os.take 1=[.cells [.d (.sl Z),.d (eI (p+(l.flatMap enc).length:Nat)),.d (eI 0)]]) ?_ (λr os hq=>by obtain⟨rfl,hq⟩:=hq;rw[hq];exact⟨rfl,rfl,rfl,rfl⟩)
 refine F.record_get_int.goX mixed rfl ?_
 repeat' first|refine st ?_|((with_reducible apply go_i);conv=>whnf)|((with_reducible first|apply k_nc|apply k_cs);(·exact h0);(try rintro _ _ ⟨rfl,rfl⟩))|((with_reducible apply k_pr);(·exact h0))|refine⟨λ_=>?_,λ_=>?_⟩|fail
 refine x_nil 6 1 rfl rfl ?_
 refine x_exitW ?_
 refine x_loop3 mixed Lt.record_get_int_l0 Lk.record_get_int_l0 (λ(i q:Nat) (A:List (List D))=>[.arr 1 A.length,.d (eI i)]) (λi q A=>[.cells [.d (.sl Z),.d (eI q),.d (eI 0)],.arr A 1 0 A.isEmpty]) (λi q A=>i<=l.length/\q=p+((l.take i).flatMap enc).length/\A=eIs (l.take i)) (λi q A=>l.length-i) 0 p [] rfl rfl rfl rfl (λ_ _ _ _=>⟨rfl,rfl⟩) rfl ⟨by omega,by simp,by simp[eIs]⟩ ?_
 repeat' first|refine st ?_|((with_reducible apply go_i);conv=>whnf)|refine⟨λ_=>?_,λ_=>?_⟩|fail
 intro i q A ⟨i1,i2,i3⟩
 have hAl:A.length=i:=by rw[i3,eIs_len];simp;omega
 by_cases hi:i<l.length
 ·obtain⟨x,hx⟩:∃x,l[i]?=some x:=⟨_,List.getElem?_eq_getElem hi⟩
  have htk:=flat_take (f:=enc) hx
  have hdr:B.drop q=enc x++((l.drop (i+1)).flatMap enc++post):=by
   rw[flat_split hx,List.append_assoc] at hd2
   rw[i2,drop_more hd2,List.append_assoc]
  have hc:=hone' x (List.mem_of_getElem? hx) q _ hdr
  have hAx:A++[[eI x]]=eIs (l.take (i+1)):=by
   rw[i3,List.take_add_one]
   simp[eIs,hx]
  obtain⟨y,hy⟩:∃y,y=q+(enc x).length:=⟨_,rfl⟩
  rw[<- hy] at hc
  repeat' first|refine st ?_|((with_reducible apply go_i);conv=>whnf)|((with_reducible first|apply k_nc|apply k_cs);(·exact hc _ rfl);(try rintro _ _ ⟨rfl,rfl⟩))|((with_reducible apply k_pr);(·exact hc _ rfl))|refine⟨λ_=>?_,λ_=>?_⟩|fail
  all_goals exact⟨i+1,y,A++[_],by simp,by simp,by simp,by omega,by omega,by rw[htk,List.length_append,hy,i2,Nat.add_assoc],hAx⟩
 ·have hi:i=l.length:=by omega
  subst hi
  have hAe:A=eIs l:=by rw[i3,List.take_of_length_le (by simp)]
  rw[List.take_length] at i2
  repeat' first|refine st ?_|((with_reducible apply go_i);conv=>whnf)|refine⟨λ_=>?_,λ_=>?_⟩|fail
  refine⟨_,_,WeakL.frz 6 rfl rfl rfl WeakL.refl,?_⟩
  rw[ng_e]
  refine go_o ?_
  repeat' first|refine st ?_|((with_reducible apply go_i);conv=>whnf)|refine⟨λ_=>?_,λ_=>?_⟩|fail
  all_goals (subst hAe;rw[i2];exact⟨rfl,rfl⟩)
theorem C.get_string(l:List (List UInt8))(enc:(List UInt8)->List UInt8)(f:FuncId)(hl:l.length<=1048576)(B:List UInt8)(hB:B.length<=1073741824)(a:Nat)(post:List UInt8)(hd:B.drop a=encL enc l++post)
  (hone:∀x∈l,∀(a:Nat) (post:List UInt8),B.drop a=enc x++post->Rd f [] B a (.d (.str x)) (a+(enc x).length)):Rd N.record_get_string [.d (.fn f)] B a (.d (ng true (eSt l))) (a+(encL enc l).length):=by
 have hd1:B.drop a=encI l.length++(l.flatMap enc++post):=by rw[hd,encL,List.append_assoc]
 have h0:=C.source_int B hB a l.length ⟨by omega,by omega⟩ _ hd1
 have hd2:=drop_more hd1
 have hone':=λx hx a post hd os=>Rd.at (hone x hx a post hd) rfl rfl 0 os
 clear hone
 rw[encL,List.length_append,<- Nat.add_assoc]
 obtain⟨p,hp⟩:∃p,p=a+(encI l.length).length:=⟨_,rfl⟩
 rw[<- hp] at h0 hd2 ⊢
 unfold Rd SR at h0 hone' ⊢
 obtain⟨Z,hZ⟩:∃z,z=byteL B:=⟨_,rfl⟩
 rw[<- hZ] at h0 hone' ⊢
 refine CallSpec.drop 1 rfl (Q:=λr os=>r=.d (ng true (eSt l))/\os.take 1=[.cells [.d (.sl Z),.d (eI (p+(l.flatMap enc).length:Nat)),.d (eI 0)]]) ?_ (λr os hq=>by obtain⟨rfl,hq⟩:=hq;rw[hq];exact⟨rfl,rfl,rfl,rfl⟩)
 refine F.record_get_string.goX mixed rfl ?_
 repeat' first|refine st ?_|((with_reducible apply go_i);conv=>whnf)|((with_reducible first|apply k_nc|apply k_cs);(·exact h0);(try rintro _ _ ⟨rfl,rfl⟩))|((with_reducible apply k_pr);(·exact h0))|refine⟨λ_=>?_,λ_=>?_⟩|fail
 refine x_nil 6 1 rfl rfl ?_
 refine x_exitW ?_
 refine x_loop3 mixed Lt.record_get_string_l0 Lk.record_get_string_l0 (λ(i q:Nat) (A:List (List D))=>[.arr 1 A.length,.d (eI i)]) (λi q A=>[.cells [.d (.sl Z),.d (eI q),.d (eI 0)],.arr A 1 0 A.isEmpty]) (λi q A=>i<=l.length/\q=p+((l.take i).flatMap enc).length/\A=eSt (l.take i)) (λi q A=>l.length-i) 0 p [] rfl rfl rfl rfl (λ_ _ _ _=>⟨rfl,rfl⟩) rfl ⟨by omega,by simp,by simp[eSt]⟩ ?_
 repeat' first|refine st ?_|((with_reducible apply go_i);conv=>whnf)|refine⟨λ_=>?_,λ_=>?_⟩|fail
 intro i q A ⟨i1,i2,i3⟩
 have hAl:A.length=i:=by rw[i3,eSt_len];simp;omega
 by_cases hi:i<l.length
 ·obtain⟨x,hx⟩:∃x,l[i]?=some x:=⟨_,List.getElem?_eq_getElem hi⟩
  have htk:=flat_take (f:=enc) hx
  have hdr:B.drop q=enc x++((l.drop (i+1)).flatMap enc++post):=by
   rw[flat_split hx,List.append_assoc] at hd2
   rw[i2,drop_more hd2,List.append_assoc]
  have hc:=hone' x (List.mem_of_getElem? hx) q _ hdr
  have hAx:A++[[.str x]]=eSt (l.take (i+1)):=by
   rw[i3,List.take_add_one]
   simp[eSt,hx]
  obtain⟨y,hy⟩:∃y,y=q+(enc x).length:=⟨_,rfl⟩
  rw[<- hy] at hc
  repeat' first|refine st ?_|((with_reducible apply go_i);conv=>whnf)|((with_reducible first|apply k_nc|apply k_cs);(·exact hc _ rfl);(try rintro _ _ ⟨rfl,rfl⟩))|((with_reducible apply k_pr);(·exact hc _ rfl))|refine⟨λ_=>?_,λ_=>?_⟩|fail
  all_goals exact⟨i+1,y,A++[_],by simp,by simp,by simp,by omega,by omega,by rw[htk,List.length_append,hy,i2,Nat.add_assoc],hAx⟩
 ·have hi:i=l.length:=by omega
  subst hi
  have hAe:A=eSt l:=by rw[i3,List.take_of_length_le (by simp)]
  rw[List.take_length] at i2
  repeat' first|refine st ?_|((with_reducible apply go_i);conv=>whnf)|refine⟨λ_=>?_,λ_=>?_⟩|fail
  refine⟨_,_,WeakL.frz 6 rfl rfl rfl WeakL.refl,?_⟩
  rw[ng_e]
  refine go_o ?_
  repeat' first|refine st ?_|((with_reducible apply go_i);conv=>whnf)|refine⟨λ_=>?_,λ_=>?_⟩|fail
  all_goals (subst hAe;rw[i2];exact⟨rfl,rfl⟩)
theorem C.get_Column(l:List Co)(enc:Co->List UInt8)(f:FuncId)(hl:l.length<=1048576)(B:List UInt8)(hB:B.length<=1073741824)(a:Nat)(post:List UInt8)(hd:B.drop a=encL enc l++post)
  (hone:∀x∈l,∀(a:Nat) (post:List UInt8),B.drop a=enc x++post->Rd f [] B a (av (x).ds) (a+(enc x).length)):Rd N.record_get_api_Column [.d (.fn f)] B a (.d (ng true (eCs l))) (a+(encL enc l).length):=by
 have hd1:B.drop a=encI l.length++(l.flatMap enc++post):=by rw[hd,encL,List.append_assoc]
 have h0:=C.source_int B hB a l.length ⟨by omega,by omega⟩ _ hd1
 have hd2:=drop_more hd1
 have hone':=λx hx a post hd os=>Rd.at (hone x hx a post hd) rfl rfl 0 os
 clear hone
 rw[encL,List.length_append,<- Nat.add_assoc]
 obtain⟨p,hp⟩:∃p,p=a+(encI l.length).length:=⟨_,rfl⟩
 rw[<- hp] at h0 hd2 ⊢
 unfold Rd SR at h0 hone' ⊢
 obtain⟨Z,hZ⟩:∃z,z=byteL B:=⟨_,rfl⟩
 rw[<- hZ] at h0 hone' ⊢
 refine CallSpec.drop 1 rfl (Q:=λr os=>r=.d (ng true (eCs l))/\os.take 1=[.cells [.d (.sl Z),.d (eI (p+(l.flatMap enc).length:Nat)),.d (eI 0)]]) ?_ (λr os hq=>by obtain⟨rfl,hq⟩:=hq;rw[hq];exact⟨rfl,rfl,rfl,rfl⟩)
 refine F.record_get_api_Column.goX mixed rfl ?_
 repeat' first|refine st ?_|((with_reducible apply go_i);conv=>whnf)|((with_reducible first|apply k_nc|apply k_cs);(·exact h0);(try rintro _ _ ⟨rfl,rfl⟩))|((with_reducible apply k_pr);(·exact h0))|refine⟨λ_=>?_,λ_=>?_⟩|fail
 refine x_nil 6 3 rfl rfl ?_
 refine x_exitW ?_
 refine x_loop3 mixed Lt.record_get_api_Column_l0 Lk.record_get_api_Column_l0 (λ(i q:Nat) (A:List (List D))=>[.arr 1 A.length,.d (eI i)]) (λi q A=>[.cells [.d (.sl Z),.d (eI q),.d (eI 0)],.arr A 3 0 A.isEmpty]) (λi q A=>i<=l.length/\q=p+((l.take i).flatMap enc).length/\A=eCs (l.take i)) (λi q A=>l.length-i) 0 p [] rfl rfl rfl rfl (λ_ _ _ _=>⟨rfl,rfl⟩) rfl ⟨by omega,by simp,by simp[eCs]⟩ ?_
 repeat' first|refine st ?_|((with_reducible apply go_i);conv=>whnf)|refine⟨λ_=>?_,λ_=>?_⟩|fail
 intro i q A ⟨i1,i2,i3⟩
 have hAl:A.length=i:=by rw[i3,eCs_len];simp;omega
 by_cases hi:i<l.length
 ·obtain⟨x,hx⟩:∃x,l[i]?=some x:=⟨_,List.getElem?_eq_getElem hi⟩
  have htk:=flat_take (f:=enc) hx
  have hdr:B.drop q=enc x++((l.drop (i+1)).flatMap enc++post):=by
   rw[flat_split hx,List.append_assoc] at hd2
   rw[i2,drop_more hd2,List.append_assoc]
  have hc:=hone' x (List.mem_of_getElem? hx) q _ hdr
  have hAx:A++[x.ds]=eCs (l.take (i+1)):=by
   rw[i3,List.take_add_one]
   simp[eCs,hx]
  obtain⟨y,hy⟩:∃y,y=q+(enc x).length:=⟨_,rfl⟩
  rw[<- hy] at hc
  repeat' first|refine st ?_|((with_reducible apply go_i);conv=>whnf)|((with_reducible first|apply k_nc|apply k_cs);(·exact hc _ rfl);(try rintro _ _ ⟨rfl,rfl⟩))|((with_reducible apply k_pr);(·exact hc _ rfl))|refine⟨λ_=>?_,λ_=>?_⟩|fail
  all_goals exact⟨i+1,y,A++[_],by simp,by simp,by simp,by omega,by omega,by rw[htk,List.length_append,hy,i2,Nat.add_assoc],hAx⟩
 ·have hi:i=l.length:=by omega
  subst hi
  have hAe:A=eCs l:=by rw[i3,List.take_of_length_le (by simp)]
  rw[List.take_length] at i2
  repeat' first|refine st ?_|((with_reducible apply go_i);conv=>whnf)|refine⟨λ_=>?_,λ_=>?_⟩|fail
  refine⟨_,_,WeakL.frz 6 rfl rfl rfl WeakL.refl,?_⟩
  rw[ng_e]
  refine go_o ?_
  repeat' first|refine st ?_|((with_reducible apply go_i);conv=>whnf)|refine⟨λ_=>?_,λ_=>?_⟩|fail
  all_goals (subst hAe;rw[i2];exact⟨rfl,rfl⟩)
theorem C.get_Policy(l:List Pk)(enc:Pk->List UInt8)(f:FuncId)(hl:l.length<=1048576)(B:List UInt8)(hB:B.length<=1073741824)(a:Nat)(post:List UInt8)(hd:B.drop a=encL enc l++post)
  (hone:∀x∈l,∀(a:Nat) (post:List UInt8),B.drop a=enc x++post->Rd f [] B a (av (x).ds) (a+(enc x).length)):Rd N.record_get_api_Policy [.d (.fn f)] B a (.d (ng true (ePk l))) (a+(encL enc l).length):=by
 have hd1:B.drop a=encI l.length++(l.flatMap enc++post):=by rw[hd,encL,List.append_assoc]
 have h0:=C.source_int B hB a l.length ⟨by omega,by omega⟩ _ hd1
 have hd2:=drop_more hd1
 have hone':=λx hx a post hd os=>Rd.at (hone x hx a post hd) rfl rfl 0 os
 clear hone
 rw[encL,List.length_append,<- Nat.add_assoc]
 obtain⟨p,hp⟩:∃p,p=a+(encI l.length).length:=⟨_,rfl⟩
 rw[<- hp] at h0 hd2 ⊢
 unfold Rd SR at h0 hone' ⊢
 obtain⟨Z,hZ⟩:∃z,z=byteL B:=⟨_,rfl⟩
 rw[<- hZ] at h0 hone' ⊢
 refine CallSpec.drop 1 rfl (Q:=λr os=>r=.d (ng true (ePk l))/\os.take 1=[.cells [.d (.sl Z),.d (eI (p+(l.flatMap enc).length:Nat)),.d (eI 0)]]) ?_ (λr os hq=>by obtain⟨rfl,hq⟩:=hq;rw[hq];exact⟨rfl,rfl,rfl,rfl⟩)
 refine F.record_get_api_Policy.goX mixed rfl ?_
 repeat' first|refine st ?_|((with_reducible apply go_i);conv=>whnf)|((with_reducible first|apply k_nc|apply k_cs);(·exact h0);(try rintro _ _ ⟨rfl,rfl⟩))|((with_reducible apply k_pr);(·exact h0))|refine⟨λ_=>?_,λ_=>?_⟩|fail
 refine x_nil 6 2 rfl rfl ?_
 refine x_exitW ?_
 refine x_loop3 mixed Lt.record_get_api_Policy_l0 Lk.record_get_api_Policy_l0 (λ(i q:Nat) (A:List (List D))=>[.arr 1 A.length,.d (eI i)]) (λi q A=>[.cells [.d (.sl Z),.d (eI q),.d (eI 0)],.arr A 2 0 A.isEmpty]) (λi q A=>i<=l.length/\q=p+((l.take i).flatMap enc).length/\A=ePk (l.take i)) (λi q A=>l.length-i) 0 p [] rfl rfl rfl rfl (λ_ _ _ _=>⟨rfl,rfl⟩) rfl ⟨by omega,by simp,by simp[ePk]⟩ ?_
 repeat' first|refine st ?_|((with_reducible apply go_i);conv=>whnf)|refine⟨λ_=>?_,λ_=>?_⟩|fail
 intro i q A ⟨i1,i2,i3⟩
 have hAl:A.length=i:=by rw[i3,ePk_len];simp;omega
 by_cases hi:i<l.length
 ·obtain⟨x,hx⟩:∃x,l[i]?=some x:=⟨_,List.getElem?_eq_getElem hi⟩
  have htk:=flat_take (f:=enc) hx
  have hdr:B.drop q=enc x++((l.drop (i+1)).flatMap enc++post):=by
   rw[flat_split hx,List.append_assoc] at hd2
   rw[i2,drop_more hd2,List.append_assoc]
  have hc:=hone' x (List.mem_of_getElem? hx) q _ hdr
  have hAx:A++[x.ds]=ePk (l.take (i+1)):=by
   rw[i3,List.take_add_one]
   simp[ePk,hx]
  obtain⟨y,hy⟩:∃y,y=q+(enc x).length:=⟨_,rfl⟩
  rw[<- hy] at hc
  repeat' first|refine st ?_|((with_reducible apply go_i);conv=>whnf)|((with_reducible first|apply k_nc|apply k_cs);(·exact hc _ rfl);(try rintro _ _ ⟨rfl,rfl⟩))|((with_reducible apply k_pr);(·exact hc _ rfl))|refine⟨λ_=>?_,λ_=>?_⟩|fail
  all_goals exact⟨i+1,y,A++[_],by simp,by simp,by simp,by omega,by omega,by rw[htk,List.length_append,hy,i2,Nat.add_assoc],hAx⟩
 ·have hi:i=l.length:=by omega
  subst hi
  have hAe:A=ePk l:=by rw[i3,List.take_of_length_le (by simp)]
  rw[List.take_length] at i2
  repeat' first|refine st ?_|((with_reducible apply go_i);conv=>whnf)|refine⟨λ_=>?_,λ_=>?_⟩|fail
  refine⟨_,_,WeakL.frz 6 rfl rfl rfl WeakL.refl,?_⟩
  rw[ng_e]
  refine go_o ?_
  repeat' first|refine st ?_|((with_reducible apply go_i);conv=>whnf)|refine⟨λ_=>?_,λ_=>?_⟩|fail
  all_goals (subst hAe;rw[i2];exact⟨rfl,rfl⟩)
theorem C.get_Horizon(l:List Pk)(enc:Pk->List UInt8)(f:FuncId)(hl:l.length<=1048576)(B:List UInt8)(hB:B.length<=1073741824)(a:Nat)(post:List UInt8)(hd:B.drop a=encL enc l++post)
  (hone:∀x∈l,∀(a:Nat) (post:List UInt8),B.drop a=enc x++post->Rd f [] B a (av (x).ds) (a+(enc x).length)):Rd N.record_get_api_Horizon [.d (.fn f)] B a (.d (ng true (ePk l))) (a+(encL enc l).length):=by
 have hd1:B.drop a=encI l.length++(l.flatMap enc++post):=by rw[hd,encL,List.append_assoc]
 have h0:=C.source_int B hB a l.length ⟨by omega,by omega⟩ _ hd1
 have hd2:=drop_more hd1
 have hone':=λx hx a post hd os=>Rd.at (hone x hx a post hd) rfl rfl 0 os
 clear hone
 rw[encL,List.length_append,<- Nat.add_assoc]
 obtain⟨p,hp⟩:∃p,p=a+(encI l.length).length:=⟨_,rfl⟩
 rw[<- hp] at h0 hd2 ⊢
 unfold Rd SR at h0 hone' ⊢
 obtain⟨Z,hZ⟩:∃z,z=byteL B:=⟨_,rfl⟩
 rw[<- hZ] at h0 hone' ⊢
 refine CallSpec.drop 1 rfl (Q:=λr os=>r=.d (ng true (ePk l))/\os.take 1=[.cells [.d (.sl Z),.d (eI (p+(l.flatMap enc).length:Nat)),.d (eI 0)]]) ?_ (λr os hq=>by obtain⟨rfl,hq⟩:=hq;rw[hq];exact⟨rfl,rfl,rfl,rfl⟩)
 refine F.record_get_api_Horizon.goX mixed rfl ?_
 repeat' first|refine st ?_|((with_reducible apply go_i);conv=>whnf)|((with_reducible first|apply k_nc|apply k_cs);(·exact h0);(try rintro _ _ ⟨rfl,rfl⟩))|((with_reducible apply k_pr);(·exact h0))|refine⟨λ_=>?_,λ_=>?_⟩|fail
 refine x_nil 6 2 rfl rfl ?_
 refine x_exitW ?_
 refine x_loop3 mixed Lt.record_get_api_Horizon_l0 Lk.record_get_api_Horizon_l0 (λ(i q:Nat) (A:List (List D))=>[.arr 1 A.length,.d (eI i)]) (λi q A=>[.cells [.d (.sl Z),.d (eI q),.d (eI 0)],.arr A 2 0 A.isEmpty]) (λi q A=>i<=l.length/\q=p+((l.take i).flatMap enc).length/\A=ePk (l.take i)) (λi q A=>l.length-i) 0 p [] rfl rfl rfl rfl (λ_ _ _ _=>⟨rfl,rfl⟩) rfl ⟨by omega,by simp,by simp[ePk]⟩ ?_
 repeat' first|refine st ?_|((with_reducible apply go_i);conv=>whnf)|refine⟨λ_=>?_,λ_=>?_⟩|fail
 intro i q A ⟨i1,i2,i3⟩
 have hAl:A.length=i:=by rw[i3,ePk_len];simp;omega
 by_cases hi:i<l.length
 ·obtain⟨x,hx⟩:∃x,l[i]?=some x:=⟨_,List.getElem?_eq_getElem hi⟩
  have htk:=flat_take (f:=enc) hx
  have hdr:B.drop q=enc x++((l.drop (i+1)).flatMap enc++post):=by
   rw[flat_split hx,List.append_assoc] at hd2
   rw[i2,drop_more hd2,List.append_assoc]
  have hc:=hone' x (List.mem_of_getElem? hx) q _ hdr
  have hAx:A++[x.ds]=ePk (l.take (i+1)):=by
   rw[i3,List.take_add_one]
   simp[ePk,hx]
  obtain⟨y,hy⟩:∃y,y=q+(enc x).length:=⟨_,rfl⟩
  rw[<- hy] at hc
  repeat' first|refine st ?_|((with_reducible apply go_i);conv=>whnf)|((with_reducible first|apply k_nc|apply k_cs);(·exact hc _ rfl);(try rintro _ _ ⟨rfl,rfl⟩))|((with_reducible apply k_pr);(·exact hc _ rfl))|refine⟨λ_=>?_,λ_=>?_⟩|fail
  all_goals exact⟨i+1,y,A++[_],by simp,by simp,by simp,by omega,by omega,by rw[htk,List.length_append,hy,i2,Nat.add_assoc],hAx⟩
 ·have hi:i=l.length:=by omega
  subst hi
  have hAe:A=ePk l:=by rw[i3,List.take_of_length_le (by simp)]
  rw[List.take_length] at i2
  repeat' first|refine st ?_|((with_reducible apply go_i);conv=>whnf)|refine⟨λ_=>?_,λ_=>?_⟩|fail
  refine⟨_,_,WeakL.frz 6 rfl rfl rfl WeakL.refl,?_⟩
  rw[ng_e]
  refine go_o ?_
  repeat' first|refine st ?_|((with_reducible apply go_i);conv=>whnf)|refine⟨λ_=>?_,λ_=>?_⟩|fail
  all_goals (subst hAe;rw[i2];exact⟨rfl,rfl⟩)
theorem C.get_Hold(l:List Ho)(enc:Ho->List UInt8)(f:FuncId)(hl:l.length<=1048576)(B:List UInt8)(hB:B.length<=1073741824)(a:Nat)(post:List UInt8)(hd:B.drop a=encL enc l++post)
  (hone:∀x∈l,∀(a:Nat) (post:List UInt8),B.drop a=enc x++post->Rd f [] B a (av (x).ds) (a+(enc x).length)):Rd N.record_get_api_Hold [.d (.fn f)] B a (.d (ng true (eHo l))) (a+(encL enc l).length):=by
 have hd1:B.drop a=encI l.length++(l.flatMap enc++post):=by rw[hd,encL,List.append_assoc]
 have h0:=C.source_int B hB a l.length ⟨by omega,by omega⟩ _ hd1
 have hd2:=drop_more hd1
 have hone':=λx hx a post hd os=>Rd.at (hone x hx a post hd) rfl rfl 0 os
 clear hone
 rw[encL,List.length_append,<- Nat.add_assoc]
 obtain⟨p,hp⟩:∃p,p=a+(encI l.length).length:=⟨_,rfl⟩
 rw[<- hp] at h0 hd2 ⊢
 unfold Rd SR at h0 hone' ⊢
 obtain⟨Z,hZ⟩:∃z,z=byteL B:=⟨_,rfl⟩
 rw[<- hZ] at h0 hone' ⊢
 refine CallSpec.drop 1 rfl (Q:=λr os=>r=.d (ng true (eHo l))/\os.take 1=[.cells [.d (.sl Z),.d (eI (p+(l.flatMap enc).length:Nat)),.d (eI 0)]]) ?_ (λr os hq=>by obtain⟨rfl,hq⟩:=hq;rw[hq];exact⟨rfl,rfl,rfl,rfl⟩)
 refine F.record_get_api_Hold.goX mixed rfl ?_
 repeat' first|refine st ?_|((with_reducible apply go_i);conv=>whnf)|((with_reducible first|apply k_nc|apply k_cs);(·exact h0);(try rintro _ _ ⟨rfl,rfl⟩))|((with_reducible apply k_pr);(·exact h0))|refine⟨λ_=>?_,λ_=>?_⟩|fail
 refine x_nil 6 6 rfl rfl ?_
 refine x_exitW ?_
 refine x_loop3 mixed Lt.record_get_api_Hold_l0 Lk.record_get_api_Hold_l0 (λ(i q:Nat) (A:List (List D))=>[.arr 1 A.length,.d (eI i)]) (λi q A=>[.cells [.d (.sl Z),.d (eI q),.d (eI 0)],.arr A 6 0 A.isEmpty]) (λi q A=>i<=l.length/\q=p+((l.take i).flatMap enc).length/\A=eHo (l.take i)) (λi q A=>l.length-i) 0 p [] rfl rfl rfl rfl (λ_ _ _ _=>⟨rfl,rfl⟩) rfl ⟨by omega,by simp,by simp[eHo]⟩ ?_
 repeat' first|refine st ?_|((with_reducible apply go_i);conv=>whnf)|refine⟨λ_=>?_,λ_=>?_⟩|fail
 intro i q A ⟨i1,i2,i3⟩
 have hAl:A.length=i:=by rw[i3,eHo_len];simp;omega
 by_cases hi:i<l.length
 ·obtain⟨x,hx⟩:∃x,l[i]?=some x:=⟨_,List.getElem?_eq_getElem hi⟩
  have htk:=flat_take (f:=enc) hx
  have hdr:B.drop q=enc x++((l.drop (i+1)).flatMap enc++post):=by
   rw[flat_split hx,List.append_assoc] at hd2
   rw[i2,drop_more hd2,List.append_assoc]
  have hc:=hone' x (List.mem_of_getElem? hx) q _ hdr
  have hAx:A++[x.ds]=eHo (l.take (i+1)):=by
   rw[i3,List.take_add_one]
   simp[eHo,hx]
  obtain⟨y,hy⟩:∃y,y=q+(enc x).length:=⟨_,rfl⟩
  rw[<- hy] at hc
  repeat' first|refine st ?_|((with_reducible apply go_i);conv=>whnf)|((with_reducible first|apply k_nc|apply k_cs);(·exact hc _ rfl);(try rintro _ _ ⟨rfl,rfl⟩))|((with_reducible apply k_pr);(·exact hc _ rfl))|refine⟨λ_=>?_,λ_=>?_⟩|fail
  all_goals exact⟨i+1,y,A++[_],by simp,by simp,by simp,by omega,by omega,by rw[htk,List.length_append,hy,i2,Nat.add_assoc],hAx⟩
 ·have hi:i=l.length:=by omega
  subst hi
  have hAe:A=eHo l:=by rw[i3,List.take_of_length_le (by simp)]
  rw[List.take_length] at i2
  repeat' first|refine st ?_|((with_reducible apply go_i);conv=>whnf)|refine⟨λ_=>?_,λ_=>?_⟩|fail
  refine⟨_,_,WeakL.frz 6 rfl rfl rfl WeakL.refl,?_⟩
  rw[ng_e]
  refine go_o ?_
  repeat' first|refine st ?_|((with_reducible apply go_i);conv=>whnf)|refine⟨λ_=>?_,λ_=>?_⟩|fail
  all_goals (subst hAe;rw[i2];exact⟨rfl,rfl⟩)
theorem C.get_Fact(l:List Fa)(enc:Fa->List UInt8)(f:FuncId)(hl:l.length<=1048576)(B:List UInt8)(hB:B.length<=1073741824)(a:Nat)(post:List UInt8)(hd:B.drop a=encL enc l++post)
  (hone:∀x∈l,∀(a:Nat) (post:List UInt8),B.drop a=enc x++post->Rd f [] B a (av ((rdFa x)).ds) (a+(enc x).length)):Rd N.record_get_api_Fact [.d (.fn f)] B a (.d (ng true (eFa (l.map rdFa)))) (a+(encL enc l).length):=by
 have hd1:B.drop a=encI l.length++(l.flatMap enc++post):=by rw[hd,encL,List.append_assoc]
 have h0:=C.source_int B hB a l.length ⟨by omega,by omega⟩ _ hd1
 have hd2:=drop_more hd1
 have hone':=λx hx a post hd os=>Rd.at (hone x hx a post hd) rfl rfl 0 os
 clear hone
 rw[encL,List.length_append,<- Nat.add_assoc]
 obtain⟨p,hp⟩:∃p,p=a+(encI l.length).length:=⟨_,rfl⟩
 rw[<- hp] at h0 hd2 ⊢
 unfold Rd SR at h0 hone' ⊢
 obtain⟨Z,hZ⟩:∃z,z=byteL B:=⟨_,rfl⟩
 rw[<- hZ] at h0 hone' ⊢
 refine CallSpec.drop 1 rfl (Q:=λr os=>r=.d (ng true (eFa (l.map rdFa)))/\os.take 1=[.cells [.d (.sl Z),.d (eI (p+(l.flatMap enc).length:Nat)),.d (eI 0)]]) ?_ (λr os hq=>by obtain⟨rfl,hq⟩:=hq;rw[hq];exact⟨rfl,rfl,rfl,rfl⟩)
 refine F.record_get_api_Fact.goX mixed rfl ?_
 repeat' first|refine st ?_|((with_reducible apply go_i);conv=>whnf)|((with_reducible first|apply k_nc|apply k_cs);(·exact h0);(try rintro _ _ ⟨rfl,rfl⟩))|((with_reducible apply k_pr);(·exact h0))|refine⟨λ_=>?_,λ_=>?_⟩|fail
 refine x_nil 6 3 rfl rfl ?_
 refine x_exitW ?_
 refine x_loop3 mixed Lt.record_get_api_Fact_l0 Lk.record_get_api_Fact_l0 (λ(i q:Nat) (A:List (List D))=>[.arr 1 A.length,.d (eI i)]) (λi q A=>[.cells [.d (.sl Z),.d (eI q),.d (eI 0)],.arr A 3 0 A.isEmpty]) (λi q A=>i<=l.length/\q=p+((l.take i).flatMap enc).length/\A=eFa ((l.map rdFa).take i)) (λi q A=>l.length-i) 0 p [] rfl rfl rfl rfl (λ_ _ _ _=>⟨rfl,rfl⟩) rfl ⟨by omega,by simp,by simp[eFa]⟩ ?_
 repeat' first|refine st ?_|((with_reducible apply go_i);conv=>whnf)|refine⟨λ_=>?_,λ_=>?_⟩|fail
 intro i q A ⟨i1,i2,i3⟩
 have hAl:A.length=i:=by rw[i3,eFa_len];simp;omega
 by_cases hi:i<l.length
 ·obtain⟨x,hx⟩:∃x,l[i]?=some x:=⟨_,List.getElem?_eq_getElem hi⟩
  have htk:=flat_take (f:=enc) hx
  have hdr:B.drop q=enc x++((l.drop (i+1)).flatMap enc++post):=by
   rw[flat_split hx,List.append_assoc] at hd2
   rw[i2,drop_more hd2,List.append_assoc]
  have hc:=hone' x (List.mem_of_getElem? hx) q _ hdr
  have hAx:A++[(rdFa x).ds]=eFa ((l.map rdFa).take (i+1)):=by
   rw[i3,List.take_add_one]
   simp[eFa,hx]
  obtain⟨y,hy⟩:∃y,y=q+(enc x).length:=⟨_,rfl⟩
  rw[<- hy] at hc
  repeat' first|refine st ?_|((with_reducible apply go_i);conv=>whnf)|((with_reducible first|apply k_nc|apply k_cs);(·exact hc _ rfl);(try rintro _ _ ⟨rfl,rfl⟩))|((with_reducible apply k_pr);(·exact hc _ rfl))|refine⟨λ_=>?_,λ_=>?_⟩|fail
  all_goals exact⟨i+1,y,A++[_],by simp,by simp,by simp,by omega,by omega,by rw[htk,List.length_append,hy,i2,Nat.add_assoc],hAx⟩
 ·have hi:i=l.length:=by omega
  subst hi
  have hAe:A=eFa (l.map rdFa):=by rw[i3,List.take_of_length_le (by simp)]
  rw[List.take_length] at i2
  repeat' first|refine st ?_|((with_reducible apply go_i);conv=>whnf)|refine⟨λ_=>?_,λ_=>?_⟩|fail
  refine⟨_,_,WeakL.frz 6 rfl rfl rfl WeakL.refl,?_⟩
  rw[ng_e]
  refine go_o ?_
  repeat' first|refine st ?_|((with_reducible apply go_i);conv=>whnf)|refine⟨λ_=>?_,λ_=>?_⟩|fail
  all_goals (subst hAe;rw[i2];exact⟨rfl,rfl⟩)
theorem C.get_Delta(l:List De)(enc:De->List UInt8)(f:FuncId)(hl:l.length<=1048576)(B:List UInt8)(hB:B.length<=1073741824)(a:Nat)(post:List UInt8)(hd:B.drop a=encL enc l++post)
  (hone:∀x∈l,∀(a:Nat) (post:List UInt8),B.drop a=enc x++post->Rd f [] B a (av ((rdDe x)).ds) (a+(enc x).length)):Rd N.record_get_api_Delta [.d (.fn f)] B a (.d (ng true (eDe (l.map rdDe)))) (a+(encL enc l).length):=by
 have hd1:B.drop a=encI l.length++(l.flatMap enc++post):=by rw[hd,encL,List.append_assoc]
 have h0:=C.source_int B hB a l.length ⟨by omega,by omega⟩ _ hd1
 have hd2:=drop_more hd1
 have hone':=λx hx a post hd os=>Rd.at (hone x hx a post hd) rfl rfl 0 os
 clear hone
 rw[encL,List.length_append,<- Nat.add_assoc]
 obtain⟨p,hp⟩:∃p,p=a+(encI l.length).length:=⟨_,rfl⟩
 rw[<- hp] at h0 hd2 ⊢
 unfold Rd SR at h0 hone' ⊢
 obtain⟨Z,hZ⟩:∃z,z=byteL B:=⟨_,rfl⟩
 rw[<- hZ] at h0 hone' ⊢
 refine CallSpec.drop 1 rfl (Q:=λr os=>r=.d (ng true (eDe (l.map rdDe)))/\os.take 1=[.cells [.d (.sl Z),.d (eI (p+(l.flatMap enc).length:Nat)),.d (eI 0)]]) ?_ (λr os hq=>by obtain⟨rfl,hq⟩:=hq;rw[hq];exact⟨rfl,rfl,rfl,rfl⟩)
 refine F.record_get_api_Delta.goX mixed rfl ?_
 repeat' first|refine st ?_|((with_reducible apply go_i);conv=>whnf)|((with_reducible first|apply k_nc|apply k_cs);(·exact h0);(try rintro _ _ ⟨rfl,rfl⟩))|((with_reducible apply k_pr);(·exact h0))|refine⟨λ_=>?_,λ_=>?_⟩|fail
 refine x_nil 6 3 rfl rfl ?_
 refine x_exitW ?_
 refine x_loop3 mixed Lt.record_get_api_Delta_l0 Lk.record_get_api_Delta_l0 (λ(i q:Nat) (A:List (List D))=>[.arr 1 A.length,.d (eI i)]) (λi q A=>[.cells [.d (.sl Z),.d (eI q),.d (eI 0)],.arr A 3 0 A.isEmpty]) (λi q A=>i<=l.length/\q=p+((l.take i).flatMap enc).length/\A=eDe ((l.map rdDe).take i)) (λi q A=>l.length-i) 0 p [] rfl rfl rfl rfl (λ_ _ _ _=>⟨rfl,rfl⟩) rfl ⟨by omega,by simp,by simp[eDe]⟩ ?_
 repeat' first|refine st ?_|((with_reducible apply go_i);conv=>whnf)|refine⟨λ_=>?_,λ_=>?_⟩|fail
 intro i q A ⟨i1,i2,i3⟩
 have hAl:A.length=i:=by rw[i3,eDe_len];simp;omega
 by_cases hi:i<l.length
 ·obtain⟨x,hx⟩:∃x,l[i]?=some x:=⟨_,List.getElem?_eq_getElem hi⟩
  have htk:=flat_take (f:=enc) hx
  have hdr:B.drop q=enc x++((l.drop (i+1)).flatMap enc++post):=by
   rw[flat_split hx,List.append_assoc] at hd2
   rw[i2,drop_more hd2,List.append_assoc]
  have hc:=hone' x (List.mem_of_getElem? hx) q _ hdr
  have hAx:A++[(rdDe x).ds]=eDe ((l.map rdDe).take (i+1)):=by
   rw[i3,List.take_add_one]
   simp[eDe,hx]
  obtain⟨y,hy⟩:∃y,y=q+(enc x).length:=⟨_,rfl⟩
  rw[<- hy] at hc
  repeat' first|refine st ?_|((with_reducible apply go_i);conv=>whnf)|((with_reducible first|apply k_nc|apply k_cs);(·exact hc _ rfl);(try rintro _ _ ⟨rfl,rfl⟩))|((with_reducible apply k_pr);(·exact hc _ rfl))|refine⟨λ_=>?_,λ_=>?_⟩|fail
  all_goals exact⟨i+1,y,A++[_],by simp,by simp,by simp,by omega,by omega,by rw[htk,List.length_append,hy,i2,Nat.add_assoc],hAx⟩
 ·have hi:i=l.length:=by omega
  subst hi
  have hAe:A=eDe (l.map rdDe):=by rw[i3,List.take_of_length_le (by simp)]
  rw[List.take_length] at i2
  repeat' first|refine st ?_|((with_reducible apply go_i);conv=>whnf)|refine⟨λ_=>?_,λ_=>?_⟩|fail
  refine⟨_,_,WeakL.frz 6 rfl rfl rfl WeakL.refl,?_⟩
  rw[ng_e]
  refine go_o ?_
  repeat' first|refine st ?_|((with_reducible apply go_i);conv=>whnf)|refine⟨λ_=>?_,λ_=>?_⟩|fail
  all_goals (subst hAe;rw[i2];exact⟨rfl,rfl⟩)
theorem C.get_Foreign(l:List Fk)(enc:Fk->List UInt8)(f:FuncId)(hl:l.length<=1048576)(B:List UInt8)(hB:B.length<=1073741824)(a:Nat)(post:List UInt8)(hd:B.drop a=encL enc l++post)
  (hone:∀x∈l,∀(a:Nat) (post:List UInt8),B.drop a=enc x++post->Rd f [] B a (av ((rdFk x)).ds) (a+(enc x).length)):Rd N.record_get_api_Foreign [.d (.fn f)] B a (.d (ng true (eFk (l.map rdFk)))) (a+(encL enc l).length):=by
 have hd1:B.drop a=encI l.length++(l.flatMap enc++post):=by rw[hd,encL,List.append_assoc]
 have h0:=C.source_int B hB a l.length ⟨by omega,by omega⟩ _ hd1
 have hd2:=drop_more hd1
 have hone':=λx hx a post hd os=>Rd.at (hone x hx a post hd) rfl rfl 0 os
 clear hone
 rw[encL,List.length_append,<- Nat.add_assoc]
 obtain⟨p,hp⟩:∃p,p=a+(encI l.length).length:=⟨_,rfl⟩
 rw[<- hp] at h0 hd2 ⊢
 unfold Rd SR at h0 hone' ⊢
 obtain⟨Z,hZ⟩:∃z,z=byteL B:=⟨_,rfl⟩
 rw[<- hZ] at h0 hone' ⊢
 refine CallSpec.drop 1 rfl (Q:=λr os=>r=.d (ng true (eFk (l.map rdFk)))/\os.take 1=[.cells [.d (.sl Z),.d (eI (p+(l.flatMap enc).length:Nat)),.d (eI 0)]]) ?_ (λr os hq=>by obtain⟨rfl,hq⟩:=hq;rw[hq];exact⟨rfl,rfl,rfl,rfl⟩)
 refine F.record_get_api_Foreign.goX mixed rfl ?_
 repeat' first|refine st ?_|((with_reducible apply go_i);conv=>whnf)|((with_reducible first|apply k_nc|apply k_cs);(·exact h0);(try rintro _ _ ⟨rfl,rfl⟩))|((with_reducible apply k_pr);(·exact h0))|refine⟨λ_=>?_,λ_=>?_⟩|fail
 refine x_nil 6 2 rfl rfl ?_
 refine x_exitW ?_
 refine x_loop3 mixed Lt.record_get_api_Foreign_l0 Lk.record_get_api_Foreign_l0 (λ(i q:Nat) (A:List (List D))=>[.arr 1 A.length,.d (eI i)]) (λi q A=>[.cells [.d (.sl Z),.d (eI q),.d (eI 0)],.arr A 2 0 A.isEmpty]) (λi q A=>i<=l.length/\q=p+((l.take i).flatMap enc).length/\A=eFk ((l.map rdFk).take i)) (λi q A=>l.length-i) 0 p [] rfl rfl rfl rfl (λ_ _ _ _=>⟨rfl,rfl⟩) rfl ⟨by omega,by simp,by simp[eFk]⟩ ?_
 repeat' first|refine st ?_|((with_reducible apply go_i);conv=>whnf)|refine⟨λ_=>?_,λ_=>?_⟩|fail
 intro i q A ⟨i1,i2,i3⟩
 have hAl:A.length=i:=by rw[i3,eFk_len];simp;omega
 by_cases hi:i<l.length
 ·obtain⟨x,hx⟩:∃x,l[i]?=some x:=⟨_,List.getElem?_eq_getElem hi⟩
  have htk:=flat_take (f:=enc) hx
  have hdr:B.drop q=enc x++((l.drop (i+1)).flatMap enc++post):=by
   rw[flat_split hx,List.append_assoc] at hd2
   rw[i2,drop_more hd2,List.append_assoc]
  have hc:=hone' x (List.mem_of_getElem? hx) q _ hdr
  have hAx:A++[(rdFk x).ds]=eFk ((l.map rdFk).take (i+1)):=by
   rw[i3,List.take_add_one]
   simp[eFk,hx]
  obtain⟨y,hy⟩:∃y,y=q+(enc x).length:=⟨_,rfl⟩
  rw[<- hy] at hc
  repeat' first|refine st ?_|((with_reducible apply go_i);conv=>whnf)|((with_reducible first|apply k_nc|apply k_cs);(·exact hc _ rfl);(try rintro _ _ ⟨rfl,rfl⟩))|((with_reducible apply k_pr);(·exact hc _ rfl))|refine⟨λ_=>?_,λ_=>?_⟩|fail
  all_goals exact⟨i+1,y,A++[_],by simp,by simp,by simp,by omega,by omega,by rw[htk,List.length_append,hy,i2,Nat.add_assoc],hAx⟩
 ·have hi:i=l.length:=by omega
  subst hi
  have hAe:A=eFk (l.map rdFk):=by rw[i3,List.take_of_length_le (by simp)]
  rw[List.take_length] at i2
  repeat' first|refine st ?_|((with_reducible apply go_i);conv=>whnf)|refine⟨λ_=>?_,λ_=>?_⟩|fail
  refine⟨_,_,WeakL.frz 6 rfl rfl rfl WeakL.refl,?_⟩
  rw[ng_e]
  refine go_o ?_
  repeat' first|refine st ?_|((with_reducible apply go_i);conv=>whnf)|refine⟨λ_=>?_,λ_=>?_⟩|fail
  all_goals (subst hAe;rw[i2];exact⟨rfl,rfl⟩)
end Go.Proofs
end
section
namespace Go.Proofs
open Go.Bi
theorem C.reader_number(B:List UInt8)(hB:B.length<=1073741824)(a:Nat)(n:Int)(h:I64 n)(post:List UInt8)(hd:B.drop a=encI n++post):Rd N.precord_reader_number [] B a (.d (eI n)) (a+(encI n).length):=by
 have h1:=C.source_int B hB a n h post hd
 refine F.precord_reader_number.goX mixed rfl ?_
 repeat' first|refine st ?_|((with_reducible apply go_i);conv=>whnf)|((with_reducible first|apply k_nc|apply k_cs);(·exact h1);(try rintro _ _ ⟨rfl,rfl⟩))|((with_reducible apply k_pr);(·exact h1))|refine⟨λ_=>?_,λ_=>?_⟩|fail
 all_goals exact⟨rfl,rfl⟩
theorem C.reader_name(B:List UInt8)(hB:B.length<=1073741824)(a:Nat)(s:List UInt8)(h:TK s)(post:List UInt8)(hd:B.drop a=encT s++post):Rd N.precord_reader_name [] B a (.d (.str s)) (a+(encT s).length):=by
 have h1:=C.source_text B hB a s h post hd
 refine F.precord_reader_name.goX mixed rfl ?_
 repeat' first|refine st ?_|((with_reducible apply go_i);conv=>whnf)|((with_reducible first|apply k_nc|apply k_cs);(·exact h1);(try rintro _ _ ⟨rfl,rfl⟩))|((with_reducible apply k_pr);(·exact h1))|refine⟨λ_=>?_,λ_=>?_⟩|fail
 all_goals exact⟨rfl,rfl⟩
theorem C.reader_column(B:List UInt8)(hB:B.length<=1073741824)(a:Nat)(x:Co)(h:CoK x)(post:List UInt8)(hd:B.drop a=encCo x++post):Rd N.precord_reader_column [] B a (av x.ds) (a+(encCo x).length):=by
 obtain⟨nm,k,nl⟩:=x
 unfold encCo at hd ⊢
 simp only[List.append_assoc] at hd
 have h0:=C.source_text B hB a nm h.1 _ hd
 obtain⟨p0,hp0⟩:∃z,z=a+(encT nm).length:=⟨_,rfl⟩
 have d0:=drop_more hd
 rw[<- hp0] at d0
 rw[<- hp0] at h0
 have h1:=C.source_int B hB p0 k h.2 _ d0
 obtain⟨p1,hp1⟩:∃z,z=p0+(encI k).length:=⟨_,rfl⟩
 have d1:=drop_more d0
 rw[<- hp1] at d1
 rw[<- hp1] at h1
 have h2:=C.source_bool B hB p1 nl _ d1
 obtain⟨p2,hp2⟩:∃z,z=p1+(encI (b2i nl)).length:=⟨_,rfl⟩
 rw[<- hp2] at h2
 have hfin:a+(encT nm++encI k++encI (b2i nl)).length=p2:=by
  simp only[List.length_append]
  omega
 rw[hfin]
 have k0:=λos ho=>Rd.at h0 rfl rfl 0 os ho
 have k1:=λos ho=>Rd.at h1 rfl rfl 0 os ho
 have k2:=λos ho=>Rd.at h2 rfl rfl 0 os ho
 clear h0 h1 h2 hfin hd
 unfold Rd SR at *
 obtain⟨Z,hZ⟩:∃z,z=byteL B:=⟨_,rfl⟩
 rw[<- hZ] at k0 k1 k2 ⊢
 refine CallSpec.drop 1 rfl (Q:=λrr os=>rr=av ((⟨nm,k,nl⟩:Co)).ds/\os.take 1=[.cells [.d (.sl Z),.d (eI p2),.d (eI 0)]]) ?_ (λr os hq=>by obtain⟨rfl,hq⟩:=hq;rw[hq];exact⟨rfl,rfl,rfl,rfl⟩)
 refine F.precord_reader_column.goX mixed rfl ?_
 repeat' first|refine st ?_|((with_reducible apply go_i);conv=>whnf)|((with_reducible apply k_pa);(·first|exact k0|exact k1|exact k2))|refine⟨λ_=>?_,λ_=>?_⟩|fail
 all_goals exact⟨rfl,rfl⟩
theorem C.reader_fact(B:List UInt8)(hB:B.length<=1073741824)(a:Nat)(x:Fa)(h:FaK x)(post:List UInt8)(hd:B.drop a=encFa x++post):Rd N.precord_reader_fact [] B a (av (rdFa x).ds) (a+(encFa x).length):=by
 obtain⟨nl,r,u,w⟩:=x
 unfold encFa at hd ⊢
 simp only[List.append_assoc] at hd
 have h0:=C.source_row B hB a r h.1.1 h.1.2 _ hd
 obtain⟨p0,hp0⟩:∃z,z=a+(encR r).length:=⟨_,rfl⟩
 have d0:=drop_more hd
 rw[<- hp0] at d0
 rw[<- hp0] at h0
 have h1:=C.source_period B hB p0 u w h.2 _ d0
 obtain⟨p1,hp1⟩:∃z,z=p0+(encP u w).length:=⟨_,rfl⟩
 rw[<- hp1] at h1
 have hfin:a+(encR r++encP u w).length=p1:=by
  simp only[List.length_append]
  omega
 rw[hfin]
 have k0:=λos ho=>Rd.at h0 rfl rfl 0 os ho
 have k1:=λos ho=>Rd.at h1 rfl rfl 0 os ho
 clear h0 h1 hfin hd
 unfold Rd SR at *
 obtain⟨Z,hZ⟩:∃z,z=byteL B:=⟨_,rfl⟩
 rw[<- hZ] at k0 k1 ⊢
 refine CallSpec.drop 1 rfl (Q:=λrr os=>rr=av (rdFa ⟨nl,r,u,w⟩).ds/\os.take 1=[.cells [.d (.sl Z),.d (eI p1),.d (eI 0)]]) ?_ (λr os hq=>by obtain⟨rfl,hq⟩:=hq;rw[hq];exact⟨rfl,rfl,rfl,rfl⟩)
 refine F.precord_reader_fact.goX mixed rfl ?_
 repeat' first|refine st ?_|((with_reducible apply go_i);conv=>whnf)|((with_reducible apply k_pa);(·first|exact k0|exact k1))|refine⟨λ_=>?_,λ_=>?_⟩|fail
 all_goals exact⟨rfl,rfl⟩
theorem C.reader_hold(B:List UInt8)(hB:B.length<=1073741824)(a:Nat)(x:Ho)(h:HoK x)(post:List UInt8)(hd:B.drop a=encHo x++post):Rd N.precord_reader_hold [] B a (av x.ds) (a+(encHo x).length):=by
 obtain⟨nm,tb,va,vb,sa,sb⟩:=x
 unfold encHo at hd ⊢
 simp only[List.append_assoc] at hd
 have h0:=C.source_text B hB a nm h.1 _ hd
 obtain⟨p0,hp0⟩:∃z,z=a+(encT nm).length:=⟨_,rfl⟩
 have d0:=drop_more hd
 rw[<- hp0] at d0
 rw[<- hp0] at h0
 have h1:=C.source_text B hB p0 tb h.2.1 _ d0
 obtain⟨p1,hp1⟩:∃z,z=p0+(encT tb).length:=⟨_,rfl⟩
 have d1:=drop_more d0
 rw[<- hp1] at d1
 rw[<- hp1] at h1
 have h2:=C.source_period B hB p1 va vb h.2.2.1 _ d1
 obtain⟨p2,hp2⟩:∃z,z=p1+(encP va vb).length:=⟨_,rfl⟩
 have d2:=drop_more d1
 rw[<- hp2] at d2
 rw[<- hp2] at h2
 have h3:=C.source_period B hB p2 sa sb h.2.2.2 _ d2
 obtain⟨p3,hp3⟩:∃z,z=p2+(encP sa sb).length:=⟨_,rfl⟩
 rw[<- hp3] at h3
 have hfin:a+(encT nm++encT tb++encP va vb++encP sa sb).length=p3:=by
  simp only[List.length_append]
  omega
 rw[hfin]
 have k0:=λos ho=>Rd.at h0 rfl rfl 0 os ho
 have k1:=λos ho=>Rd.at h1 rfl rfl 0 os ho
 have k2:=λos ho=>Rd.at h2 rfl rfl 0 os ho
 have k3:=λos ho=>Rd.at h3 rfl rfl 0 os ho
 clear h0 h1 h2 h3 hfin hd
 unfold Rd SR at *
 obtain⟨Z,hZ⟩:∃z,z=byteL B:=⟨_,rfl⟩
 rw[<- hZ] at k0 k1 k2 k3 ⊢
 refine CallSpec.drop 1 rfl (Q:=λrr os=>rr=av ((⟨nm,tb,va,vb,sa,sb⟩:Ho)).ds/\os.take 1=[.cells [.d (.sl Z),.d (eI p3),.d (eI 0)]]) ?_ (λr os hq=>by obtain⟨rfl,hq⟩:=hq;rw[hq];exact⟨rfl,rfl,rfl,rfl⟩)
 refine F.precord_reader_hold.goX mixed rfl ?_
 repeat' first|refine st ?_|((with_reducible apply go_i);conv=>whnf)|((with_reducible apply k_pa);(·first|exact k0|exact k1|exact k2|exact k3))|refine⟨λ_=>?_,λ_=>?_⟩|fail
 all_goals exact⟨rfl,rfl⟩
theorem C.reader_policy(B:List UInt8)(hB:B.length<=1073741824)(a:Nat)(x:Pk)(h:PkK x)(post:List UInt8)(hd:B.drop a=encPk x++post):Rd N.precord_reader_policy [] B a (av x.ds) (a+(encPk x).length):=by
 obtain⟨tb,n⟩:=x
 unfold encPk at hd ⊢
 simp only[List.append_assoc] at hd
 have h0:=C.source_text B hB a tb h.1 _ hd
 obtain⟨p0,hp0⟩:∃z,z=a+(encT tb).length:=⟨_,rfl⟩
 have d0:=drop_more hd
 rw[<- hp0] at d0
 rw[<- hp0] at h0
 have h1:=C.source_int B hB p0 n h.2 _ d0
 obtain⟨p1,hp1⟩:∃z,z=p0+(encI n).length:=⟨_,rfl⟩
 rw[<- hp1] at h1
 have hfin:a+(encT tb++encI n).length=p1:=by
  simp only[List.length_append]
  omega
 rw[hfin]
 have k0:=λos ho=>Rd.at h0 rfl rfl 0 os ho
 have k1:=λos ho=>Rd.at h1 rfl rfl 0 os ho
 clear h0 h1 hfin hd
 unfold Rd SR at *
 obtain⟨Z,hZ⟩:∃z,z=byteL B:=⟨_,rfl⟩
 rw[<- hZ] at k0 k1 ⊢
 refine CallSpec.drop 1 rfl (Q:=λrr os=>rr=av ((⟨tb,n⟩:Pk)).ds/\os.take 1=[.cells [.d (.sl Z),.d (eI p1),.d (eI 0)]]) ?_ (λr os hq=>by obtain⟨rfl,hq⟩:=hq;rw[hq];exact⟨rfl,rfl,rfl,rfl⟩)
 refine F.precord_reader_policy.goX mixed rfl ?_
 repeat' first|refine st ?_|((with_reducible apply go_i);conv=>whnf)|((with_reducible apply k_pa);(·first|exact k0|exact k1))|refine⟨λ_=>?_,λ_=>?_⟩|fail
 all_goals exact⟨rfl,rfl⟩
theorem C.reader_horizon(B:List UInt8)(hB:B.length<=1073741824)(a:Nat)(x:Pk)(h:PkK x)(post:List UInt8)(hd:B.drop a=encPk x++post):Rd N.precord_reader_horizon [] B a (av x.ds) (a+(encPk x).length):=by
 obtain⟨tb,n⟩:=x
 unfold encPk at hd ⊢
 simp only[List.append_assoc] at hd
 have h0:=C.source_text B hB a tb h.1 _ hd
 obtain⟨p0,hp0⟩:∃z,z=a+(encT tb).length:=⟨_,rfl⟩
 have d0:=drop_more hd
 rw[<- hp0] at d0
 rw[<- hp0] at h0
 have h1:=C.source_int B hB p0 n h.2 _ d0
 obtain⟨p1,hp1⟩:∃z,z=p0+(encI n).length:=⟨_,rfl⟩
 rw[<- hp1] at h1
 have hfin:a+(encT tb++encI n).length=p1:=by
  simp only[List.length_append]
  omega
 rw[hfin]
 have k0:=λos ho=>Rd.at h0 rfl rfl 0 os ho
 have k1:=λos ho=>Rd.at h1 rfl rfl 0 os ho
 clear h0 h1 hfin hd
 unfold Rd SR at *
 obtain⟨Z,hZ⟩:∃z,z=byteL B:=⟨_,rfl⟩
 rw[<- hZ] at k0 k1 ⊢
 refine CallSpec.drop 1 rfl (Q:=λrr os=>rr=av ((⟨tb,n⟩:Pk)).ds/\os.take 1=[.cells [.d (.sl Z),.d (eI p1),.d (eI 0)]]) ?_ (λr os hq=>by obtain⟨rfl,hq⟩:=hq;rw[hq];exact⟨rfl,rfl,rfl,rfl⟩)
 refine F.precord_reader_horizon.goX mixed rfl ?_
 repeat' first|refine st ?_|((with_reducible apply go_i);conv=>whnf)|((with_reducible apply k_pa);(·first|exact k0|exact k1))|refine⟨λ_=>?_,λ_=>?_⟩|fail
 all_goals exact⟨rfl,rfl⟩
theorem C.reader_delta(B:List UInt8)(hB:B.length<=1073741824)(a:Nat)(x:De)(h:DeK x)(post:List UInt8)(hd:B.drop a=encDe x++post):Rd N.precord_reader_delta [] B a (av (rdDe x).ds) (a+(encDe x).length):=by
 obtain⟨tb,n1,cl,n2,op⟩:=x
 unfold encDe at hd ⊢
 simp only[List.append_assoc] at hd
 have h0:=C.source_text B hB a tb h.1 _ hd
 obtain⟨p0,hp0⟩:∃z,z=a+(encT tb).length:=⟨_,rfl⟩
 have d0:=drop_more hd
 rw[<- hp0] at d0
 rw[<- hp0] at h0
 have h1:=(λpost hd=>C.get_int cl encI N.precord_reader_number h.2.1.1 B hB p0 post hd (λx hx a post hd=>C.reader_number B hB a x (h.2.1.2 x hx) post hd)) _ d0
 obtain⟨p1,hp1⟩:∃z,z=p0+(encL encI cl).length:=⟨_,rfl⟩
 have d1:=drop_more d0
 rw[<- hp1] at d1
 rw[<- hp1] at h1
 have h2:=(λpost hd=>C.get_Fact op encFa N.precord_reader_fact h.2.2.1 B hB p1 post hd (λx hx a post hd=>C.reader_fact B hB a x (h.2.2.2 x hx) post hd)) _ d1
 obtain⟨p2,hp2⟩:∃z,z=p1+(encL encFa op).length:=⟨_,rfl⟩
 rw[<- hp2] at h2
 have hfin:a+(encT tb++encL encI cl++encL encFa op).length=p2:=by
  simp only[List.length_append]
  omega
 rw[hfin]
 have k0:=λos ho=>Rd.at h0 rfl rfl 0 os ho
 have k1:=λos ho=>Rd.at h1 rfl rfl 0 os ho
 have k2:=λos ho=>Rd.at h2 rfl rfl 0 os ho
 clear h0 h1 h2 hfin hd
 unfold Rd SR at *
 obtain⟨Z,hZ⟩:∃z,z=byteL B:=⟨_,rfl⟩
 rw[<- hZ] at k0 k1 k2 ⊢
 refine CallSpec.drop 1 rfl (Q:=λrr os=>rr=av (rdDe ⟨tb,n1,cl,n2,op⟩).ds/\os.take 1=[.cells [.d (.sl Z),.d (eI p2),.d (eI 0)]]) ?_ (λr os hq=>by obtain⟨rfl,hq⟩:=hq;rw[hq];exact⟨rfl,rfl,rfl,rfl⟩)
 refine F.precord_reader_delta.goX mixed rfl ?_
 repeat' first|refine st ?_|((with_reducible apply go_i);conv=>whnf)|((with_reducible first|apply k_nc|apply k_cs);(·first|exact k0 _ rfl|exact k1 _ rfl|exact k2 _ rfl);(try rintro _ _ ⟨rfl,rfl⟩))|((with_reducible apply k_pr);(·first|exact k0 _ rfl|exact k1 _ rfl|exact k2 _ rfl))|refine⟨λ_=>?_,λ_=>?_⟩|fail
 all_goals exact⟨rfl,rfl⟩
theorem C.reader_table_c1(B:List UInt8)(hB:B.length<=1073741824)(a:Nat)(x:Fk)(h:FkK x)(post:List UInt8)(hd:B.drop a=encFk x++post):Rd N.precord_reader_table_c1 [] B a (av (rdFk x).ds) (a+(encFk x).length):=by
 obtain⟨nl,cs,tb⟩:=x
 unfold encFk at hd ⊢
 simp only[List.append_assoc] at hd
 have h0:=(λpost hd=>C.get_int cs encI N.precord_reader_number h.1.1 B hB a post hd (λx hx a post hd=>C.reader_number B hB a x (h.1.2 x hx) post hd)) _ hd
 obtain⟨p0,hp0⟩:∃z,z=a+(encL encI cs).length:=⟨_,rfl⟩
 have d0:=drop_more hd
 rw[<- hp0] at d0
 rw[<- hp0] at h0
 have h1:=C.source_text B hB p0 tb h.2 _ d0
 obtain⟨p1,hp1⟩:∃z,z=p0+(encT tb).length:=⟨_,rfl⟩
 rw[<- hp1] at h1
 have hfin:a+(encL encI cs++encT tb).length=p1:=by
  simp only[List.length_append]
  omega
 rw[hfin]
 have k0:=λos ho=>Rd.at h0 rfl rfl 0 os ho
 have k1:=λos ho=>Rd.at h1 rfl rfl 0 os ho
 clear h0 h1 hfin hd
 unfold Rd SR at *
 obtain⟨Z,hZ⟩:∃z,z=byteL B:=⟨_,rfl⟩
 rw[<- hZ] at k0 k1 ⊢
 refine CallSpec.drop 1 rfl (Q:=λrr os=>rr=av (rdFk ⟨nl,cs,tb⟩).ds/\os.take 1=[.cells [.d (.sl Z),.d (eI p1),.d (eI 0)]]) ?_ (λr os hq=>by obtain⟨rfl,hq⟩:=hq;rw[hq];exact⟨rfl,rfl,rfl,rfl⟩)
 refine F.precord_reader_table_c1.goX mixed rfl ?_
 repeat' first|refine st ?_|((with_reducible apply go_i);conv=>whnf)|((with_reducible apply k_pa);(·first|exact k0|exact k1))|refine⟨λ_=>?_,λ_=>?_⟩|fail
 all_goals exact⟨rfl,rfl⟩
end Go.Proofs
end
section
namespace Go.Proofs
open Go.Bi
mutual
def rdX:Ex->Ex
 |.mk op n v nm _ args=>.mk op n v nm true (rdXs args)
def rdXs:List Ex->List Ex
 |[]=>[]
 |e::es=>rdX e::rdXs es
end
theorem rdXs_eq:∀l,rdXs l=l.map rdX
 |[]=>by simp[rdXs]
 |e::es=>by simp[rdXs,rdXs_eq es]
theorem rdX_mk(op n:Int)(v:Vl)(nm:List UInt8)(nl:Bool)(args:List Ex):rdX (.mk op n v nm nl args)=.mk op n v nm true (args.map rdX):=by
 rw[rdX,rdXs_eq]
theorem av_isDB(l:List D):(av l).isDB=true:=by
 simp[AV.isDB,AV.isd]
theorem C.get_Expr(l:List Ex)(enc:Ex->List UInt8)(f:FuncId)(hl:l.length<=1048576)(B:List UInt8)(hB:B.length<=1073741824)(a:Nat)(post:List UInt8)(hd:B.drop a=encL enc l++post)
  (hone:∀x∈l,∀(a:Nat) (post:List UInt8),B.drop a=enc x++post->Rd f [] B a (av ((rdX x)).ds) (a+(enc x).length)):Rd N.record_get_api_Expr [.d (.fn f)] B a (.d (ng true (xL (l.map rdX)))) (a+(encL enc l).length):=by
 have hd1:B.drop a=encI l.length++(l.flatMap enc++post):=by rw[hd,encL,List.append_assoc]
 have h0:=C.source_int B hB a l.length ⟨by omega,by omega⟩ _ hd1
 have hd2:=drop_more hd1
 have hone':=λx hx a post hd os=>Rd.at (hone x hx a post hd) rfl (av_isDB _) 0 os
 clear hone
 rw[encL,List.length_append,<- Nat.add_assoc]
 obtain⟨p,hp⟩:∃p,p=a+(encI l.length).length:=⟨_,rfl⟩
 rw[<- hp] at h0 hd2 ⊢
 unfold Rd SR at h0 hone' ⊢
 obtain⟨Z,hZ⟩:∃z,z=byteL B:=⟨_,rfl⟩
 rw[<- hZ] at h0 hone' ⊢
 refine CallSpec.drop 1 rfl (Q:=λr os=>r=.d (ng true (xL (l.map rdX)))/\os.take 1=[.cells [.d (.sl Z),.d (eI (p+(l.flatMap enc).length:Nat)),.d (eI 0)]]) ?_ (λr os hq=>by obtain⟨rfl,hq⟩:=hq;rw[hq];exact⟨rfl,rfl,rfl,rfl⟩)
 refine F.record_get_api_Expr.goX mixed rfl ?_
 repeat' first|refine st ?_|((with_reducible apply go_i);conv=>whnf)|((with_reducible first|apply k_nc|apply k_cs);(·exact h0);(try rintro _ _ ⟨rfl,rfl⟩))|((with_reducible apply k_pr);(·exact h0))|refine⟨λ_=>?_,λ_=>?_⟩|fail
 refine x_nil 6 7 rfl rfl ?_
 refine x_exitW ?_
 refine x_loop3 mixed Lt.record_get_api_Expr_l0 Lk.record_get_api_Expr_l0 (λ(i q:Nat) (A:List (List D))=>[.arr 1 A.length,.d (eI i)]) (λi q A=>[.cells [.d (.sl Z),.d (eI q),.d (eI 0)],.arr A 7 0 A.isEmpty]) (λi q A=>i<=l.length/\q=p+((l.take i).flatMap enc).length/\A=xL ((l.map rdX).take i)) (λi q A=>l.length-i) 0 p [] rfl rfl rfl rfl (λ_ _ _ _=>⟨rfl,rfl⟩) rfl ⟨by omega,by simp,by simp[xL]⟩ ?_
 repeat' first|refine st ?_|((with_reducible apply go_i);conv=>whnf)|refine⟨λ_=>?_,λ_=>?_⟩|fail
 intro i q A ⟨i1,i2,i3⟩
 have hAl:A.length=i:=by rw[i3,xL_len];simp;omega
 by_cases hi:i<l.length
 ·obtain⟨x,hx⟩:∃x,l[i]?=some x:=⟨_,List.getElem?_eq_getElem hi⟩
  have htk:=flat_take (f:=enc) hx
  have hdr:B.drop q=enc x++((l.drop (i+1)).flatMap enc++post):=by
   rw[flat_split hx,List.append_assoc] at hd2
   rw[i2,drop_more hd2,List.append_assoc]
  have hc:=hone' x (List.mem_of_getElem? hx) q _ hdr
  have hAx:A++[(rdX x).ds]=xL ((l.map rdX).take (i+1)):=by
   rw[i3,List.take_add_one]
   simp[xL,hx]
  obtain⟨w,hw⟩:∃w,w=rdX x:=⟨_,rfl⟩
  rw[<- hw] at hc hAx
  obtain⟨xop,xn,xv,xnm,xnl,xas⟩:=w
  rw[Ex.ds_mk] at hc hAx
  obtain⟨xd,hxd⟩:∃z,z=ng xnl (xL xas):=⟨_,rfl⟩
  rw[<- hxd] at hc hAx
  clear hxd hw
  obtain⟨y,hy⟩:∃y,y=q+(enc x).length:=⟨_,rfl⟩
  rw[<- hy] at hc
  repeat' first|refine st ?_|((with_reducible apply go_i);conv=>whnf)|((with_reducible first|apply k_nc|apply k_cs);(·exact hc _ rfl);(try rintro _ _ ⟨rfl,rfl⟩))|((with_reducible apply k_pr);(·exact hc _ rfl))|refine⟨λ_=>?_,λ_=>?_⟩|fail
  all_goals exact⟨i+1,y,A++[_],by simp,by simp,by simp,by omega,by omega,by rw[htk,List.length_append,hy,i2,Nat.add_assoc],hAx⟩
 ·have hi:i=l.length:=by omega
  subst hi
  have hAe:A=xL (l.map rdX):=by rw[i3,List.take_of_length_le (by simp)]
  rw[List.take_length] at i2
  repeat' first|refine st ?_|((with_reducible apply go_i);conv=>whnf)|refine⟨λ_=>?_,λ_=>?_⟩|fail
  refine⟨_,_,WeakL.frz 6 rfl rfl rfl WeakL.refl,?_⟩
  rw[ng_e]
  refine go_o ?_
  repeat' first|refine st ?_|((with_reducible apply go_i);conv=>whnf)|refine⟨λ_=>?_,λ_=>?_⟩|fail
  all_goals (subst hAe;rw[i2];exact⟨rfl,rfl⟩)
end Go.Proofs
end
section
namespace Go.Proofs
open Go.Bi
theorem Rc.ext{f:FuncId}{B:List UInt8}{a b:Nat}{v:AV}{x:D}(h:CallSpec Tryz.prog f [.ptr 0 0,.ptr 1 0] [SR B a,.cells [.d x]] (λr os=>r=v/\os=[SR B b,.cells [.d x]]))(hv:v.isDB=true)(rest:List AO) :
  CallSpec Tryz.prog f [.ptr 0 0,.ptr 1 0] ([SR B a,.cells [.d x]]++rest) (λr os=>r=v/\os=[SR B b,.cells [.d x]]++rest):=by
 have h2:=CallSpec.frame (K:=λr os=>r=v/\os=[SR B b,.cells [.d x]]++rest) h [0,1] ([SR B a,.cells [.d x]]++rest) rfl (by decide) (λi o ho=>by
   match i with
   |0=>simp at ho;subst ho;rfl
   |1=>simp at ho;subst ho;rfl
   |i+2=>simp at ho) (λa ha=>by
   rcases List.mem_cons.1 ha with rfl|ha
   ·exact Nat.zero_lt_succ 1
   ·cases List.mem_singleton.1 ha;exact Nat.lt_succ_self 1) (λo ho=>by
   rcases List.mem_cons.1 ho with rfl|ho
   ·simp[AO.bnd,AV.bnd1]
   ·cases List.mem_singleton.1 ho;simp[AO.bnd,AV.bnd1]) (λr bs' hq=>by
   obtain⟨rfl,rfl⟩:=hq
   refine⟨mA_data hv,?_⟩
   show([SR B b,.cells [.d x]]++rest)++[]=_
   rw[List.append_nil])
 exact h2
theorem C.get_ExprC(ob:D)(l:List Ex)(enc:Ex->List UInt8)(f:FuncId)(hl:l.length<=1048576)(B:List UInt8)(hB:B.length<=1073741824)(a:Nat)(post:List UInt8)(hd:B.drop a=encL enc l++post)
  (hone:∀x∈l,∀(a:Nat) (post:List UInt8),B.drop a=enc x++post->CallSpec Tryz.prog f [.ptr 0 0,.ptr 1 0] [SR B a,.cells [.d ob]] (λr os=>r=av (rdX x).ds/\os=[SR B (a+(enc x).length),.cells [.d ob]])):CallSpec Tryz.prog N.record_get_api_Expr [.ptr 0 0,.clo f [1]] [SR B a,.cells [.d ob]] (λr os=>r=.d (ng true (xL (l.map rdX)))/\os=[SR B (a+(encL enc l).length),.cells [.d ob]]):=by
 have hd1:B.drop a=encI l.length++(l.flatMap enc++post):=by rw[hd,encL,List.append_assoc]
 have h0:=C.source_int B hB a l.length ⟨by omega,by omega⟩ _ hd1
 have hd2:=drop_more hd1
 have h0:=λos=>Rd.at h0 rfl rfl 0 os
 have hone':=λx hx a post hd os=>Rc.ext (hone x hx a post hd) (av_isDB _) os
 clear hone
 rw[encL,List.length_append,<- Nat.add_assoc]
 obtain⟨p,hp⟩:∃p,p=a+(encI l.length).length:=⟨_,rfl⟩
 rw[<- hp] at h0 hd2 ⊢
 unfold SR at h0 hone' ⊢
 obtain⟨Z,hZ⟩:∃z,z=byteL B:=⟨_,rfl⟩
 rw[<- hZ] at h0 hone' ⊢
 refine CallSpec.drop 2 rfl (Q:=λr os=>r=.d (ng true (xL (l.map rdX)))/\os.take 2=[.cells [.d (.sl Z),.d (eI (p+(l.flatMap enc).length:Nat)),.d (eI 0)],.cells [.d ob]]) ?_ (λr os hq=>by obtain⟨rfl,hq⟩:=hq;rw[hq];exact⟨rfl,rfl,rfl,rfl⟩)
 refine F.record_get_api_Expr.goX mixed rfl ?_
 repeat' first|refine st ?_|((with_reducible apply go_i);conv=>whnf)|((with_reducible first|apply k_nc|apply k_cs);(·exact h0 _ rfl);(try rintro _ _ ⟨rfl,rfl⟩))|((with_reducible apply k_pr);(·exact h0 _ rfl))|refine⟨λ_=>?_,λ_=>?_⟩|fail
 refine x_nil 6 7 rfl rfl ?_
 refine x_exitW ?_
 refine x_loop3 mixed Lt.record_get_api_Expr_l0 Lk.record_get_api_Expr_l0 (λ(i q:Nat) (A:List (List D))=>[.arr 2 A.length,.d (eI i)]) (λi q A=>[.cells [.d (.sl Z),.d (eI q),.d (eI 0)],.cells [.d ob],.arr A 7 0 A.isEmpty]) (λi q A=>i<=l.length/\q=p+((l.take i).flatMap enc).length/\A=xL ((l.map rdX).take i)) (λi q A=>l.length-i) 0 p [] rfl rfl rfl rfl (λ_ _ _ _=>⟨rfl,rfl⟩) rfl ⟨by omega,by simp,by simp[xL]⟩ ?_
 repeat' first|refine st ?_|((with_reducible apply go_i);conv=>whnf)|refine⟨λ_=>?_,λ_=>?_⟩|fail
 intro i q A ⟨i1,i2,i3⟩
 have hAl:A.length=i:=by rw[i3,xL_len];simp;omega
 by_cases hi:i<l.length
 ·obtain⟨x,hx⟩:∃x,l[i]?=some x:=⟨_,List.getElem?_eq_getElem hi⟩
  have htk:=flat_take (f:=enc) hx
  have hdr:B.drop q=enc x++((l.drop (i+1)).flatMap enc++post):=by
   rw[flat_split hx,List.append_assoc] at hd2
   rw[i2,drop_more hd2,List.append_assoc]
  have hc:=hone' x (List.mem_of_getElem? hx) q _ hdr
  have hAx:A++[(rdX x).ds]=xL ((l.map rdX).take (i+1)):=by
   rw[i3,List.take_add_one]
   simp[xL,hx]
  obtain⟨w,hw⟩:∃w,w=rdX x:=⟨_,rfl⟩
  rw[<- hw] at hc hAx
  obtain⟨xop,xn,xv,xnm,xnl,xas⟩:=w
  rw[Ex.ds_mk] at hc hAx
  obtain⟨xd,hxd⟩:∃z,z=ng xnl (xL xas):=⟨_,rfl⟩
  rw[<- hxd] at hc hAx
  clear hxd hw
  obtain⟨y,hy⟩:∃y,y=q+(enc x).length:=⟨_,rfl⟩
  rw[<- hy] at hc
  repeat' first|refine st ?_|((with_reducible apply go_i);conv=>whnf)|((with_reducible first|apply k_nc|apply k_cs);(·exact hc _);(try rintro _ _ ⟨rfl,rfl⟩))|((with_reducible apply k_pr);(·exact hc _))|refine⟨λ_=>?_,λ_=>?_⟩|fail
  all_goals exact⟨i+1,y,A++[_],by simp,by simp,by simp,by omega,by omega,by rw[htk,List.length_append,hy,i2,Nat.add_assoc],hAx⟩
 ·have hi:i=l.length:=by omega
  subst hi
  have hAe:A=xL (l.map rdX):=by rw[i3,List.take_of_length_le (by simp)]
  rw[List.take_length] at i2
  repeat' first|refine st ?_|((with_reducible apply go_i);conv=>whnf)|refine⟨λ_=>?_,λ_=>?_⟩|fail
  refine⟨_,_,WeakL.frz 6 rfl rfl rfl WeakL.refl,?_⟩
  rw[ng_e]
  refine go_o ?_
  repeat' first|refine st ?_|((with_reducible apply go_i);conv=>whnf)|refine⟨λ_=>?_,λ_=>?_⟩|fail
  all_goals (subst hAe;rw[i2];exact⟨rfl,rfl⟩)
end Go.Proofs
end
section
namespace Go.Proofs
open Go.Bi
mutual
/-- An expression at a level is of depth 24 at most. -/
def DK:Ex->Nat->Prop
 |.mk _ _ _ _ _ args,k=>k<=24/\DKs args (k+1)
def DKs:List Ex->Nat->Prop
 |[],_=>True
 |e::es,k=>DK e k/\DKs es k
end
theorem DKs_mem:∀{l:List Ex} {k:Nat},DKs l k->∀e∈l,DK e k
 |[],_,_=>by simp
 |a::l,k,h=>by
  rw[DKs] at h
  intro e he
  rcases List.mem_cons.1 he with rfl|he
  ·exact h.1
  ·exact DKs_mem h.2 e he
theorem Rl.ext{g f:FuncId}{B:List UInt8}{a b:Nat}{v:AV}{x:D}(h:CallSpec Tryz.prog g [.ptr 0 0,.clo f [1]] [SR B a,.cells [.d x]] (λr os=>r=v/\os=[SR B b,.cells [.d x]]))(hv:v.isDB=true)(rest:List AO) :
  CallSpec Tryz.prog g [.ptr 0 0,.clo f [1]] ([SR B a,.cells [.d x]]++rest) (λr os=>r=v/\os=[SR B b,.cells [.d x]]++rest):=by
 have h2:=CallSpec.frame (K:=λr os=>r=v/\os=[SR B b,.cells [.d x]]++rest) h [0,1] ([SR B a,.cells [.d x]]++rest) rfl (by decide) (λi o ho=>by
   match i with
   |0=>simp at ho;subst ho;rfl
   |1=>simp at ho;subst ho;rfl
   |i+2=>simp at ho) (λa ha=>by
   rcases List.mem_cons.1 ha with rfl|ha
   ·exact Nat.zero_lt_succ 1
   ·cases List.mem_singleton.1 ha;simp[AV.bnd2,AV.bnd1]) (λo ho=>by
   rcases List.mem_cons.1 ho with rfl|ho
   ·simp[AO.bnd,AV.bnd1]
   ·cases List.mem_singleton.1 ho;simp[AO.bnd,AV.bnd1]) (λr bs' hq=>by
   obtain⟨rfl,rfl⟩:=hq
   refine⟨mA_data hv,?_⟩
   show([SR B b,.cells [.d x]]++rest)++[]=_
   rw[List.append_nil])
 exact h2
theorem C.reader_expr_c1(B:List UInt8)(a b k:Nat)(hk:k<=24)(w:Ex)(h:Rd N.precord_reader_expr [.d (eI (k+1:Nat))] B a (av w.ds) b) :
  CallSpec Tryz.prog N.precord_reader_expr_c1 [.ptr 0 0,.ptr 1 0] [SR B a,.cells [.d (eI k)]] (λr os=>r=av w.ds/\os=[SR B b,.cells [.d (eI k)]]):=by
 have h1:=λos=>Rd.at h rfl (av_isDB _) 0 os
 clear h
 obtain⟨op,n,v,nm,nl,args⟩:=w
 rw[Ex.ds_mk] at h1 ⊢
 obtain⟨xd,hxd⟩:∃z,z=ng nl (xL args):=⟨_,rfl⟩
 rw[<- hxd] at h1 ⊢
 clear hxd
 unfold SR at h1 ⊢
 obtain⟨Z,hZ⟩:∃z,z=byteL B:=⟨_,rfl⟩
 rw[<- hZ] at h1 ⊢
 have e:((k+1:Nat):Int)=(k:Int)+1:=by omega
 rw[e] at h1
 refine CallSpec.drop 2 rfl (Q:=λr os=>r=av (xds op n v nm xd)/\os.take 2=[.cells [.d (.sl Z),.d (eI b),.d (eI 0)],.cells [.d (eI k)]]) ?_ (λr os hq=>by obtain⟨rfl,hq⟩:=hq;rw[hq];exact⟨rfl,rfl,rfl,rfl⟩)
 refine F.precord_reader_expr_c1.goX mixed rfl ?_
 repeat' first|refine st ?_|((with_reducible apply go_i);conv=>whnf)|((with_reducible first|apply k_nc|apply k_cs);(·exact h1 _ rfl);(try rintro _ _ ⟨rfl,rfl⟩))|((with_reducible apply k_pr);(·exact h1 _ rfl))|refine⟨λ_=>?_,λ_=>?_⟩|fail
 all_goals exact⟨rfl,rfl⟩
theorem C.reader_expr(B:List UInt8)(hB:B.length<=1073741824):∀x:Ex,XK x->∀k:Nat,DK x k->∀(a:Nat) (post:List UInt8),B.drop a=encX x++post->Rd N.precord_reader_expr [.d (eI k)] B a (av (rdX x).ds) (a+(encX x).length):=by
 refine Ex.ind λop n v nm nl args ih h k hk a post hd=>?_
 rw[XK] at h
 rw[DK] at hk
 obtain⟨⟨h1,h2,h3,h4,h5⟩,h6⟩:=h
 obtain⟨hk,hks⟩:=hk
 rw[encX_mk] at hd ⊢
 rw[rdX_mk,Ex.ds_mk]
 simp only[List.append_assoc] at hd
 have w0:=C.source_int B hB a op h1 _ hd
 have d0:=drop_more hd
 obtain⟨p0,hp0⟩:∃z,z=a+(encI op).length:=⟨_,rfl⟩
 rw[<- hp0] at w0 d0
 have w1:=C.source_int B hB p0 n h2 _ d0
 have d1:=drop_more d0
 obtain⟨p1,hp1⟩:∃z,z=p0+(encI n).length:=⟨_,rfl⟩
 rw[<- hp1] at w1 d1
 have w2:=C.source_value B hB p1 v h3 _ d1
 have d2:=drop_more d1
 obtain⟨p2,hp2⟩:∃z,z=p1+(encV v).length:=⟨_,rfl⟩
 rw[<- hp2] at w2 d2
 have w3:=C.source_text B hB p2 nm h4 _ d2
 have d3:=drop_more d2
 obtain⟨p3,hp3⟩:∃z,z=p2+(encT nm).length:=⟨_,rfl⟩
 rw[<- hp3] at w3 d3
 have w4:=C.get_ExprC (eI k) args encX N.precord_reader_expr_c1 h5 B hB p3 post d3 (λx hx a post hd=>C.reader_expr_c1 B a _ k hk (rdX x) (ih x hx (XKs_mem h6 x hx) (k+1) (DKs_mem hks x hx) a post hd))
 obtain⟨p4,hp4⟩:∃z,z=p3+(encL encX args).length:=⟨_,rfl⟩
 rw[<- hp4] at w4
 have w4:=Rl.ext w4 rfl
 have hfin:a+(encI op++encI n++encV v++encT nm++encL encX args).length=p4:=by
  simp only[List.length_append]
  omega
 rw[hfin]
 have k0:=λos ho=>Rd.at w0 rfl rfl 0 os ho
 have k1:=λos ho=>Rd.at w1 rfl rfl 0 os ho
 have k2:=λos ho=>Rd.at w2 rfl rfl 0 os ho
 have k3:=λos ho=>Rd.at w3 rfl rfl 0 os ho
 clear w0 w1 w2 w3 hfin hd d0 d1 d2 d3 ih hp0 hp1 hp2 hp3 hp4
 obtain⟨xd,hxd⟩:∃z,z=ng true (xL (args.map rdX)):=⟨_,rfl⟩
 rw[<- hxd] at w4 ⊢
 clear hxd
 unfold SR at w4 k0 k1 k2 k3
 unfold Rd SR
 obtain⟨Z,hZ⟩:∃z,z=byteL B:=⟨_,rfl⟩
 rw[<- hZ] at w4 k0 k1 k2 k3 ⊢
 refine CallSpec.drop 1 rfl (Q:=λrr os=>rr=av (xds op n v nm xd)/\os.take 1=[.cells [.d (.sl Z),.d (eI p4),.d (eI 0)]]) ?_ (λr os hq=>by obtain⟨rfl,hq⟩:=hq;rw[hq];exact⟨rfl,rfl,rfl,rfl⟩)
 refine F.precord_reader_expr.goX mixed rfl ?_
 repeat' first|refine st ?_|((with_reducible apply go_i);conv=>whnf)|((with_reducible apply k_pa);(·first|exact k0|exact k1|exact k2|exact k3))|((with_reducible first|apply k_nc|apply k_cs);(·exact w4 _);(try rintro _ _ ⟨rfl,rfl⟩))|((with_reducible apply k_pr);(·exact w4 _))|refine⟨λ_=>?_,λ_=>?_⟩|fail
 all_goals exact⟨rfl,rfl⟩
end Go.Proofs
end
section
namespace Go.Proofs
open Go.Bi
theorem C.reader_table_c2(B:List UInt8)(hB:B.length<=1073741824)(x:Ex)(hx:XK x)(hk:DK x 1)(a:Nat)(post:List UInt8)(hd:B.drop a=encX x++post):Rd N.precord_reader_table_c2 [] B a (av (rdX x).ds) (a+(encX x).length):=by
 have h0:=C.reader_expr B hB x hx 1 hk a post hd
 have h1:=λos=>Rd.at h0 rfl (av_isDB _) 0 os
 clear h0 hd
 obtain⟨b,hb⟩:∃z,z=a+(encX x).length:=⟨_,rfl⟩
 obtain⟨w,hw⟩:∃z,z=rdX x:=⟨_,rfl⟩
 rw[<- hb,<- hw] at h1 ⊢
 clear hw hb
 obtain⟨op,n,v,nm,nl,args⟩:=w
 rw[Ex.ds_mk] at h1 ⊢
 obtain⟨xd,hxd⟩:∃z,z=ng nl (xL args):=⟨_,rfl⟩
 rw[<- hxd] at h1 ⊢
 clear hxd
 unfold SR at h1
 unfold Rd SR
 obtain⟨Z,hZ⟩:∃z,z=byteL B:=⟨_,rfl⟩
 rw[<- hZ] at h1 ⊢
 refine CallSpec.drop 1 rfl (Q:=λr os=>r=av (xds op n v nm xd)/\os.take 1=[.cells [.d (.sl Z),.d (eI b),.d (eI 0)]]) ?_ (λr os hq=>by obtain⟨rfl,hq⟩:=hq;rw[hq];exact⟨rfl,rfl,rfl,rfl⟩)
 refine F.precord_reader_table_c2.goX mixed rfl ?_
 repeat' first|refine st ?_|((with_reducible apply go_i);conv=>whnf)|((with_reducible first|apply k_nc|apply k_cs);(·exact h1 _ rfl);(try rintro _ _ ⟨rfl,rfl⟩))|((with_reducible apply k_pr);(·exact h1 _ rfl))|refine⟨λ_=>?_,λ_=>?_⟩|fail
 all_goals exact⟨rfl,rfl⟩
def rdTa(t:Ta):Ta:=⟨t.nm,true,t.cs,true,t.ks,true,t.fs.map rdFk,true,t.xs.map rdX⟩
def TaR(t:Ta):Prop:=TaK t/\∀x∈t.xs,DK x 1
theorem C.reader_table(B:List UInt8)(hB:B.length<=1073741824)(a:Nat)(x:Ta)(h:TaR x)(post:List UInt8)(hd:B.drop a=encTa x++post):Rd N.precord_reader_table [] B a (av (rdTa x).ds) (a+(encTa x).length):=by
 obtain⟨nm,n1,cs,n2,ks,n3,fs,n4,xs⟩:=x
 unfold encTa at hd ⊢
 simp only[List.append_assoc] at hd
 have h0:=C.source_text B hB a nm h.1.1 _ hd
 obtain⟨p0,hp0⟩:∃z,z=a+(encT nm).length:=⟨_,rfl⟩
 have d0:=drop_more hd
 rw[<- hp0] at d0
 rw[<- hp0] at h0
 have h1:=(λpost hd=>C.get_Column cs encCo N.precord_reader_column h.1.2.1.1 B hB p0 post hd (λx hx a post hd=>C.reader_column B hB a x (h.1.2.1.2 x hx) post hd)) _ d0
 obtain⟨p1,hp1⟩:∃z,z=p0+(encL encCo cs).length:=⟨_,rfl⟩
 have d1:=drop_more d0
 rw[<- hp1] at d1
 rw[<- hp1] at h1
 have h2:=(λpost hd=>C.get_int ks encI N.precord_reader_number h.1.2.2.1.1 B hB p1 post hd (λx hx a post hd=>C.reader_number B hB a x (h.1.2.2.1.2 x hx) post hd)) _ d1
 obtain⟨p2,hp2⟩:∃z,z=p1+(encL encI ks).length:=⟨_,rfl⟩
 have d2:=drop_more d1
 rw[<- hp2] at d2
 rw[<- hp2] at h2
 have h3:=(λpost hd=>C.get_Foreign fs encFk N.precord_reader_table_c1 h.1.2.2.2.1.1 B hB p2 post hd (λx hx a post hd=>C.reader_table_c1 B hB a x (h.1.2.2.2.1.2 x hx) post hd)) _ d2
 obtain⟨p3,hp3⟩:∃z,z=p2+(encL encFk fs).length:=⟨_,rfl⟩
 have d3:=drop_more d2
 rw[<- hp3] at d3
 rw[<- hp3] at h3
 have h4:=(λpost hd=>C.get_Expr xs encX N.precord_reader_table_c2 h.1.2.2.2.2.1 B hB p3 post hd (λx hx a post hd=>C.reader_table_c2 B hB x (h.1.2.2.2.2.2 x hx) (h.2 x hx) a post hd)) _ d3
 obtain⟨p4,hp4⟩:∃z,z=p3+(encL encX xs).length:=⟨_,rfl⟩
 rw[<- hp4] at h4
 have hfin:a+(encT nm++encL encCo cs++encL encI ks++encL encFk fs++encL encX xs).length=p4:=by
  simp only[List.length_append]
  omega
 rw[hfin]
 have k0:=λos ho=>Rd.at h0 rfl rfl 0 os ho
 have k1:=λos ho=>Rd.at h1 rfl rfl 0 os ho
 have k2:=λos ho=>Rd.at h2 rfl rfl 0 os ho
 have k3:=λos ho=>Rd.at h3 rfl rfl 0 os ho
 have k4:=λos ho=>Rd.at h4 rfl rfl 0 os ho
 clear h0 h1 h2 h3 h4 hfin hd
 unfold Rd SR at *
 obtain⟨Z,hZ⟩:∃z,z=byteL B:=⟨_,rfl⟩
 rw[<- hZ] at k0 k1 k2 k3 k4 ⊢
 refine CallSpec.drop 1 rfl (Q:=λrr os=>rr=av (rdTa ⟨nm,n1,cs,n2,ks,n3,fs,n4,xs⟩).ds/\os.take 1=[.cells [.d (.sl Z),.d (eI p4),.d (eI 0)]]) ?_ (λr os hq=>by obtain⟨rfl,hq⟩:=hq;rw[hq];exact⟨rfl,rfl,rfl,rfl⟩)
 refine F.precord_reader_table.goX mixed rfl ?_
 repeat' first|refine st ?_|((with_reducible apply go_i);conv=>whnf)|((with_reducible first|apply k_nc|apply k_cs);(·first|exact k0 _ rfl|exact k1 _ rfl|exact k2 _ rfl|exact k3 _ rfl|exact k4 _ rfl);(try rintro _ _ ⟨rfl,rfl⟩))|((with_reducible apply k_pr);(·first|exact k0 _ rfl|exact k1 _ rfl|exact k2 _ rfl|exact k3 _ rfl|exact k4 _ rfl))|refine⟨λ_=>?_,λ_=>?_⟩|fail
 all_goals exact⟨rfl,rfl⟩
end Go.Proofs
end
section
namespace Go.Proofs
open Go.Bi
def zTa:Ta:=⟨[],true,[],true,[],true,[],true,[]⟩
def zCg:Cg:=⟨0,[],[],⟨[],0,false⟩,⟨0,0,[]⟩⟩
def rdEy(x:Ey):Ey:=if x.ch.k=0 then ⟨x.tm,x.tb,rdTa x.cr,zCg⟩ else ⟨x.tm,x.tb,zTa,x.ch⟩
def EyR(x:Ey):Prop:=EyK x/\(x.ch.k=0->∀e∈x.cr.xs,DK e 1)
theorem C.reader_entry(B:List UInt8)(hB:B.length<=1073741824)(a:Nat)(x:Ey)(h:EyR x)(post:List UInt8)(hd:B.drop a=encEy x++post):Rd N.precord_reader_entry [] B a (av (rdEy x).ds) (a+(encEy x).length):=by
 obtain⟨tm,tb,cr,⟨k,nm,to,co,df⟩⟩:=x
 obtain⟨⟨h1,h2,h3,h4⟩,h5⟩:=h
 unfold encEy at hd ⊢
 unfold rdEy
 simp only at h1 h2 h3 h4 h5 hd ⊢
 rw[List.append_assoc,List.append_assoc,List.append_assoc] at hd
 have w0:=C.source_int B hB a tm h1 _ hd
 have d0:=drop_more hd
 obtain⟨p0,hp0⟩:∃z,z=a+(encI tm).length:=⟨_,rfl⟩
 rw[<- hp0] at w0 d0
 have w1:=C.source_text B hB p0 tb h2 _ d0
 have d1:=drop_more d0
 obtain⟨p1,hp1⟩:∃z,z=p0+(encT tb).length:=⟨_,rfl⟩
 rw[<- hp1] at w1 d1
 have w2:=C.source_int B hB p1 k h3 _ d1
 have d2:=drop_more d1
 obtain⟨p2,hp2⟩:∃z,z=p1+(encI k).length:=⟨_,rfl⟩
 rw[<- hp2] at w2 d2
 have k0:=λos ho=>Rd.at w0 rfl rfl 0 os ho
 have k1:=λos ho=>Rd.at w1 rfl rfl 0 os ho
 have k2:=λos ho=>Rd.at w2 rfl rfl 0 os ho
 clear w0 w1 w2 hd d0 d1
 by_cases hk:k=0
 ·rw[if_pos hk] at h4 d2 ⊢
  rw[if_pos hk]
  have w3:=C.reader_table B hB p2 cr ⟨h4,h5 hk⟩ _ d2
  obtain⟨p3,hp3⟩:∃z,z=p2+(encTa cr).length:=⟨_,rfl⟩
  rw[<- hp3] at w3
  have hfin:a+(encI tm++encT tb++encI k++encTa cr).length=p3:=by
   simp only[List.length_append]
   omega
  rw[hfin]
  have k3:=λos ho=>Rd.at w3 rfl (av_isDB _) 0 os ho
  clear w3 d2 hfin hp0 hp1 hp2 hp3
  subst hk
  obtain⟨tt,htt⟩:∃z,z=rdTa cr:=⟨_,rfl⟩
  rw[<- htt] at k3 ⊢
  clear htt
  obtain⟨c1,c2,c3,c4,c5,c6,c7,c8,c9⟩:=tt
  unfold SR at k0 k1 k2 k3
  unfold Rd SR
  obtain⟨Z,hZ⟩:∃z,z=byteL B:=⟨_,rfl⟩
  rw[<- hZ] at k0 k1 k2 k3 ⊢
  refine CallSpec.drop 1 rfl (Q:=λrr os=>rr=av (⟨tm,tb,⟨c1,c2,c3,c4,c5,c6,c7,c8,c9⟩,zCg⟩:Ey).ds/\os.take 1=[.cells [.d (.sl Z),.d (eI p3),.d (eI 0)]]) ?_ (λr os hq=>by obtain⟨rfl,hq⟩:=hq;rw[hq];exact⟨rfl,rfl,rfl,rfl⟩)
  refine F.precord_reader_entry.goX mixed rfl ?_
  repeat' first|refine st ?_|((with_reducible apply go_i);conv=>whnf)|((with_reducible apply k_pa);(·first|exact k0|exact k1))|((with_reducible first|apply k_nc|apply k_cs);(·first|exact k2 _ rfl|exact k3 _ rfl);(try rintro _ _ ⟨rfl,rfl⟩))|((with_reducible apply k_pr);(·first|exact k2 _ rfl|exact k3 _ rfl))|refine⟨λ_=>?_,λ_=>?_⟩|fail
  all_goals exact⟨rfl,rfl⟩
 ·rw[if_neg hk] at h4 d2 ⊢
  rw[if_neg hk]
  obtain⟨g1,g2,g3,g4⟩:=h4
  rw[List.append_assoc,List.append_assoc,List.append_assoc] at d2
  have w3:=C.source_text B hB p2 nm g1 _ d2
  have d3:=drop_more d2
  obtain⟨p3,hp3⟩:∃z,z=p2+(encT nm).length:=⟨_,rfl⟩
  rw[<- hp3] at w3 d3
  have w4:=C.source_text B hB p3 to g2 _ d3
  have d4:=drop_more d3
  obtain⟨p4,hp4⟩:∃z,z=p3+(encT to).length:=⟨_,rfl⟩
  rw[<- hp4] at w4 d4
  have w5:=C.reader_column B hB p4 co g3 _ d4
  have d5:=drop_more d4
  obtain⟨p5,hp5⟩:∃z,z=p4+(encCo co).length:=⟨_,rfl⟩
  rw[<- hp5] at w5 d5
  have w6:=C.source_value B hB p5 df g4 _ d5
  obtain⟨p6,hp6⟩:∃z,z=p5+(encV df).length:=⟨_,rfl⟩
  rw[<- hp6] at w6
  have hfin:a+(encI tm++encT tb++encI k++(encT nm++encT to++encCo co++encV df)).length=p6:=by
   simp only[List.length_append]
   omega
  rw[hfin]
  have k3:=λos ho=>Rd.at w3 rfl rfl 0 os ho
  have k4:=λos ho=>Rd.at w4 rfl rfl 0 os ho
  have k5:=λos ho=>Rd.at w5 rfl rfl 0 os ho
  have k6:=λos ho=>Rd.at w6 rfl rfl 0 os ho
  clear w3 w4 w5 w6 d2 d3 d4 d5 hfin hp0 hp1 hp2 hp3 hp4 hp5 hp6
  unfold SR at k0 k1 k2 k3 k4 k5 k6
  unfold Rd SR
  obtain⟨Z,hZ⟩:∃z,z=byteL B:=⟨_,rfl⟩
  rw[<- hZ] at k0 k1 k2 k3 k4 k5 k6 ⊢
  refine CallSpec.drop 1 rfl (Q:=λrr os=>rr=av (⟨tm,tb,zTa,⟨k,nm,to,co,df⟩⟩:Ey).ds/\os.take 1=[.cells [.d (.sl Z),.d (eI p6),.d (eI 0)]]) ?_ (λr os hq=>by obtain⟨rfl,hq⟩:=hq;rw[hq];exact⟨rfl,rfl,rfl,rfl⟩)
  refine F.precord_reader_entry.goX mixed rfl ?_
  repeat' first|refine st ?_|((with_reducible apply go_i);conv=>whnf)|((with_reducible apply k_pa);(·first|exact k0|exact k1))|((with_reducible first|apply k_nc|apply k_cs);(·first|exact k2 _ rfl|exact k3 _ rfl|exact k4 _ rfl|exact k5 _ rfl|exact k6 _ rfl);(try rintro _ _ ⟨rfl,rfl⟩))|((with_reducible apply k_pr);(·first|exact k2 _ rfl|exact k3 _ rfl|exact k4 _ rfl|exact k5 _ rfl|exact k6 _ rfl))|refine⟨λ_=>?_,λ_=>?_⟩|fail
  all_goals exact⟨rfl,rfl⟩
end Go.Proofs
end
section
namespace Go.Proofs
open Go.Bi
theorem C.get_Entry(l:List Ey)(enc:Ey->List UInt8)(f:FuncId)(hl:l.length<=1048576)(B:List UInt8)(hB:B.length<=1073741824)(a:Nat)(post:List UInt8)(hd:B.drop a=encL enc l++post)
  (hone:∀x∈l,∀(a:Nat) (post:List UInt8),B.drop a=enc x++post->Rd f [] B a (av ((rdEy x)).ds) (a+(enc x).length)):Rd N.record_get_api_Entry [.d (.fn f)] B a (.d (ng true (eEy (l.map rdEy)))) (a+(encL enc l).length):=by
 have hd1:B.drop a=encI l.length++(l.flatMap enc++post):=by rw[hd,encL,List.append_assoc]
 have h0:=C.source_int B hB a l.length ⟨by omega,by omega⟩ _ hd1
 have hd2:=drop_more hd1
 have hone':=λx hx a post hd os=>Rd.at (hone x hx a post hd) rfl (av_isDB _) 0 os
 clear hone
 rw[encL,List.length_append,<- Nat.add_assoc]
 obtain⟨p,hp⟩:∃p,p=a+(encI l.length).length:=⟨_,rfl⟩
 rw[<- hp] at h0 hd2 ⊢
 unfold Rd SR at h0 hone' ⊢
 obtain⟨Z,hZ⟩:∃z,z=byteL B:=⟨_,rfl⟩
 rw[<- hZ] at h0 hone' ⊢
 refine CallSpec.drop 1 rfl (Q:=λr os=>r=.d (ng true (eEy (l.map rdEy)))/\os.take 1=[.cells [.d (.sl Z),.d (eI (p+(l.flatMap enc).length:Nat)),.d (eI 0)]]) ?_ (λr os hq=>by obtain⟨rfl,hq⟩:=hq;rw[hq];exact⟨rfl,rfl,rfl,rfl⟩)
 refine F.record_get_api_Entry.goX mixed rfl ?_
 repeat' first|refine st ?_|((with_reducible apply go_i);conv=>whnf)|((with_reducible first|apply k_nc|apply k_cs);(·exact h0);(try rintro _ _ ⟨rfl,rfl⟩))|((with_reducible apply k_pr);(·exact h0))|refine⟨λ_=>?_,λ_=>?_⟩|fail
 refine x_nil 6 16 rfl rfl ?_
 refine x_exitW ?_
 refine x_loop3 mixed Lt.record_get_api_Entry_l0 Lk.record_get_api_Entry_l0 (λ(i q:Nat) (A:List (List D))=>[.arr 1 A.length,.d (eI i)]) (λi q A=>[.cells [.d (.sl Z),.d (eI q),.d (eI 0)],.arr A 16 0 A.isEmpty]) (λi q A=>i<=l.length/\q=p+((l.take i).flatMap enc).length/\A=eEy ((l.map rdEy).take i)) (λi q A=>l.length-i) 0 p [] rfl rfl rfl rfl (λ_ _ _ _=>⟨rfl,rfl⟩) rfl ⟨by omega,by simp,by simp[eEy]⟩ ?_
 repeat' first|refine st ?_|((with_reducible apply go_i);conv=>whnf)|refine⟨λ_=>?_,λ_=>?_⟩|fail
 intro i q A ⟨i1,i2,i3⟩
 have hAl:A.length=i:=by rw[i3,eEy_len];simp;omega
 by_cases hi:i<l.length
 ·obtain⟨x,hx⟩:∃x,l[i]?=some x:=⟨_,List.getElem?_eq_getElem hi⟩
  have htk:=flat_take (f:=enc) hx
  have hdr:B.drop q=enc x++((l.drop (i+1)).flatMap enc++post):=by
   rw[flat_split hx,List.append_assoc] at hd2
   rw[i2,drop_more hd2,List.append_assoc]
  have hc:=hone' x (List.mem_of_getElem? hx) q _ hdr
  have hAx:A++[(rdEy x).ds]=eEy ((l.map rdEy).take (i+1)):=by
   rw[i3,List.take_add_one]
   simp[eEy,hx]
  obtain⟨w,hw⟩:∃w,w=rdEy x:=⟨_,rfl⟩
  rw[<- hw] at hc hAx
  clear hw
  obtain⟨y,hy⟩:∃y,y=q+(enc x).length:=⟨_,rfl⟩
  rw[<- hy] at hc
  repeat' first|refine st ?_|((with_reducible apply go_i);conv=>whnf)|((with_reducible first|apply k_nc|apply k_cs);(·exact hc _ rfl);(try rintro _ _ ⟨rfl,rfl⟩))|((with_reducible apply k_pr);(·exact hc _ rfl))|refine⟨λ_=>?_,λ_=>?_⟩|fail
  all_goals exact⟨i+1,y,A++[_],by simp,by simp,by simp,by omega,by omega,by rw[htk,List.length_append,hy,i2,Nat.add_assoc],hAx⟩
 ·have hi:i=l.length:=by omega
  subst hi
  have hAe:A=eEy (l.map rdEy):=by rw[i3,List.take_of_length_le (by simp)]
  rw[List.take_length] at i2
  repeat' first|refine st ?_|((with_reducible apply go_i);conv=>whnf)|refine⟨λ_=>?_,λ_=>?_⟩|fail
  refine⟨_,_,WeakL.frz 6 rfl rfl rfl WeakL.refl,?_⟩
  rw[ng_e]
  refine go_o ?_
  repeat' first|refine st ?_|((with_reducible apply go_i);conv=>whnf)|refine⟨λ_=>?_,λ_=>?_⟩|fail
  all_goals (subst hAe;rw[i2];exact⟨rfl,rfl⟩)
end Go.Proofs
end
section
namespace Go.Proofs
open Go.Bi
theorem C.record_within(n a b:Int):Pure Tryz.prog N.record_within [.d (eI n),.d (eI a),.d (eI b)] (.d (.bool (decide (a<=n/\n<=b)))):=by
 refine F.record_within.go mixed rfl ?_
 obtain⟨z,hz⟩:∃z,z=decide (a<=n/\n<=b):=⟨_,rfl⟩
 rw[<- hz]
 by_cases h1:a<=n
 ·by_cases h2:n<=b
  ·rw[hz,decide_eq_true ⟨h1,h2⟩]
   repeat' first|refine st ?_|((with_reducible apply go_i);conv=>whnf)|refine⟨λ_=>?_,λ_=>?_⟩|fail
   all_goals simp[h2]
  ·rw[hz,decide_eq_false (λh=>h2 h.2)]
   repeat' first|refine st ?_|((with_reducible apply go_i);conv=>whnf)|refine⟨λ_=>?_,λ_=>?_⟩|fail
   all_goals simp[h2]
 ·rw[hz,decide_eq_false (λh=>h1 h.1)]
  repeat' first|refine st ?_|((with_reducible apply go_i);conv=>whnf)|refine⟨λ_=>?_,λ_=>?_⟩|fail
  all_goals rfl
def wdC(c:UInt8):Bool:=decide (c.toNat=95)||decide (97<=c.toNat/\c.toNat<=122)||decide (48<=c.toNat/\c.toNat<=57)
def wordB:List UInt8->Bool
 |[]=>false
 |c::s=>decide ((c::s).length<=24)&&!decide (48<=c.toNat/\c.toNat<=57)&&(c::s).all wdC
theorem wdC_iff(c:UInt8):wdC c=true↔c.toNat=95\/(97<=c.toNat/\c.toNat<=122)\/(48<=c.toNat/\c.toNat<=57):=by
 simp only[wdC,Bool.or_eq_true,decide_eq_true_eq,or_assoc]
end Go.Proofs
end
section
namespace Go.Proofs
open Go.Bi
theorem C.record_word(s:List UInt8)(hs:s.length<=1048576):Pure Tryz.prog N.record_word [.d (.str s)] (.d (.bool (wordB s))):=by
 refine F.record_word.go mixed rfl ?_
 cases s with
 |nil=>
  repeat' first|refine st ?_|((with_reducible apply go_i);conv=>whnf)|refine⟨λ_=>?_,λ_=>?_⟩|fail
  all_goals rfl
 |cons c t=>
  have hg0:(c::t)[0]?=some c:=rfl
  obtain⟨b,hb⟩:∃b,b=wordB (c::t):=⟨_,rfl⟩
  rw[<- hb]
  rw[wordB] at hb
  have hbl:=byteL_l (c::t)
  have hb1:=byteL_1 (c::t)
  have hbg:=λi x=>@byteL_get (c::t) i x
  obtain⟨s,hst⟩:∃s,s=c::t:=⟨_,rfl⟩
  have hne:s≠[]:=by rw[hst];simp
  have hpos:0<s.length:=by rw[hst];simp
  rw[<- hst] at hs hg0 hb hbl hb1 hbg ⊢
  have hgn:(s.getD (Int.toNat 0) 0).toNat=c.toNat:=by simp[List.getD,hg0]
  clear hst
  by_cases hl:s.length<=24
  ·by_cases hd:48<=c.toNat/\c.toNat<=57
   ·have hbf:b=false:=by rw[hb];simp[hd.1,hd.2]
    rw[hbf]
    repeat' first|refine st ?_|((with_reducible apply go_i);conv=>whnf)|refine⟨λ_=>?_,λ_=>?_⟩|fail
    all_goals first|rfl|(exfalso;omega)
   ·have hbe:b=s.all wdC:=by rw[hb];simp[hl,hd]
    clear hb
    repeat' first|refine st ?_|((with_reducible apply go_i);conv=>whnf)|refine⟨λ_=>?_,λ_=>?_⟩|fail
    all_goals first|(exfalso;omega)|skip
    all_goals
     refine x_loop1 mixed Lt.record_word_l0 Lk.record_word_l0 (λ(i:Nat)=>[.d (eI i)]) (λi=>[]) (λi=>i<=s.length/\(s.take i).all wdC=true) (λi=>s.length-i) 0 rfl rfl rfl rfl (λ_ _=>⟨rfl,rfl⟩) rfl ⟨by omega,by simp⟩ ?_
     repeat' first|refine st ?_|((with_reducible apply go_i);conv=>whnf)|refine⟨λ_=>?_,λ_=>?_⟩|fail
     intro i ⟨h1,h2⟩
     cases hx:s[i]? with
     |some x=>
      have hlt:=(List.getElem?_eq_some_iff.1 hx).1
      have hget:=hbg i x hx
      by_cases hk:wdC x=true
      ·have hs2:(s.take (i+1)).all wdC=true:=by rw[List.take_add_one,hx];simp[h2,hk]
       have hk2:=(wdC_iff x).1 hk
       rcases hk2 with k1|⟨k1,k2⟩|⟨k1,k2⟩
       ·repeat' first|refine st ?_|((with_reducible apply go_i);conv=>whnf)|refine⟨λ_=>?_,λ_=>?_⟩|fail
        all_goals first|(exfalso;omega)|exact⟨i+1,rfl,rfl,rfl,by omega,by omega,hs2⟩
       ·repeat' first|refine st ?_|((with_reducible apply go_i);conv=>whnf)|refine⟨λ_=>?_,λ_=>?_⟩|fail
        all_goals first|(exfalso;omega)|exact⟨i+1,rfl,rfl,rfl,by omega,by omega,hs2⟩
       ·repeat' first|refine st ?_|((with_reducible apply go_i);conv=>whnf)|refine⟨λ_=>?_,λ_=>?_⟩|fail
        all_goals first|(exfalso;omega)|exact⟨i+1,rfl,rfl,rfl,by omega,by omega,hs2⟩
      ·have hbf:b=false:=by
        rw[hbe,Bool.eq_false_iff]
        intro h
        exact hk (List.all_eq_true.1 h x (List.mem_of_getElem? hx))
       have hk2:¬_:=λh=>hk ((wdC_iff x).2 h)
       rw[hbf]
       repeat' first|refine st ?_|((with_reducible apply go_i);conv=>whnf)|refine⟨λ_=>?_,λ_=>?_⟩|fail
       all_goals first|rfl|(exfalso;omega)
     |none=>
      have hge:=List.getElem?_eq_none_iff.1 hx
      rw[List.take_of_length_le hge,<- hbe] at h2
      rw[h2]
      repeat' first|refine st ?_|((with_reducible apply go_i);conv=>whnf)|refine⟨λ_=>?_,λ_=>?_⟩|fail
      all_goals first|rfl|(exfalso;omega)
  ·have hbf:b=false:=by rw[hb];simp[hl]
   rw[hbf]
   repeat' first|refine st ?_|((with_reducible apply go_i);conv=>whnf)|refine⟨λ_=>?_,λ_=>?_⟩|fail
   all_goals first|rfl|(exfalso;omega)
end Go.Proofs
end
section
namespace Go.Proofs
open Go.Bi
def ixP{α:Type}(p:α->Bool):Nat->List α->Int
 |_,[]=>-1
 |i,x::l=>if p x then (i:Int) else ixP p (i+1) l
theorem ixP_ge{α:Type}(p:α->Bool):∀(l:List α) (i:Nat),decide (ixP p i l>=0)=l.any p
 |[],i=>by simp[ixP]
 |x::l,i=>by
  rw[ixP,List.any_cons]
  cases p x with
  |true=>simp
  |false=>simpa using ixP_ge p l (i+1)
theorem ixP_drop{α:Type}(p:α->Bool){l:List α}{i:Nat}{x:α}(h:l[i]?=some x):ixP p i (l.drop i)=if p x then (i:Int) else ixP p (i+1) (l.drop (i+1)):=by
 obtain⟨hlt,he⟩:=List.getElem?_eq_some_iff.1 h
 rw[List.drop_eq_getElem_cons hlt,he,ixP]
def inC(n:Int):Bool:=decide (0<=n/\n<=11)
theorem C.record_indexes_c1(n:Int):Pure Tryz.prog N.record_indexes_c1 [.d (eI n)] (.d (.bool (!inC n))):=by
 have h:=C.record_within n 0 11
 rw[show decide (0<=n/\n<=11)=inC n from rfl] at h
 obtain⟨b,hb⟩:∃b,b=inC n:=⟨_,rfl⟩
 rw[<- hb] at h ⊢
 refine F.record_indexes_c1.go mixed rfl ?_
 repeat' first|refine st ?_|((with_reducible apply go_i);conv=>whnf)|refine⟨λ_=>?_,λ_=>?_⟩|fail
 all_goals rfl
theorem C.indexFunc_int(l:List Int)(hl:l.length<=1048576)(d:D)(hd:SlD d (eIs l))(f:FuncId)(p:Int->Bool)(hf:∀n,Pure Tryz.prog f [.d (eI n)] (.d (.bool (p n)))):Pure Tryz.prog N.slices_IndexFunc__int_int [.d d,.d (.fn f)] (.d (eI (ixP p 0 l))):=by
 refine F.slices_IndexFunc__int_int.go mixed rfl ?_
 have e1:=eIs_len l
 have e2:=eIs_mem l
 have e3:=λi x=>@eIs_get l i x
 obtain⟨es,hes⟩:∃z,z=eIs l:=⟨_,rfl⟩
 rw[<- hes] at hd e1 e2 e3
 clear hes
 obtain⟨r,hr⟩:∃z,z=ixP p 0 l:=⟨_,rfl⟩
 rw[<- hr]
 repeat' first|refine st ?_|((with_reducible apply go_i);conv=>whnf)|refine⟨λ_=>?_,λ_=>?_⟩|fail
 refine x_loop1 mixed Lt.slices_IndexFunc__int_int_l0 Lk.slices_IndexFunc__int_int_l0 (λ(i:Nat)=>[.d (eI i)]) (λi=>[]) (λi=>i<=l.length/\r=ixP p i (l.drop i)) (λi=>l.length-i) 0 rfl rfl rfl rfl (λ_ _=>⟨rfl,rfl⟩) rfl ⟨by omega,hr⟩ ?_
 repeat' first|refine st ?_|((with_reducible apply go_i);conv=>whnf)|refine⟨λ_=>?_,λ_=>?_⟩|fail
 intro i ⟨i1,i2⟩
 cases hx:l[i]? with
 |some x=>
  have hlt:=(List.getElem?_eq_some_iff.1 hx).1
  have hget:=e3 i x hx
  have hc:=hf x
  rw[ixP_drop p hx] at i2
  cases hp:p x with
  |true=>
   rw[hp] at hc i2
   rw[if_pos rfl] at i2
   rw[i2]
   repeat' first|refine st ?_|((with_reducible apply go_i);conv=>whnf)|refine⟨λ_=>?_,λ_=>?_⟩|fail
   all_goals rfl
  |false=>
   rw[hp] at hc i2
   rw[if_neg Bool.false_ne_true] at i2
   repeat' first|refine st ?_|((with_reducible apply go_i);conv=>whnf)|refine⟨λ_=>?_,λ_=>?_⟩|fail
   all_goals exact⟨i+1,rfl,rfl,rfl,by omega,by omega,i2⟩
 |none=>
  have hge:=List.getElem?_eq_none_iff.1 hx
  rw[List.drop_eq_nil_of_le hge,ixP] at i2
  rw[i2]
  repeat' first|refine st ?_|((with_reducible apply go_i);conv=>whnf)|refine⟨λ_=>?_,λ_=>?_⟩|fail
  all_goals first|rfl|(exfalso;omega)
end Go.Proofs
end
section
namespace Go.Proofs
open Go.Bi
theorem C.containsFunc_int(l:List Int)(hl:l.length<=1048576)(d:D)(hd:SlD d (eIs l))(f:FuncId)(p:Int->Bool)(hf:∀n,Pure Tryz.prog f [.d (eI n)] (.d (.bool (p n)))):Pure Tryz.prog N.slices_ContainsFunc__int_int [.d d,.d (.fn f)] (.d (.bool (l.any p))):=by
 have h:=C.indexFunc_int l hl d hd f p hf
 rw[<- ixP_ge p l 0]
 obtain⟨r,hr⟩:∃r,r=ixP p 0 l:=⟨_,rfl⟩
 rw[<- hr] at h ⊢
 refine F.slices_ContainsFunc__int_int.go mixed rfl ?_
 repeat' first|refine st ?_|((with_reducible apply go_i);conv=>whnf)|refine⟨λ_=>?_,λ_=>?_⟩|fail
 all_goals rfl
theorem all_any{α:Type}(p:α->Bool):∀l:List α,l.all p=!(l.any λn=>!p n)
 |[]=>rfl
 |a::l=>by
  rw[List.all_cons,List.any_cons,all_any p l]
  cases p a<;>rfl
def idxB(l:List Int):Bool:=decide (l.length<=12)&&l.all inC
theorem C.record_indexes(l:List Int)(hl:l.length<=1048576)(d:D)(hd:SlD d (eIs l)):Pure Tryz.prog N.record_indexes [.d d] (.d (.bool (idxB l))):=by
 have h:=C.containsFunc_int l hl d hd N.record_indexes_c1 (λn=>!inC n) C.record_indexes_c1
 have e:=all_any inC l
 have e1:=eIs_len l
 have e2:=eIs_mem l
 unfold idxB
 rw[e]
 obtain⟨r,hr⟩:∃r,r=l.any λn=>!inC n:=⟨_,rfl⟩
 rw[<- hr] at h ⊢
 obtain⟨es,hes⟩:∃z,z=eIs l:=⟨_,rfl⟩
 rw[<- hes] at hd e1 e2
 clear hes
 refine F.record_indexes.go mixed rfl ?_
 by_cases hk:l.length<=12
 ·rw[decide_eq_true hk]
  repeat' first|refine st ?_|((with_reducible apply go_i);conv=>whnf)|refine⟨λ_=>?_,λ_=>?_⟩|fail
  all_goals first|rfl|(exfalso;omega)
 ·rw[decide_eq_false hk]
  repeat' first|refine st ?_|((with_reducible apply go_i);conv=>whnf)|refine⟨λ_=>?_,λ_=>?_⟩|fail
  all_goals first|rfl|(exfalso;omega)
end Go.Proofs
end
section
namespace Go.Proofs
open Go.Bi
def pxC(c:UInt8):Bool:=decide (32<=(c.toNat:Int)/\(c.toNat:Int)<=126)
mutual
def stB:Ex->Nat->Bool
 |.mk op n v nm _ args,k=>decide (k<=24)&&(decide (1<=op/\op<=26)&&(decide (-1125899906842624<=n/\n<=1125899906842624)&&(vValid v&&(decide (nm.length<=49)&&(nm.all pxC&&stBs args (k+1))))))
def stBs:List Ex->Nat->Bool
 |[],_=>true
 |e::es,k=>stB e k&&stBs es k
end
theorem stBs_eq:∀(l:List Ex) (k:Nat),stBs l k=l.all λe=>stB e k
 |[],_=>by simp[stBs]
 |e::es,k=>by simp[stBs,stBs_eq es]
theorem C.record_storedExpr:∀x:Ex,x.bk<=1048576->∀k:Nat,k<=25->Pure Tryz.prog N.record_storedExpr [x.av,.d (eI k)] (.d (.bool (stB x k))):=by
 refine Ex.ind λop n v nm nl args ih hbk k hk=>?_
 have hb0:=Ex.bk_mk op n v nm nl args
 have hal:=xL_bulk_len args
 have c1:=C.record_within op 1 26
 have c2:=C.record_within n (-1125899906842624) 1125899906842624
 have c3:=C.value_Valid v (by omega)
 rw[Ex.av_mk,stB,stBs_eq]
 have e1:=xL_len args
 have e2:=xL_mem args
 have hd:SlD (ng nl (xL args)) (xL args):=sld_ng
 obtain⟨d,hde⟩:∃d,d=ng nl (xL args):=⟨_,rfl⟩
 rw[<- hde] at hd ⊢
 obtain⟨b1,hb1⟩:∃b,b=decide (1<=op/\op<=26):=⟨_,rfl⟩
 obtain⟨b2,hb2⟩:∃b,b=decide (-1125899906842624<=n/\n<=1125899906842624):=⟨_,rfl⟩
 obtain⟨b3,hb3⟩:∃b,b=vValid v:=⟨_,rfl⟩
 rw[<- hb1] at c1 ⊢
 rw[<- hb2] at c2 ⊢
 rw[<- hb3] at c3 ⊢
 refine F.record_storedExpr.go mixed rfl ?_
 by_cases h0:k<=24
 ·rw[decide_eq_true h0,Bool.true_and]
  cases b1 with
  |false=>
   repeat' first|refine st ?_|((with_reducible apply go_i);conv=>whnf)|refine⟨λ_=>?_,λ_=>?_⟩|fail
   all_goals first|rfl|(exfalso;omega)
  |true=>
  cases b2 with
  |false=>
   repeat' first|refine st ?_|((with_reducible apply go_i);conv=>whnf)|refine⟨λ_=>?_,λ_=>?_⟩|fail
   all_goals first|rfl|(exfalso;omega)
  |true=>
  cases b3 with
  |false=>
   repeat' first|refine st ?_|((with_reducible apply go_i);conv=>whnf)|refine⟨λ_=>?_,λ_=>?_⟩|fail
   all_goals first|rfl|(exfalso;omega)
  |true=>
  simp only[Bool.true_and]
  by_cases h1:nm.length<=49
  ·rw[decide_eq_true h1,Bool.true_and]
   have hbl:=byteL_l nm
   have hb1':=byteL_1 nm
   have hbg:=λi x=>@byteL_get nm i x
   have cw:=λc:UInt8=>C.record_within c.toNat 32 126
   obtain⟨R,hR⟩:∃R,R=args.all λe=>stB e (k+1):=⟨_,rfl⟩
   rw[<- hR]
   repeat' first|refine st ?_|((with_reducible apply go_i);conv=>whnf)|refine⟨λ_=>?_,λ_=>?_⟩|fail
   refine x_loop1 mixed Lt.record_storedExpr_l0 Lk.record_storedExpr_l0 (λ(i:Nat)=>[.d (eI i)]) (λi=>[.cells [.d (eI op),.d (eI n),.d (eI v.k),.d (eI v.n),.d (.str v.s),.d (.str nm),.d d]]) (λi=>i<=nm.length/\(nm.take i).all pxC=true) (λi=>nm.length-i) 0 rfl rfl rfl rfl (λ_ _=>⟨rfl,rfl⟩) rfl ⟨by omega,by simp⟩ ?_
   repeat' first|refine st ?_|((with_reducible apply go_i);conv=>whnf)|refine⟨λ_=>?_,λ_=>?_⟩|fail
   intro i ⟨i1,i2⟩
   cases hx:nm[i]? with
   |some x=>
    have hlt:=(List.getElem?_eq_some_iff.1 hx).1
    have hget:=hbg i x hx
    have hw:IntKind.i64.wrap (x.toNat:Int)=x.toNat:=wrap64 (by omega) (by have:=x.toNat_lt;omega)
    have hc:=C.record_within (IntKind.i64.wrap (x.toNat:Int)) 32 126
    have hpe:decide (32<=IntKind.i64.wrap (x.toNat:Int)/\IntKind.i64.wrap (x.toNat:Int)<=126)=pxC x:=by rw[hw];rfl
    rw[hpe] at hc
    cases hp:pxC x with
    |true=>
     rw[hp] at hc
     have hs2:(nm.take (i+1)).all pxC=true:=by rw[List.take_add_one,hx];simp[i2,hp]
     repeat' first|refine st ?_|((with_reducible apply go_i);conv=>whnf)|refine⟨λ_=>?_,λ_=>?_⟩|fail
     all_goals exact⟨i+1,rfl,rfl,rfl,by omega,by omega,hs2⟩
    |false=>
     rw[hp] at hc
     have hf:nm.all pxC=false:=by
      rw[Bool.eq_false_iff]
      intro h
      rw[List.all_eq_true.1 h x (List.mem_of_getElem? hx)] at hp
      cases hp
     rw[hf,Bool.false_and]
     repeat' first|refine st ?_|((with_reducible apply go_i);conv=>whnf)|refine⟨λ_=>?_,λ_=>?_⟩|fail
     all_goals rfl
   |none=>
    have hge:=List.getElem?_eq_none_iff.1 hx
    rw[List.take_of_length_le hge] at i2
    rw[i2,Bool.true_and]
    repeat' first|refine st ?_|((with_reducible apply go_i);conv=>whnf)|refine⟨λ_=>?_,λ_=>?_⟩|fail
    have ek:((k+1:Nat):Int)=(k:Int)+1:=by omega
    obtain⟨_,_,_,b4⟩:=Ex.bk_bounds hbk
    refine x_loop1 mixed Lt.record_storedExpr_l1 Lk.record_storedExpr_l1 (λ(j:Nat)=>[.d (eI j)]) (λj=>[.cells [.d (eI op),.d (eI n),.d (eI v.k),.d (eI v.n),.d (.str v.s),.d (.str nm),.d d]]) (λj=>j<=args.length/\R=(args.drop j).all λe=>stB e (k+1)) (λj=>args.length-j) 0 rfl rfl rfl rfl (λ_ _=>⟨rfl,rfl⟩) rfl ⟨by omega,hR⟩ ?_
    repeat' first|refine st ?_|((with_reducible apply go_i);conv=>whnf)|refine⟨λ_=>?_,λ_=>?_⟩|fail
    intro j ⟨j1,j2⟩
    cases hy:args[j]? with
    |some y=>
     have hlt:=(List.getElem?_eq_some_iff.1 hy).1
     have hgy:=xL_get hy
     have hym:=List.mem_of_getElem? hy
     have hcy:=ih y hym (b4 y hym) (k+1) (by omega)
     rw[ek] at hcy
     rw[List.drop_eq_getElem_cons hlt,(List.getElem?_eq_some_iff.1 hy).2,List.all_cons] at j2
     obtain⟨q,hq⟩:∃q,q=stB y (k+1):=⟨_,rfl⟩
     rw[<- hq] at hcy j2
     obtain⟨yop,yn,yv,ynm,ynl,yas⟩:=y
     rw[Ex.av_mk] at hcy
     rw[Ex.ds_mk] at hgy
     obtain⟨yd,hyd⟩:∃z,z=ng ynl (xL yas):=⟨_,rfl⟩
     rw[<- hyd] at hcy hgy
     cases q with
     |true=>
      rw[Bool.true_and] at j2
      repeat' first|refine st ?_|((with_reducible apply go_i);conv=>whnf)|refine⟨λ_=>?_,λ_=>?_⟩|fail
      all_goals exact⟨j+1,rfl,rfl,rfl,by omega,by omega,j2⟩
     |false=>
      rw[Bool.false_and] at j2
      rw[j2]
      repeat' first|refine st ?_|((with_reducible apply go_i);conv=>whnf)|refine⟨λ_=>?_,λ_=>?_⟩|fail
      all_goals rfl
    |none=>
     have hgy:=List.getElem?_eq_none_iff.1 hy
     rw[List.drop_eq_nil_of_le hgy] at j2
     rw[j2]
     repeat' first|refine st ?_|((with_reducible apply go_i);conv=>whnf)|refine⟨λ_=>?_,λ_=>?_⟩|fail
     all_goals first|rfl|(exfalso;omega)
  ·rw[decide_eq_false h1]
   repeat' first|refine st ?_|((with_reducible apply go_i);conv=>whnf)|refine⟨λ_=>?_,λ_=>?_⟩|fail
   all_goals first|rfl|(exfalso;omega)
 ·rw[decide_eq_false h0]
  repeat' first|refine st ?_|((with_reducible apply go_i);conv=>whnf)|refine⟨λ_=>?_,λ_=>?_⟩|fail
  all_goals first|rfl|(exfalso;omega)
end Go.Proofs
end
section
namespace Go.Proofs
open Go.Bi
def blB(t:Ta):Bool:=decide (t.nm=[])&&decide (t.cs.length+t.ks.length+t.fs.length+t.xs.length=0)
theorem C.record_blank(t:Ta)(h1:t.cs.length<=1048576)(h2:t.ks.length<=1048576)(h3:t.fs.length<=1048576)(h4:t.xs.length<=1048576):Pure Tryz.prog N.record_blank [av t.ds] (.d (.bool (blB t))):=by
 obtain⟨nm,n1,cs,n2,ks,n3,fs,n4,xs⟩:=t
 simp only at h1 h2 h3 h4
 have e1:=eCs_len cs
 have e2:=eIs_len ks
 have e3:=eFk_len fs
 have e4:=xL_len xs
 have d1:SlD (ng n1 (eCs cs)) (eCs cs):=sld_ng
 have d2:SlD (ng n2 (eIs ks)) (eIs ks):=sld_ng
 have d3:SlD (ng n3 (eFk fs)) (eFk fs):=sld_ng
 have d4:SlD (ng n4 (xL xs)) (xL xs):=sld_ng
 unfold blB Ta.ds
 simp only
 generalize ng n1 (eCs cs)=y1 at *
 generalize ng n2 (eIs ks)=y2 at *
 generalize ng n3 (eFk fs)=y3 at *
 generalize ng n4 (xL xs)=y4 at *
 generalize eCs cs=z1 at *
 generalize eIs ks=z2 at *
 generalize eFk fs=z3 at *
 generalize xL xs=z4 at *
 refine F.record_blank.go mixed rfl ?_
 by_cases hn:nm=[]
 ·rw[decide_eq_true hn,Bool.true_and]
  subst hn
  by_cases hz:cs.length+ks.length+fs.length+xs.length=0
  ·rw[decide_eq_true hz]
   repeat' first|refine st ?_|((with_reducible apply go_i);conv=>whnf)|refine⟨λ_=>?_,λ_=>?_⟩|fail
   all_goals first|rfl|(exfalso;omega)|(simp;omega)
  ·rw[decide_eq_false hz]
   repeat' first|refine st ?_|((with_reducible apply go_i);conv=>whnf)|refine⟨λ_=>?_,λ_=>?_⟩|fail
   all_goals first|rfl|(exfalso;omega)|(simp;omega)
 ·rw[decide_eq_false hn,Bool.false_and]
  repeat' first|refine st ?_|((with_reducible apply go_i);conv=>whnf)|refine⟨λ_=>?_,λ_=>?_⟩|fail
  all_goals first|rfl|(exfalso;omega)|contradiction
end Go.Proofs
end
section
namespace Go.Proofs
open Go.Bi
theorem C.validRow_c1(v:Vl)(h:v.s.length<=1048576):Pure Tryz.prog N.record_validRow_c1 [eV v] (.d (.bool (!vValid v))):=by
 have hc:=C.value_Valid v (by omega)
 generalize vValid v=b at *
 refine F.record_validRow_c1.go mixed rfl ?_
 repeat' first|refine st ?_|((with_reducible apply go_i);conv=>whnf)|refine⟨λ_=>?_,λ_=>?_⟩|fail
 all_goals rfl
theorem C.record_instant(n:Int):Pure Tryz.prog N.record_instant [.d (eI n)] (.d (.bool (decide (0<=n/\n<=1099511627775)))):=by
 have hc:=C.record_within n 0 1099511627775
 generalize decide (0<=n/\n<=1099511627775)=b at *
 refine F.record_instant.go mixed rfl ?_
 repeat' first|refine st ?_|((with_reducible apply go_i);conv=>whnf)|refine⟨λ_=>?_,λ_=>?_⟩|fail
 all_goals rfl
end Go.Proofs
end
section
namespace Go.Proofs
open Go.Bi
theorem C.indexFunc_val(l:List Vl)(hl:l.length<=1048576)(d:D)(hd:SlD d (eVs l))(f:FuncId)(p:Vl->Bool)(hf:∀v∈l,Pure Tryz.prog f [eV v] (.d (.bool (p v)))):Pure Tryz.prog N.slices_IndexFunc__api_Value_api_Value [.d d,.d (.fn f)] (.d (eI (ixP p 0 l))):=by
 refine F.slices_IndexFunc__api_Value_api_Value.go mixed rfl ?_
 have e1:=eVs_len l
 have e2:=eVs_mem l
 have e3:=λi x=>@eVs_get l i x
 obtain⟨es,hes⟩:∃z,z=eVs l:=⟨_,rfl⟩
 rw[<- hes] at hd e1 e2 e3
 clear hes
 obtain⟨r,hr⟩:∃z,z=ixP p 0 l:=⟨_,rfl⟩
 rw[<- hr]
 repeat' first|refine st ?_|((with_reducible apply go_i);conv=>whnf)|refine⟨λ_=>?_,λ_=>?_⟩|fail
 refine x_loop1 mixed Lt.slices_IndexFunc__api_Value_api_Value_l0 Lk.slices_IndexFunc__api_Value_api_Value_l0 (λ(i:Nat)=>[.d (eI i)]) (λi=>[]) (λi=>i<=l.length/\r=ixP p i (l.drop i)) (λi=>l.length-i) 0 rfl rfl rfl rfl (λ_ _=>⟨rfl,rfl⟩) rfl ⟨by omega,hr⟩ ?_
 repeat' first|refine st ?_|((with_reducible apply go_i);conv=>whnf)|refine⟨λ_=>?_,λ_=>?_⟩|fail
 intro i ⟨i1,i2⟩
 cases hx:l[i]? with
 |some x=>
  have hlt:=(List.getElem?_eq_some_iff.1 hx).1
  have hget:=e3 i x hx
  have hc:=hf x (List.mem_of_getElem? hx)
  rw[ixP_drop p hx] at i2
  cases hp:p x with
  |true=>
   rw[hp] at hc i2
   rw[if_pos rfl] at i2
   rw[i2]
   repeat' first|refine st ?_|((with_reducible apply go_i);conv=>whnf)|refine⟨λ_=>?_,λ_=>?_⟩|fail
   all_goals rfl
  |false=>
   rw[hp] at hc i2
   rw[if_neg Bool.false_ne_true] at i2
   repeat' first|refine st ?_|((with_reducible apply go_i);conv=>whnf)|refine⟨λ_=>?_,λ_=>?_⟩|fail
   all_goals exact⟨i+1,rfl,rfl,rfl,by omega,by omega,i2⟩
 |none=>
  have hge:=List.getElem?_eq_none_iff.1 hx
  rw[List.drop_eq_nil_of_le hge,ixP] at i2
  rw[i2]
  repeat' first|refine st ?_|((with_reducible apply go_i);conv=>whnf)|refine⟨λ_=>?_,λ_=>?_⟩|fail
  all_goals first|rfl|(exfalso;omega)
end Go.Proofs
end
section
namespace Go.Proofs
open Go.Bi
theorem C.containsFunc_val(l:List Vl)(hl:l.length<=1048576)(d:D)(hd:SlD d (eVs l))(f:FuncId)(p:Vl->Bool)(hf:∀v∈l,Pure Tryz.prog f [eV v] (.d (.bool (p v)))):Pure Tryz.prog N.slices_ContainsFunc__api_Value_api_Value [.d d,.d (.fn f)] (.d (.bool (l.any p))):=by
 have h:=C.indexFunc_val l hl d hd f p hf
 rw[<- ixP_ge p l 0]
 obtain⟨r,hr⟩:∃r,r=ixP p 0 l:=⟨_,rfl⟩
 rw[<- hr] at h ⊢
 refine F.slices_ContainsFunc__api_Value_api_Value.go mixed rfl ?_
 repeat' first|refine st ?_|((with_reducible apply go_i);conv=>whnf)|refine⟨λ_=>?_,λ_=>?_⟩|fail
 all_goals rfl
def rowB(l:List Vl):Bool:=decide (l.length<=12)&&l.all vValid
theorem C.record_validRow(l:List Vl)(hl:l.length<=1048576)(hs:∀v∈l,v.s.length<=1048576)(d:D)(hd:SlD d (eVs l)):Pure Tryz.prog N.record_validRow [.d d] (.d (.bool (rowB l))):=by
 have h:=C.containsFunc_val l hl d hd N.record_validRow_c1 (λv=>!vValid v) (λv hv=>C.validRow_c1 v (hs v hv))
 have e:=all_any vValid l
 have e1:=eVs_len l
 have e2:=eVs_mem l
 unfold rowB
 rw[e]
 obtain⟨r,hr⟩:∃r,r=l.any λv=>!vValid v:=⟨_,rfl⟩
 rw[<- hr] at h ⊢
 obtain⟨es,hes⟩:∃z,z=eVs l:=⟨_,rfl⟩
 rw[<- hes] at hd e1 e2
 clear hes
 refine F.record_validRow.go mixed rfl ?_
 by_cases hk:l.length<=12
 ·rw[decide_eq_true hk]
  repeat' first|refine st ?_|((with_reducible apply go_i);conv=>whnf)|refine⟨λ_=>?_,λ_=>?_⟩|fail
  all_goals first|rfl|(exfalso;omega)
 ·rw[decide_eq_false hk]
  repeat' first|refine st ?_|((with_reducible apply go_i);conv=>whnf)|refine⟨λ_=>?_,λ_=>?_⟩|fail
  all_goals first|rfl|(exfalso;omega)
end Go.Proofs
end
