/- Texts of this claim, joined. No condition. -/
import Derived.Test.YtlkkaepbnnakpaaGreatDoorQ1
set_option linter.unusedSimpArgs false
set_option linter.unusedVariables false
set_option maxRecDepth 10000
set_option maxHeartbeats 4000000
section
namespace Go.Proofs
open Go.Bi
theorem rep_len(old new:List UInt8)(h:new.length<=old.length):∀(n:Nat)(s:List UInt8),(rep old new n s).length<=s.length
 |0,s=>Nat.le_refl _
 |n+1,[]=>Nat.le_refl _
 |n+1,c::s=>by
  rw[rep]
  split
  ·rename_i hp
   have h1:=rep_len old new h n ((c::s).drop old.length)
   have h2:old.length<=(c::s).length:=by
    have:=List.isPrefixOf_iff_prefix.1 hp
    exact this.length_le
   rw[List.length_append]
   rw[List.length_drop] at h1
   omega
  ·have h1:=rep_len old new h n s
   simp only[List.length_cons];omega
def parT(r:List UInt8):Vl×Int:=
 if hs1 39 r=false\/prB r.dropLast=false then (vNull,1)
 else match unq r.dropLast with
  |none=>(vNull,1)
  |some t=>if 200<t.length then (vNull,5) else (⟨2,0,t⟩,0)
theorem C.value_parseText(r:List UInt8)(hr:r.length<=1048576):Pure Tryz.prog N.value_parseText [.d (.str r)] (.tup [eV (parT r).1,.d (eI (parT r).2)]):=by
 have hC:=C.strings_CutSuffix r (by omega) 39
 have hN:=C.value_Null
 obtain⟨q,hq⟩:∃q,q=parT r:=⟨_,rfl⟩
 rw[<- hq]
 unfold parT at hq
 cases hb:hs1 39 r with
 |false=>
  rw[hb] at hC hq
  rw[if_pos (.inl rfl)] at hq
  subst hq
  refine F.value_parseText.go mixed rfl ?_
  repeat' first|refine st ?_|((with_reducible first|apply k_pn|apply k_pc);(·first|exact hC|exact hN))|(with_reducible first|apply k_d|apply k_b)<;>intro _
  all_goals rfl
 |true=>
  rw[hb] at hC hq
  rw[if_pos rfl] at hC
  have hl:r.dropLast.length<=1048576:=by rw[List.length_dropLast];omega
  obtain⟨s,hs⟩:∃s,s=r.dropLast:=⟨_,rfl⟩
  rw[<- hs] at hC hq hl
  clear hb hs
  have hP:=C.value_printable s (by omega)
  simp only[Bool.true_eq_false,false_or] at hq
  cases hp:prB s with
  |false=>
   rw[hp] at hP hq
   rw[if_pos rfl] at hq
   subst hq
   refine F.value_parseText.go mixed rfl ?_
   repeat' first|refine st ?_|((with_reducible first|apply k_pn|apply k_pc);(·first|exact hC|exact hN|exact hP))|(with_reducible first|apply k_d|apply k_b)<;>intro _
   all_goals rfl
  |true=>
   rw[hp] at hP hq
   rw[if_neg (by decide)] at hq
   have hA:=C.strings_ReplaceAll s [39,39] [] (by omega) (by decide) (by decide)
   have hB:=C.strings_ReplaceAll s [39,39] [39] (by omega) (by decide) (by decide)
   rw[replaceAll_rep _ _ _ (by decide) (by decide)] at hA hB
   have hl2:=rep_len [39,39] [] (by decide) s.length s
   have hD:=C.strings_Contains (rep [39,39] [] s.length s) [39] (by omega)
   rw[contains_one] at hD
   obtain⟨u1,u2⟩:=rep_unq s.length s (Nat.le_refl _)
   have hl3:=rep_len [39,39] [39] (by decide) s.length s
   obtain⟨A,hAA⟩:∃A,A=rep [39,39] [] s.length s:=⟨_,rfl⟩
   obtain⟨B,hBB⟩:∃A,A=rep [39,39] [39] s.length s:=⟨_,rfl⟩
   rw[<- hAA] at hA hD u1 u2 hl2
   rw[<- hBB] at hB u2 hl3
   clear hAA hBB hp
   cases hu:unq s with
   |none=>
    rw[hu] at hq
    dsimp only at hq
    subst hq
    rw[decide_eq_true (u1 hu)] at hD
    clear hu u1 u2
    refine F.value_parseText.go mixed rfl ?_
    repeat' first|refine st ?_|((with_reducible first|apply k_pn|apply k_pc);(·first|exact hC|exact hN|exact hP|exact hA|exact hD))|(with_reducible first|apply k_d|apply k_b)<;>intro _
    all_goals rfl
   |some t=>
    obtain⟨v1,rfl⟩:=u2 t hu
    rw[hu] at hq
    dsimp only at hq
    rw[decide_eq_false v1] at hD
    clear hu u1 u2
    by_cases ht:200<B.length
    ·rw[if_pos ht] at hq
     subst hq
     refine F.value_parseText.go mixed rfl ?_
     repeat' first|refine st ?_|((with_reducible first|apply k_pn|apply k_pc);(·first|exact hC|exact hN|exact hP|exact hA|exact hD|exact hB))|(with_reducible first|apply k_d|apply k_b)<;>intro _
     all_goals rfl
    ·rw[if_neg ht] at hq
     subst hq
     refine F.value_parseText.go mixed rfl ?_
     repeat' first|refine st ?_|((with_reducible first|apply k_pn|apply k_pc);(·first|exact hC|exact hN|exact hP|exact hA|exact hD|exact hB))|(with_reducible first|apply k_d|apply k_b)<;>intro _
     all_goals rfl
end Go.Proofs
end
section
namespace Go.Proofs
open Go.Bi
theorem u8w{x:Int}(h0:0<=x)(h1:x<256):IntKind.u8.wrap x=x:=by
 simp[IntKind.wrap,IntKind.bits,IntKind.signed]
 omega
theorem i64w{x:Int}(h0:0<=x)(h1:x<4611686018427387904):IntKind.i64.wrap x=x:=wrap64 (by omega) (by omega)
def numF(n:Int):List UInt8->Option Int
 |[]=>some n
 |c::r=>if c.toNat<48\/57<c.toNat then none else numF (min (10*n+((c.toNat:Int)-48)) 1125899906842625) r
def parI(s:List UInt8):Vl×Int:=
 if (if hp1 45 s then s.tail else s)=[]\/((if hp1 45 s then s.tail else s).getD 0 0=48/\(hp1 45 s=true\/1<(if hp1 45 s then s.tail else s).length)) then (vNull,1)
 else match numF 0 (if hp1 45 s then s.tail else s) with
  |none=>(vNull,1)
  |some n=>if 1125899906842624<n then (vNull,6) else (⟨1,if hp1 45 s then 0-n else n,[]⟩,0)
theorem C.value_parseInt (s : List UInt8) (hs : s.length ≤ 1048576) : Pure Tryz.prog N.value_parseInt [.d (.str s)] (.tup [eV (parI s).1, .d (eI (parI s).2)]) := by
  have hC := C.strings_CutPrefix s (by omega) 45
  have hN := C.value_Null
  obtain ⟨q, hq⟩ : ∃ q, q = parI s := ⟨_, rfl⟩
  rw [← hq]
  unfold parI at hq
  obtain ⟨d, hd⟩ : ∃ d, d = (if hp1 45 s then s.tail else s) := ⟨_, rfl⟩
  obtain ⟨g, hg⟩ : ∃ g, g = hp1 45 s := ⟨_, rfl⟩
  have hdl : d.length ≤ 1048576 := by
    rw [hd]
    split
    · rw [List.length_tail]; omega
    · exact hs
  rw [← hd, ← hg] at hq hC
  clear hd hg
  cases d with
  | nil =>
    rw [if_pos (.inl rfl)] at hq
    subst hq
    refine F.value_parseInt.go mixed rfl ?_
    repeat' first|refine st ?_|((with_reducible first|apply k_pn|apply k_pc);(·first|exact hC|exact hN))|(with_reducible first|apply k_d|apply k_b)<;>intro _
    all_goals first | rfl | (exfalso; simp_all; done)
  | cons c0 r =>
    have hl0 : (c0 :: r).length = r.length + 1 := rfl
    have hg0 : (c0 :: r).getD ((0 : Int)).toNat 0 = c0 := rfl
    have hg1 : (c0 :: r).getD 0 0 = c0 := rfl
    by_cases h0 : c0 = 48 ∧ (g = true ∨ 1 < (c0 :: r).length)
    · rw [if_pos (.inr h0)] at hq
      subst hq
      obtain ⟨rfl, h0⟩ := h0
      refine F.value_parseInt.go mixed rfl ?_
      cases g with
      | true =>
        repeat' first|(rw [hg0])|refine st ?_|((with_reducible first|apply k_pn|apply k_pc);(·first|exact hC|exact hN))|(with_reducible first|apply k_d|apply k_b)<;>intro _
        all_goals first | rfl | (exfalso; simp_all; done)
      | false =>
        have h0 : 1 < r.length + 1 := by rcases h0 with h | h; · cases h
                                         exact h
        repeat' first|(rw [hg0])|refine st ?_|((with_reducible first|apply k_pn|apply k_pc);(·first|exact hC|exact hN))|(with_reducible first|apply k_d|apply k_b)<;>intro _
        all_goals first | rfl | (exfalso; simp_all; done)
    · rw [if_neg (by rintro (h | h); · cases h
                     exact h0 h)] at hq
      have hcase : (c0.toNat : Int) = 48 → g = false ∧ r = [] := by
        intro hc
        have hc2 : c0 = 48 := UInt8.toNat_inj.1 (by simpa using (by omega : c0.toNat = 48))
        refine ⟨?_, ?_⟩
        · cases g with
          | false => rfl
          | true => exact absurd ⟨hc2, .inl rfl⟩ h0
        · cases r with
          | nil => rfl
          | cons x y => exact absurd ⟨hc2, .inr (by simp)⟩ h0
      clear h0 hg1
      have fin : ∀ (K : Prop), (((c0.toNat : Int) = 48 ∧ g = false ∧ (c0 :: r).length = 1) → K) → (¬ (c0.toNat : Int) = 48 → K) → K := fun K k1 k2 => by
        by_cases hc : (c0.toNat : Int) = 48
        · obtain ⟨e1, e2⟩ := hcase hc
          exact k1 ⟨hc, e1, by rw [e2]; rfl⟩
        · exact k2 hc
      clear hcase
      refine F.value_parseInt.go mixed rfl ?_
      obtain ⟨ds, hD⟩ : ∃ ds, ds = c0 :: r := ⟨_, rfl⟩
      have hDn : ¬ ds = [] := by rw [hD]; simp
      have hDl : 0 < ds.length := by rw [hD]; simp
      rw [← hD] at hC hq hdl hg0 fin
      clear hD hl0
      obtain ⟨F0, hF0⟩ : ∃ z, z = numF 0 ds := ⟨_, rfl⟩
      rw [← hF0] at hq
      refine fin _ ?_ ?_
      all_goals intro hc
      all_goals clear fin
      · obtain ⟨hc, rfl, hc2⟩ := hc
        repeat' first|(rw [hg0])|refine st ?_|((with_reducible first|apply k_pn|apply k_pc);(·first|exact hC|exact hN))|(with_reducible first|apply k_d|apply k_b)<;>intro _
        refine x_loop2 mixed Lt.value_parseInt_l0 Lk.value_parseInt_l0 (fun (i : Nat) (n : Int) => [.d (eI n), .d (eI i)]) (fun i n => [.cells [.d (eI 0), .d (eI 0), .d (.str [])]]) (fun i n => i ≤ ds.length ∧ 0 ≤ n ∧ n ≤ 1125899906842625 ∧ numF n (ds.drop i) = F0) (fun i n => ds.length - i) 0 0 rfl rfl rfl rfl (fun _ _ _ => ⟨rfl, rfl⟩) rfl ⟨by omega, by omega, by omega, hF0.symm⟩ ?_
        clear hg0 hc hF0
        repeat' first|refine st ?_|(with_reducible first|apply k_d|apply k_b)<;>intro _
        intro i n ⟨g1, g2, g3, g4⟩
        cases hx : ds[i]? with
        | some c =>
          obtain ⟨hlt, he⟩ := List.getElem?_eq_some_iff.1 hx
          have hg : ds.getD ((i : Int)).toNat 0 = c := by simp [List.getD_eq_getElem?_getD, hx]
          have h256 : c.toNat < 256 := UInt8.toNat_lt c
          rw [List.drop_eq_getElem_cons hlt, he, numF] at g4
          clear he
          by_cases hbad : c.toNat < 48 ∨ 57 < c.toNat
          · rw [if_pos hbad] at g4
            subst g4
            dsimp only at hq
            subst hq
            repeat' first|(rw [hg])|refine st ?_|((with_reducible first|apply k_pn|apply k_pc);(·exact hN))|(with_reducible first|apply k_d|apply k_b)<;>intro _
            all_goals first | rfl | (exfalso; omega)
          · rw [if_neg hbad] at g4
            repeat' first|(rw [hg])|refine st ?_|((with_reducible first|apply k_pn|apply k_pc);(·exact hN))|(with_reducible first|apply k_d|apply k_b)<;>intro _
            all_goals exact ⟨i + 1, min (10 * n + ((c.toNat : Int) - 48)) 1125899906842625, by rw [u8w (by omega) (by omega), i64w (x := (c.toNat : Int) - 48) (by omega) (by omega), i64w (by omega) (by omega)]; rfl, rfl, rfl, by omega, by omega, by omega, by omega, g4⟩
        | none =>
          have hge := List.getElem?_eq_none_iff.1 hx
          rw [List.drop_of_length_le hge, numF] at g4
          subst g4
          dsimp only at hq
          by_cases hbig : 1125899906842624 < n
          · rw [if_pos hbig] at hq
            subst hq
            repeat' first|refine st ?_|((with_reducible first|apply k_pn|apply k_pc);(·exact hN))|(with_reducible first|apply k_d|apply k_b)<;>intro _
            all_goals rfl
          · rw [if_neg hbig] at hq
            subst hq
            repeat' first|refine st ?_|((with_reducible first|apply k_pn|apply k_pc);(·exact hN))|(with_reducible first|apply k_d|apply k_b)<;>intro _
            all_goals rfl
      · repeat' first|(rw [hg0])|refine st ?_|((with_reducible first|apply k_pn|apply k_pc);(·first|exact hC|exact hN))|(with_reducible first|apply k_d|apply k_b)<;>intro _
        refine x_loop2 mixed Lt.value_parseInt_l0 Lk.value_parseInt_l0 (fun (i : Nat) (n : Int) => [.d (eI n), .d (eI i)]) (fun i n => [.cells [.d (eI 0), .d (eI 0), .d (.str [])]]) (fun i n => i ≤ ds.length ∧ 0 ≤ n ∧ n ≤ 1125899906842625 ∧ numF n (ds.drop i) = F0) (fun i n => ds.length - i) 0 0 rfl rfl rfl rfl (fun _ _ _ => ⟨rfl, rfl⟩) rfl ⟨by omega, by omega, by omega, hF0.symm⟩ ?_
        clear hg0 hc hF0
        repeat' first|refine st ?_|(with_reducible first|apply k_d|apply k_b)<;>intro _
        intro i n ⟨g1, g2, g3, g4⟩
        cases hx : ds[i]? with
        | some c =>
          obtain ⟨hlt, he⟩ := List.getElem?_eq_some_iff.1 hx
          have hg : ds.getD ((i : Int)).toNat 0 = c := by simp [List.getD_eq_getElem?_getD, hx]
          have h256 : c.toNat < 256 := UInt8.toNat_lt c
          rw [List.drop_eq_getElem_cons hlt, he, numF] at g4
          clear he
          by_cases hbad : c.toNat < 48 ∨ 57 < c.toNat
          · rw [if_pos hbad] at g4
            subst g4
            dsimp only at hq
            subst hq
            repeat' first|(rw [hg])|refine st ?_|((with_reducible first|apply k_pn|apply k_pc);(·exact hN))|(with_reducible first|apply k_d|apply k_b)<;>intro _
            all_goals first | rfl | (exfalso; omega)
          · rw [if_neg hbad] at g4
            repeat' first|(rw [hg])|refine st ?_|((with_reducible first|apply k_pn|apply k_pc);(·exact hN))|(with_reducible first|apply k_d|apply k_b)<;>intro _
            all_goals exact ⟨i + 1, min (10 * n + ((c.toNat : Int) - 48)) 1125899906842625, by rw [u8w (by omega) (by omega), i64w (x := (c.toNat : Int) - 48) (by omega) (by omega), i64w (by omega) (by omega)]; rfl, rfl, rfl, by omega, by omega, by omega, by omega, g4⟩
        | none =>
          have hge := List.getElem?_eq_none_iff.1 hx
          rw [List.drop_of_length_le hge, numF] at g4
          subst g4
          dsimp only at hq
          by_cases hbig : 1125899906842624 < n
          · rw [if_pos hbig] at hq
            subst hq
            repeat' first|refine st ?_|((with_reducible first|apply k_pn|apply k_pc);(·exact hN))|(with_reducible first|apply k_d|apply k_b)<;>intro _
            all_goals rfl
          · rw [if_neg hbig] at hq
            subst hq
            cases g with
            | true =>
              repeat' first|refine st ?_|((with_reducible first|apply k_pn|apply k_pc);(·exact hN))|(with_reducible first|apply k_d|apply k_b)<;>intro _
              all_goals rfl
            | false =>
              repeat' first|refine st ?_|((with_reducible first|apply k_pn|apply k_pc);(·exact hN))|(with_reducible first|apply k_d|apply k_b)<;>intro _
              all_goals rfl
end Go.Proofs
end
section
namespace Go.Proofs
open Go.Bi
def vPar(s:List UInt8):Vl×Int:=
 if s=[78,85,76,76] then (vNull,0) else if s=[84,82,85,69] then (vBool true,0) else if s=[70,65,76,83,69] then (vBool false,0)
 else if hp1 39 s=true then parT s.tail else parI s
theorem C.value_Parse(s:List UInt8)(hs:s.length<=1048576):Pure Tryz.prog N.value_Parse [.d (.str s)] (.tup [eV (vPar s).1,.d (eI (vPar s).2)]):=by
 have hN:=C.value_Null
 have hT:=C.value_Bool (decide (s=[84,82,85,69]))
 have hP:=C.strings_HasPrefix s (by omega) 39
 have hI:=C.value_parseInt s hs
 obtain⟨q,hq⟩:∃q,q=vPar s:=⟨_,rfl⟩
 rw[<- hq]
 unfold vPar at hq
 by_cases h1:s=[78,85,76,76]
 ·rw[if_pos h1] at hq
  subst hq
  refine F.value_Parse.go mixed rfl ?_
  repeat' first|refine st ?_|((with_reducible first|apply k_pn|apply k_pc);(·exact hN))|(with_reducible first|apply k_d|apply k_b)<;>intro _
  all_goals rfl
 rw[if_neg h1] at hq
 by_cases h2:s=[84,82,85,69]
 ·rw[if_pos h2] at hq
  subst hq
  rw[decide_eq_true h2] at hT
  have hT:Bi.Pure Tryz.prog N.value_Bool [.d (.bool (decide (s=[84,82,85,69])))] (eV (vBool true)):=by rw[decide_eq_true h2];exact hT
  refine F.value_Parse.go mixed rfl ?_
  repeat' first|refine st ?_|((with_reducible first|apply k_pn|apply k_pc);(·exact hT))|(with_reducible first|apply k_d|apply k_b)<;>intro _
  all_goals rfl
 rw[if_neg h2] at hq
 by_cases h3:s=[70,65,76,83,69]
 ·rw[if_pos h3] at hq
  subst hq
  rw[decide_eq_false h2] at hT
  have hT:Bi.Pure Tryz.prog N.value_Bool [.d (.bool (decide (s=[84,82,85,69])))] (eV (vBool false)):=by rw[decide_eq_false h2];exact hT
  refine F.value_Parse.go mixed rfl ?_
  repeat' first|refine st ?_|((with_reducible first|apply k_pn|apply k_pc);(·exact hT))|(with_reducible first|apply k_d|apply k_b)<;>intro _
  all_goals rfl
 rw[if_neg h3] at hq
 cases hb:hp1 39 s with
 |true=>
  rw[hb] at hP hq
  rw[if_pos rfl] at hq
  cases s with
  |nil=>cases hb
  |cons c r=>
   have hl:(c::r).length=r.length+1:=rfl
   simp only[List.length_cons] at hs
   have hX:=C.value_parseText r (by omega)
   have hp:List.take (((c::r).length:Int).toNat-(1:Int).toNat) (List.drop (1:Int).toNat (c::r))=r:=by
    rw[hl]
    show List.take (r.length+1-1) r=r
    simp
   have hq:q=parT r:=hq
   rw[<- hq] at hX
   clear hq hb hI
   refine F.value_Parse.go mixed rfl ?_
   repeat' first|(rw[hp])|refine st ?_|((with_reducible first|apply k_pn|apply k_pc);(·first|exact hP|exact hX))|(with_reducible first|apply k_d|apply k_b)<;>intro _
   all_goals rfl
 |false=>
  rw[hb] at hP hq
  rw[if_neg (by decide)] at hq
  rw[<- hq] at hI
  clear hq
  refine F.value_Parse.go mixed rfl ?_
  repeat' first|refine st ?_|((with_reducible first|apply k_pn|apply k_pc);(·first|exact hP|exact hI))|(with_reducible first|apply k_d|apply k_b)<;>intro _
  all_goals rfl
end Go.Proofs
end
section
namespace Go.Proofs
open Go.Bi
theorem unq_prB:∀(s t:List UInt8),unq s=some t->prB t=prB s
 |[],t,h=>by simp[unq] at h;subst h;rfl
 |[c],t,h=>by
  unfold unq at h
  split at h
  ·cases h
  ·cases h;rfl
 |c::d::s,t,h=>by
  rw[unq] at h
  split at h
  ·rename_i hc
   split at h
   ·rename_i hd
    obtain⟨u,hu,rfl⟩:=Option.map_eq_some_iff.1 h
    have ih:=unq_prB s u hu
    subst hc;subst hd
    unfold prB at ih ⊢
    simp[List.all_cons,ih,prC]
   ·cases h
  ·obtain⟨u,hu,rfl⟩:=Option.map_eq_some_iff.1 h
   have ih:=unq_prB (d::s) u hu
   unfold prB at ih ⊢
   rw[List.all_cons,List.all_cons,ih]
end Go.Proofs
end
section
namespace Go.Proofs
open Go.Bi
theorem numF_nn:∀(s:List UInt8)(n m:Int),0<=n->numF n s=some m->0<=m/\(m=0->n=0/\∀c∈s,c=48)
 |[],n,m,h,e=>by
  simp only[numF,Option.some.injEq] at e
  subst e
  exact⟨h,λe=>⟨e,by simp⟩⟩
 |c::s,n,m,h,e=>by
  rw[numF] at e
  split at e
  ·cases e
  ·rename_i hc
   obtain⟨h1,h2⟩:=numF_nn s _ m (by omega) e
   refine⟨h1,λhm=>?_⟩
   obtain⟨h3,h4⟩:=h2 hm
   have h5:c.toNat=48:=by omega
   refine⟨by omega,λd hd=>?_⟩
   rcases List.mem_cons.1 hd with rfl|hd
   ·exact UInt8.toNat_inj.1 (by simpa using h5)
   ·exact h4 d hd
end Go.Proofs
end
section
set_option maxRecDepth 100000
set_option maxHeartbeats 8000000
namespace Go.Proofs
open Go.Bi
def words:List (List UInt8):=[[97,100,100],[97,102,116,101,114],[97,108,108],[97,108,116,101,114],[97,110,100],[97,115],[98,101,102,111,114,101],[98,101,103,105,110],[98,101,116,119,101,101,110],[98,111,111,108],[98,121],[99,104,101,99,107],[99,111,97,108,101,115,99,101],[99,111,109,109,105,116],[99,111,110,116,97,105,110,115],[99,111,117,110,116],[99,114,101,97,116,101],[100,101,102,97,117,108,116],[100,101,108,101,116,101],[100,101,115,99],[100,105,115,116,105,110,99,116],[100,114,111,112],[100,117,114,105,110,103],[101,113,117,97,108,115],[101,120,99,101,112,116],[102,97,108,115,101],[102,105,110,105,115,104,101,100,98,121],[102,105,110,105,115,104,101,115],[102,111,114,101,105,103,110],[102,111,114,101,118,101,114],[102,114,111,109],[103,114,111,117,112],[104,111,108,100],[105,102],[105,110,115,101,114,116],[105,110,116],[105,110,116,101,114,115,101,99,116],[105,110,116,111],[105,115],[106,111,105,110],[107,101,121],[108,101,102,116],[108,101,110,103,116,104],[108,105,109,105,116],[109,97,120],[109,101,101,116,115],[109,101,116,98,121],[109,105,110],[110,111,110,115,101,113,117,101,110,99,101,100],[110,111,116],[110,111,119],[110,117,108,108],[111,102],[111,110],[111,114],[111,114,100,101,114],[111,118,101,114,108,97,112,112,101,100,98,121],[111,118,101,114,108,97,112,115],[112,114,105,109,97,114,121],[112,114,117,110,101],[114,101,102,101,114,101,110,99,101,115],[114,101,108,101,97,115,101],[114,101,110,97,109,101],[114,101,116,97,105,110],[114,111,108,108,98,97,99,107],[115,101,108,101,99,116],[115,101,113,117,101,110,99,101,100],[115,101,116],[115,116,97,114,116,101,100,98,121],[115,116,97,114,116,115],[115,117,109],[115,121,115,116,101,109],[115,121,115,116,101,109,102,114,111,109],[115,121,115,116,101,109,116,111],[116,97,98,108,101],[116,101,120,116],[116,111],[116,114,117,101],[116,120],[117,110,100,101,114],[117,110,105,111,110],[117,112,100,97,116,101],[118,97,108,105,100],[118,97,108,105,100,102,114,111,109],[118,97,108,105,100,116,111],[118,97,108,117,101,115],[119,104,101,114,101]]
def eSs(l:List (List UInt8)):List (List D):=l.map λs=>[.str s]
theorem eSs_len(l:List (List UInt8)):(eSs l).length=l.length:=by simp[eSs]
theorem eSs_get{l:List (List UInt8)}{i:Nat}{s:List UInt8}(h:l[i]?=some s):(eSs l)[i]?=some [.str s]:=by simp[eSs,h]
theorem eSs_mem(l:List (List UInt8)):∀e∈eSs l,e.length=1:=by
 intro e he
 obtain⟨x,_,rfl⟩:=List.mem_map.1 he
 rfl
theorem C.schema_reserved(s:List UInt8):Pure Tryz.prog N.schema_reserved [.d (.str s)] (.d (.bool (decide (s∈words)))):=by
 refine F.schema_reserved.go mixed rfl ?_
 obtain⟨b,hb⟩:∃b,b=decide (s∈words):=⟨_,rfl⟩
 rw[<- hb]
 repeat' first|refine st ?_|(with_reducible first|apply k_d|apply k_b)<;>intro _
 all_goals first
  |(subst_vars;rfl)
  |(rw[hb,decide_eq_false];simp[words, *])
theorem C.r13_Words:Pure Tryz.prog N.bt_ref13_Words [] (.d (.sl (eSs words))):=by
 refine F.bt_ref13_Words.go mixed rfl ?_
 repeat' first|refine st ?_|(with_reducible first|apply k_d|apply k_b)<;>intro _
 all_goals rfl
theorem C.r13_in(l:List (List UInt8))(hl:l.length<=1048576)(d:D)(hd:SlD d (eSs l))(s:List UInt8):Pure Tryz.prog N.bt_ref13_in [.d d,.d (.str s)] (.d (.bool (decide (s∈l)))):=by
 refine F.bt_ref13_in.go mixed rfl ?_
 have h1:=eSs_len l
 have hm:=eSs_mem l
 obtain⟨b,hb⟩:∃b,b=decide (s∈l):=⟨_,rfl⟩
 rw[<- hb]
 repeat' first|refine st ?_|(with_reducible first|apply k_d|apply k_b)<;>intro _
 refine x_loop1 mixed Lt.bt_ref13_in_l0 Lk.bt_ref13_in_l0 (λ(i:Nat)=>[.d (eI i)]) (λi=>[]) (λi=>i<=l.length/\¬s∈l.take i) (λi=>l.length-i) 0 rfl rfl rfl rfl (λ_ _=>⟨rfl,rfl⟩) rfl ⟨by omega,by simp⟩ ?_
 repeat' first|refine st ?_|(with_reducible first|apply k_d|apply k_b)<;>intro _
 intro i ⟨h2,h3⟩
 cases hx:l[i]? with
 |some x=>
  have hlt:=(List.getElem?_eq_some_iff.1 hx).1
  have hg:=eSs_get hx
  by_cases h:x=s
  ·rw[hb,decide_eq_true (h▸List.mem_of_getElem? hx)]
   repeat' first|refine st ?_|(with_reducible first|apply k_d|apply k_b)<;>intro _
   all_goals rfl
  ·repeat' first|refine st ?_|(with_reducible first|apply k_d|apply k_b)<;>intro _
   refine⟨i+1,rfl,rfl,rfl,by omega,by omega,?_⟩
   rw[List.take_add_one,hx]
   intro hmem
   rcases List.mem_append.1 hmem with hm2|hm2
   ·exact h3 hm2
   ·simp at hm2;exact h hm2.symm
 |none=>
  have hge:=List.getElem?_eq_none_iff.1 hx
  rw[List.take_of_length_le hge] at h3
  rw[hb,decide_eq_false h3]
  repeat' first|refine st ?_|(with_reducible first|apply k_d|apply k_b)<;>intro _
  all_goals rfl
def okC(p:UInt8×Nat):Bool:=decide (97<=p.1.toNat/\p.1.toNat<=122)||decide (p.1.toNat=95)||(decide (48<=p.1.toNat/\p.1.toNat<=57)&&decide (p.2≠0))
def okS(s:List UInt8):Bool:=s.zipIdx.all okC
def nameB(s:List UInt8):Bool:=okS s&&decide (1<=s.length/\s.length<=24)&&!decide (s∈words)
theorem zip_get{s:List UInt8}{i:Nat}{c:UInt8}(h:s[i]?=some c):s.zipIdx[i]?=some (c,i):=by
 rw[List.getElem?_zipIdx,h];simp
theorem dec_lo{s:List UInt8}{p:Nat}{c:UInt8}(h:s[p]?=some c)(hc:c.toNat<128):Utf8.decode ⟨⟨s⟩⟩ p=(c.toNat,1):=by
 have e:(ByteArray.mk ⟨s⟩).get! (p+0)=c:=by
  obtain⟨hlt,he⟩:=List.getElem?_eq_some_iff.1 h
  show(⟨s⟩:Array UInt8)[p]! = c
  rw[getElem!_pos (⟨s⟩:Array UInt8) p hlt]
  exact he
 unfold Utf8.decode
 simp only[e]
 rw[if_pos hc]
theorem dec_hi{s:List UInt8}{p:Nat}{c:UInt8}(h:s[p]?=some c)(hc:¬c.toNat<128):128<=(Utf8.decode ⟨⟨s⟩⟩ p).1/\(Utf8.decode ⟨⟨s⟩⟩ p).1<=1114111:=by
 have e:(ByteArray.mk ⟨s⟩).get! (p+0)=c:=by
  obtain⟨hlt,he⟩:=List.getElem?_eq_some_iff.1 h
  show(⟨s⟩:Array UInt8)[p]! = c
  rw[getElem!_pos (⟨s⟩:Array UInt8) p hlt]
  exact he
 unfold Utf8.decode
 simp only[e]
 rw[if_neg hc]
 have hv:∀n:Nat,Utf8.valid n=true->n<=1114111:=λn h=>by
  simp only[Utf8.valid,Bool.or_eq_true,Bool.and_eq_true,decide_eq_true_eq] at h
  omega
 repeat' split
 all_goals simp only[Utf8.runeError]
 all_goals first|omega|(rename_i h1;simp only[Bool.and_eq_true,decide_eq_true_eq] at h1;exact⟨by omega,hv _ h1.2⟩)|skip
end Go.Proofs
end
section
namespace Go.Proofs
open Go.Bi
attribute [local irreducible] Go.Utf8.decode
theorem okC_iff(c:UInt8)(p:Nat):okC (c,p)=true↔(97<=c.toNat/\c.toNat<=122)\/c.toNat=95\/(48<=c.toNat/\c.toNat<=57/\p≠0):=by
 simp only[okC,Bool.or_eq_true,Bool.and_eq_true,decide_eq_true_eq]
 omega
theorem okS_no{s:List UInt8}{p:Nat}{c:UInt8}(h:s[p]?=some c)(hk:okC (c,p)=false):nameB s=false:=by
 have:okS s=false:=all_none (zip_get h) hk
 rw[nameB,this];rfl
theorem C.schema_Name(s:List UInt8)(hs:s.length<=1048576):Pure Tryz.prog N.schema_Name [.d (.str s)] (.d (.bool (nameB s))):=by
 refine F.schema_Name.go mixed rfl ?_
 have hR:=C.schema_reserved s
 obtain⟨b,hb⟩:∃b,b=nameB s:=⟨_,rfl⟩
 rw[<- hb]
 obtain⟨r,hr⟩:∃r,r=decide (s∈words):=⟨_,rfl⟩
 rw[<- hr] at hR
 repeat' first|refine st ?_|(with_reducible first|apply k_d|apply k_b)<;>intro _
 refine x_loop1 mixed Lt.schema_Name_l0 Lk.schema_Name_l0 (λ(p:Nat)=>[]) (λp=>[.iter s p]) (λp=>p<=s.length/\(s.zipIdx.take p).all okC=true) (λp=>s.length-p) 0 rfl rfl rfl rfl (λ_ _=>⟨rfl,rfl⟩) rfl ⟨by omega,by simp⟩ ?_
 repeat' first|refine st ?_|(with_reducible first|apply k_d|apply k_b)<;>intro _
 intro p ⟨h1,h2⟩
 cases hx:s[p]? with
 |some c=>
  have hlt:=(List.getElem?_eq_some_iff.1 hx).1
  have hz:=zip_get hx
  by_cases hc:c.toNat<128
  ·have e:=dec_lo hx hc
   have e1:(Utf8.decode ⟨⟨s⟩⟩ p).1=c.toNat:=by rw[e]
   have e2:(Utf8.decode ⟨⟨s⟩⟩ p).2=1:=by rw[e]
   cases hk:okC (c,p) with
   |true=>
    have hs2:=all_take_succ (f:=okC) hz
    rw[h2,hk] at hs2
    have hk2:=(okC_iff c p).1 hk
    have hfin:∀q,q=p+(Utf8.decode ⟨⟨s⟩⟩ p).2->q<=s.length/\(s.zipIdx.take q).all okC=true/\s.length-q<s.length-p:=λq hq=>by
     rw[e2] at hq
     subst hq
     exact⟨by omega,hs2,by omega⟩
    clear hs2 hz e hk
    rcases hk2 with ⟨k1,k2⟩|k1|⟨k1,k2,k3⟩
    ·repeat' first|refine st ?_|(with_reducible first|apply k_d|apply k_b)<;>intro _
     obtain⟨f1,f2,f3⟩:=hfin _ rfl
     exact⟨_,rfl,rfl,rfl,f3,f1,f2⟩
    ·repeat' first|refine st ?_|(with_reducible first|apply k_d|apply k_b)<;>intro _
     obtain⟨f1,f2,f3⟩:=hfin _ rfl
     exact⟨_,rfl,rfl,rfl,f3,f1,f2⟩
    ·repeat' first|refine st ?_|(with_reducible first|apply k_d|apply k_b)<;>intro _
     obtain⟨f1,f2,f3⟩:=hfin _ rfl
     exact⟨_,rfl,rfl,rfl,f3,f1,f2⟩
   |false=>
    have hbf:b=false:=hb.trans (okS_no hx hk)
    have hk2:¬_:=λh=>Bool.false_ne_true (hk▸(okC_iff c p).2 h)
    rw[hbf]
    clear hz e hk
    repeat' first|refine st ?_|(with_reducible first|apply k_d|apply k_b)<;>intro _
    all_goals first|rfl|(exfalso;omega)
  ·have e:=dec_hi hx hc
   have hk:okC (c,p)=false:=by
    rw[Bool.eq_false_iff]
    intro h
    have:=(okC_iff c p).1 h
    omega
   have hbf:b=false:=hb.trans (okS_no hx hk)
   rw[hbf]
   repeat' first|refine st ?_|(with_reducible first|apply k_d|apply k_b)<;>intro _
   all_goals first|rfl|(exfalso;omega)
 |none=>
  have hge:=List.getElem?_eq_none_iff.1 hx
  rw[List.take_of_length_le (by simpa using hge)] at h2
  have hb2:b=(decide (1<=s.length/\s.length<=24)&&!r):=by rw[hb,nameB,okS,h2,hr];simp
  clear hb hr
  by_cases h:1<=s.length/\s.length<=24
  ·rw[decide_eq_true h] at hb2
   obtain⟨g1,g2⟩:=h
   rw[hb2]
   repeat' first|refine st ?_|((with_reducible first|apply k_pn|apply k_pc);(·exact hR))|(with_reducible first|apply k_d|apply k_b)<;>intro _
   all_goals first|rfl|(exfalso;omega)
  ·rw[decide_eq_false h] at hb2
   rw[hb2]
   repeat' first|refine st ?_|((with_reducible first|apply k_pn|apply k_pc);(·exact hR))|(with_reducible first|apply k_d|apply k_b)<;>intro _
   all_goals first|rfl|(exfalso;omega)
theorem C.r13_Name(s:List UInt8)(hs:s.length<=1048576):Pure Tryz.prog N.bt_ref13_Name [.d (.str s)] (.d (.bool (nameB s))):=by
 refine F.bt_ref13_Name.go mixed rfl ?_
 have hR:=C.r13_in words (by decide) (.sl (eSs words)) sld_sl s
 have hW:=C.r13_Words
 obtain⟨ew,hew⟩:∃ew,ew=eSs words:=⟨_,rfl⟩
 rw[<- hew] at hR hW
 obtain⟨b,hb⟩:∃b,b=nameB s:=⟨_,rfl⟩
 rw[<- hb]
 obtain⟨r,hr⟩:∃r,r=decide (s∈words):=⟨_,rfl⟩
 rw[<- hr] at hR
 by_cases hlen:1<=s.length/\s.length<=24
 rotate_left
 ·have hbf:b=false:=by rw[hb,nameB,decide_eq_false hlen];simp
  rw[hbf]
  by_cases h0:s=[]
  ·subst h0
   repeat' first|refine st ?_|(with_reducible first|apply k_d|apply k_b)<;>intro _
   all_goals rfl
  ·have h1:¬s.length=0:=λh=>h0 (List.length_eq_zero_iff.1 h)
   have h24:24<s.length:=by omega
   repeat' first|refine st ?_|(with_reducible first|apply k_d|apply k_b)<;>intro _
   all_goals rfl
 obtain⟨g1,g2⟩:=hlen
 have g0:¬s=[]:=λh=>by subst h;simp at g1
 obtain⟨c0,hc0⟩:∃c,s[0]?=some c:=⟨_,List.getElem?_eq_getElem (by omega)⟩
 have hg0:s.getD (0:Int).toNat 0=c0:=by simp[List.getD_eq_getElem?_getD,hc0]
 by_cases hd:48<=c0.toNat/\c0.toNat<=57
 ·have hk:okC (c0,0)=false:=by
   rw[Bool.eq_false_iff]
   intro h
   have:=(okC_iff c0 0).1 h
   omega
  have hbf:b=false:=hb.trans (okS_no hc0 hk)
  rw[hbf]
  rw[<- hg0] at hd
  obtain⟨d1,d2⟩:=hd
  repeat' first|refine st ?_|(with_reducible first|apply k_d|apply k_b)<;>intro _
  all_goals first|rfl|(exfalso;omega)
 rcases(show c0.toNat<48\/57<c0.toNat by omega) with hd'|hd'
 all_goals rw[<- hg0] at hd'
 ·repeat' first|refine st ?_|(with_reducible first|apply k_d|apply k_b)<;>intro _
  refine x_loop1 mixed Lt.bt_ref13_Name_l0 Lk.bt_ref13_Name_l0 (λ(p:Nat)=>[.d (eI p)]) (λp=>[]) (λp=>p<=s.length/\(s.zipIdx.take p).all okC=true) (λp=>s.length-p) 0 rfl rfl rfl rfl (λ_ _=>⟨rfl,rfl⟩) rfl ⟨by omega,by simp⟩ ?_
  repeat' first|refine st ?_|(with_reducible first|apply k_d|apply k_b)<;>intro _
  intro p ⟨h1,h2⟩
  cases hx:s[p]? with
  |some c=>
   have hlt:=(List.getElem?_eq_some_iff.1 hx).1
   have hg:s.getD ((p:Nat):Int).toNat 0=c:=by simp[List.getD_eq_getElem?_getD,hx]
   have hz:=zip_get hx
   have h0:p=0->c=c0:=λh=>by
    subst h
    rw[hx] at hc0
    exact Option.some.inj hc0
   have h0:p=0->c.toNat=c0.toNat:=λh=>by rw[h0 h]
   cases hk:okC (c,p) with
   |true=>
    have hs2:=all_take_succ (f:=okC) hz
    rw[h2,hk] at hs2
    have hk2:=(okC_iff c p).1 hk
    rw[<- hg] at hk2
    clear hz hk
    rcases hk2 with ⟨k1,k2⟩|k1|⟨k1,k2,k3⟩
    ·repeat' first|refine st ?_|(with_reducible first|apply k_d|apply k_b)<;>intro _
     exact⟨p+1,rfl,rfl,rfl,by omega,by omega,hs2⟩
    ·repeat' first|refine st ?_|(with_reducible first|apply k_d|apply k_b)<;>intro _
     exact⟨p+1,rfl,rfl,rfl,by omega,by omega,hs2⟩
    ·repeat' first|refine st ?_|(with_reducible first|apply k_d|apply k_b)<;>intro _
     exact⟨p+1,rfl,rfl,rfl,by omega,by omega,hs2⟩
   |false=>
    have hbf:b=false:=hb.trans (okS_no hx hk)
    have hk2:¬_:=λh=>Bool.false_ne_true (hk▸(okC_iff c p).2 h)
    rw[hbf]
    rw[<- hg] at hk2 h0
    rw[<- hg0] at h0
    clear hz hk
    repeat' first|refine st ?_|(with_reducible first|apply k_d|apply k_b)<;>intro _
    all_goals first|rfl|(exfalso;omega)
  |none=>
   have hge:=List.getElem?_eq_none_iff.1 hx
   rw[List.take_of_length_le (by simpa using hge)] at h2
   have hb2:b=!r:=by rw[hb,nameB,okS,h2,hr,decide_eq_true (show 1<=s.length/\s.length<=24 from⟨g1,g2⟩)];simp
   rw[hb2]
   repeat' first|refine st ?_|((with_reducible first|apply k_pn|apply k_pc);(·first|exact hW|exact hR))|(with_reducible first|apply k_d|apply k_b)<;>intro _
   all_goals first|rfl|(exfalso;omega)
 ·repeat' first|refine st ?_|(with_reducible first|apply k_d|apply k_b)<;>intro _
  refine x_loop1 mixed Lt.bt_ref13_Name_l0 Lk.bt_ref13_Name_l0 (λ(p:Nat)=>[.d (eI p)]) (λp=>[]) (λp=>p<=s.length/\(s.zipIdx.take p).all okC=true) (λp=>s.length-p) 0 rfl rfl rfl rfl (λ_ _=>⟨rfl,rfl⟩) rfl ⟨by omega,by simp⟩ ?_
  repeat' first|refine st ?_|(with_reducible first|apply k_d|apply k_b)<;>intro _
  intro p ⟨h1,h2⟩
  cases hx:s[p]? with
  |some c=>
   have hlt:=(List.getElem?_eq_some_iff.1 hx).1
   have hg:s.getD ((p:Nat):Int).toNat 0=c:=by simp[List.getD_eq_getElem?_getD,hx]
   have hz:=zip_get hx
   have h0:p=0->c=c0:=λh=>by
    subst h
    rw[hx] at hc0
    exact Option.some.inj hc0
   have h0:p=0->c.toNat=c0.toNat:=λh=>by rw[h0 h]
   cases hk:okC (c,p) with
   |true=>
    have hs2:=all_take_succ (f:=okC) hz
    rw[h2,hk] at hs2
    have hk2:=(okC_iff c p).1 hk
    rw[<- hg] at hk2
    clear hz hk
    rcases hk2 with ⟨k1,k2⟩|k1|⟨k1,k2,k3⟩
    ·repeat' first|refine st ?_|(with_reducible first|apply k_d|apply k_b)<;>intro _
     exact⟨p+1,rfl,rfl,rfl,by omega,by omega,hs2⟩
    ·repeat' first|refine st ?_|(with_reducible first|apply k_d|apply k_b)<;>intro _
     exact⟨p+1,rfl,rfl,rfl,by omega,by omega,hs2⟩
    ·repeat' first|refine st ?_|(with_reducible first|apply k_d|apply k_b)<;>intro _
     exact⟨p+1,rfl,rfl,rfl,by omega,by omega,hs2⟩
   |false=>
    have hbf:b=false:=hb.trans (okS_no hx hk)
    have hk2:¬_:=λh=>Bool.false_ne_true (hk▸(okC_iff c p).2 h)
    rw[hbf]
    rw[<- hg] at hk2 h0
    rw[<- hg0] at h0
    clear hz hk
    repeat' first|refine st ?_|(with_reducible first|apply k_d|apply k_b)<;>intro _
    all_goals first|rfl|(exfalso;omega)
  |none=>
   have hge:=List.getElem?_eq_none_iff.1 hx
   rw[List.take_of_length_le (by simpa using hge)] at h2
   have hb2:b=!r:=by rw[hb,nameB,okS,h2,hr,decide_eq_true (show 1<=s.length/\s.length<=24 from⟨g1,g2⟩)];simp
   rw[hb2]
   repeat' first|refine st ?_|((with_reducible first|apply k_pn|apply k_pc);(·first|exact hW|exact hR))|(with_reducible first|apply k_d|apply k_b)<;>intro _
   all_goals first|rfl|(exfalso;omega)
end Go.Proofs
end
section
namespace Go.Proofs
open Go.Bi
structure Co where
 nm:List UInt8
 k:Int
 nl:Bool
abbrev Co.ds(c:Co):List D:=[.str c.nm,eI c.k,.bool c.nl]
def eCs(l:List Co):List (List D):=l.map Co.ds
theorem eCs_len(l:List Co):(eCs l).length=l.length:=by simp[eCs]
theorem eCs_get{l:List Co}{i:Nat}{c:Co}(h:l[i]?=some c):(eCs l)[i]?=some c.ds:=by simp[eCs,h]
theorem eCs_mem(l:List Co):∀e∈eCs l,e.length=3:=by
 intro e he
 obtain⟨x,_,rfl⟩:=List.mem_map.1 he
 rfl
abbrev eT(n:List UInt8)(dc dk df dx:D):AV:=.agg [.d (.str n),.d dc,.d dk,.d df,.d dx]
def kd(l:List Co):List Int:=l.map Co.k
theorem kd_len(l:List Co):(kd l).length=l.length:=by simp[kd]
def Kt(l:List Co)(i:Nat):List (List D):=eIs (kd (l.take i))
theorem Kt_len(l:List Co)(i:Nat)(h:i<=l.length):(Kt l i).length=i:=by
 unfold Kt
 rw[eIs_len,kd_len,List.length_take]
 omega
theorem Kt_succ{l:List Co}{i:Nat}{c:Co}(h:l[i]?=some c):Kt l i++[[eI c.k]]=Kt l (i+1):=by
 unfold Kt kd
 rw[List.take_add_one,h]
 simp[eIs]
theorem Kt_end{l:List Co}{i:Nat}(h:l.length<=i):Kt l i=eIs (kd l):=by
 unfold Kt
 rw[List.take_of_length_le h]
def kdD(l:List Co):D:=if (eIs (kd l)).isEmpty then .nil else .sl (eIs (kd l))
theorem kdD_sl(l:List Co):SlD (kdD l) (eIs (kd l)):=by
 unfold kdD
 split
 ·rename_i h;exact .inl ⟨rfl,by simpa using h⟩
 ·exact .inr rfl
theorem C.schema_Kinds(n:List UInt8)(l:List Co)(hl:l.length<=1048576)(dc dk df dx:D)(hc:SlD dc (eCs l)):Pure Tryz.prog N.schema_Kinds [eT n dc dk df dx] (.d (kdD l)):=by
 refine F.schema_Kinds.go mixed rfl ?_
 have h1:=eCs_len l
 have hm:=eCs_mem l
 repeat' first|refine st ?_|(with_reducible first|apply k_d|apply k_b)<;>intro _
 refine x_nil 3 1 rfl rfl ?_
 repeat' first|refine st ?_|(with_reducible first|apply k_d|apply k_b)<;>intro _
 refine x_loop2 mixed Lt.schema_Kinds_l0 Lk.schema_Kinds_l0 (λ(i:Nat) (w:List (List D)×Bool)=>[.arr 1 w.1.length,.d (eI i)]) (λi w=>[.cells [.d (.str n),.d dc,.d dk,.d df,.d dx],.arr w.1 1 0 w.2]) (λi w=>i<=l.length/\w.1=Kt l i/\w.2=w.1.isEmpty) (λi _=>l.length-i) 0 ([],true) rfl rfl rfl rfl (λ_ _ _=>⟨rfl,rfl⟩) rfl ⟨by omega,rfl,rfl⟩ ?_
 repeat' first|refine st ?_|(with_reducible first|apply k_d|apply k_b)<;>intro _
 intro i w ⟨h4,h5,h6⟩
 obtain⟨A,b⟩:=w
 dsimp only at h5 h6 ⊢
 have hAl:A.length=i:=by rw[h5];exact Kt_len l i (by omega)
 have hAm:∀e∈A,e.length=1:=by rw[h5];exact eIs_mem _
 cases hx:l[i]? with
 |some x=>
  have hlt:=(List.getElem?_eq_some_iff.1 hx).1
  have hs:=Kt_succ hx
  have hg:=eCs_get hx
  rw[<- h5] at hs
  repeat' first|refine st ?_|(with_reducible first|apply k_d|apply k_b)<;>intro _
  exact⟨i+1,(A++[[eI x.k]],false),rfl,rfl,rfl,by omega,by omega,hs,by simp⟩
 |none=>
  have hge:=List.getElem?_eq_none_iff.1 hx
  rw[Kt_end hge] at h5
  unfold kdD
  rw[<- h5,<- h6]
  cases b with
  |true=>
   repeat' first|refine st ?_|(with_reducible first|apply k_d|apply k_b)<;>intro _
   all_goals rfl
  |false=>
   repeat' first|refine st ?_|(with_reducible first|apply k_d|apply k_b)<;>intro _
   all_goals rfl
theorem C.r13_Kinds(n:List UInt8)(l:List Co)(hl:l.length<=1048576)(dc dk df dx:D)(hc:SlD dc (eCs l)):Pure Tryz.prog N.bt_ref13_Kinds [eT n dc dk df dx] (.d (.sl (eIs (kd l)))):=by
 refine F.bt_ref13_Kinds.go mixed rfl ?_
 have h1:=eCs_len l
 have hm:=eCs_mem l
 repeat' first|refine st ?_|(with_reducible first|apply k_d|apply k_b)<;>intro _
 refine x_loop2 mixed Lt.bt_ref13_Kinds_l0 Lk.bt_ref13_Kinds_l0 (λ(i:Nat) (A:List (List D))=>[.arr 1 A.length,.d (eI i)]) (λi A=>[.cells [.d (.str n),.d dc,.d dk,.d df,.d dx],.arr A 1 0 false]) (λi A=>i<=l.length/\A=Kt l i) (λi _=>l.length-i) 0 [] rfl rfl rfl rfl (λ_ _ _=>⟨rfl,rfl⟩) rfl ⟨by omega,rfl⟩ ?_
 repeat' first|refine st ?_|(with_reducible first|apply k_d|apply k_b)<;>intro _
 intro i A ⟨h4,h5⟩
 have hAl:A.length=i:=by rw[h5];exact Kt_len l i (by omega)
 have hAm:∀e∈A,e.length=1:=by rw[h5];exact eIs_mem _
 cases hx:l[i]? with
 |some x=>
  have hlt:=(List.getElem?_eq_some_iff.1 hx).1
  have hs:=Kt_succ hx
  have hg:=eCs_get hx
  rw[<- h5] at hs
  repeat' first|refine st ?_|(with_reducible first|apply k_d|apply k_b)<;>intro _
  exact⟨i+1,A++[[eI x.k]],rfl,rfl,rfl,by omega,by omega,hs⟩
 |none=>
  have hge:=List.getElem?_eq_none_iff.1 hx
  rw[Kt_end hge] at h5
  rw[<- h5]
  repeat' first|refine st ?_|(with_reducible first|apply k_d|apply k_b)<;>intro _
  all_goals rfl
def findF(nm:List UInt8):Nat->List Co->Int
 |_,[]=>-1
 |i,c::l=>if c.nm=nm then i else findF nm (i+1) l
def findC(nm:List UInt8)(l:List Co):Int:=findF nm 0 l
theorem findF_drop{nm:List UInt8}{l:List Co}{i:Nat}{c:Co}(h:l[i]?=some c):findF nm i (l.drop i)=if c.nm=nm then (i:Int) else findF nm (i+1) (l.drop (i+1)):=by
 obtain⟨hlt,he⟩:=List.getElem?_eq_some_iff.1 h
 rw[List.drop_eq_getElem_cons hlt,he];rfl
theorem C.r13_Find(n:List UInt8)(l:List Co)(hl:l.length<=1048576)(dc dk df dx:D)(hc:SlD dc (eCs l))(nm:List UInt8):Pure Tryz.prog N.bt_ref13_Find [eT n dc dk df dx,.d (.str nm)] (.d (eI (findC nm l))):=by
 refine F.bt_ref13_Find.go mixed rfl ?_
 have h1:=eCs_len l
 have hm:=eCs_mem l
 repeat' first|refine st ?_|(with_reducible first|apply k_d|apply k_b)<;>intro _
 refine x_loop1 mixed Lt.bt_ref13_Find_l0 Lk.bt_ref13_Find_l0 (λ(i:Nat)=>[.d (eI i)]) (λi=>[.cells [.d (.str n),.d dc,.d dk,.d df,.d dx]]) (λi=>i<=l.length/\findC nm l=findF nm i (l.drop i)) (λi=>l.length-i) 0 rfl rfl rfl rfl (λ_ _=>⟨rfl,rfl⟩) rfl ⟨by omega,rfl⟩ ?_
 repeat' first|refine st ?_|(with_reducible first|apply k_d|apply k_b)<;>intro _
 intro i ⟨h4,h5⟩
 cases hx:l[i]? with
 |some x=>
  have hlt:=(List.getElem?_eq_some_iff.1 hx).1
  have hg:=eCs_get hx
  rw[findF_drop hx] at h5
  by_cases h:x.nm=nm
  ·rw[if_pos h] at h5
   rw[h5]
   repeat' first|refine st ?_|(with_reducible first|apply k_d|apply k_b)<;>intro _
   all_goals rfl
  ·rw[if_neg h] at h5
   repeat' first|refine st ?_|(with_reducible first|apply k_d|apply k_b)<;>intro _
   exact⟨i+1,rfl,rfl,rfl,by omega,by omega,h5⟩
 |none=>
  have hge:=List.getElem?_eq_none_iff.1 hx
  rw[List.drop_eq_nil_of_le hge] at h5
  rw[h5]
  repeat' first|refine st ?_|(with_reducible first|apply k_d|apply k_b)<;>intro _
  all_goals rfl
theorem C.schema_Find_c1(c:Co)(nm:List UInt8):CallSpec Tryz.prog N.schema_Find_c1 [.agg [.d (.str c.nm),.d (eI c.k),.d (.bool c.nl)],.ptr 0 0] [.cells [.d (.str nm)]] (λr os=>r=.d (.bool (decide (c.nm=nm)))/\os=[.cells [.d (.str nm)]]):=by
 refine F.schema_Find_c1.goX mixed rfl ?_
 repeat' first|refine st ?_|(with_reducible first|apply k_d|apply k_b)<;>intro _
 all_goals exact⟨rfl,rfl⟩
theorem C.indexFunc(l:List Co)(hl:l.length<=1048576)(dc:D)(hc:SlD dc (eCs l))(nm:List UInt8):CallSpec Tryz.prog N.slices_IndexFunc__api_Column_api_Column [.d dc,.clo N.schema_Find_c1 [0]] [.cells [.d (.str nm)]] (λr os=>r=.d (eI (findC nm l))/\os=[.cells [.d (.str nm)]]):=by
 refine F.slices_IndexFunc__api_Column_api_Column.goX mixed rfl ?_
 have h1:=eCs_len l
 have hm:=eCs_mem l
 repeat' first|refine st ?_|(with_reducible first|apply k_d|apply k_b)<;>intro _
 refine x_loop1 mixed Lt.slices_IndexFunc__api_Column_api_Column_l0 Lk.slices_IndexFunc__api_Column_api_Column_l0 (λ(i:Nat)=>[.d (eI i)]) (λi=>[.cells [.d (.str nm)]]) (λi=>i<=l.length/\findC nm l=findF nm i (l.drop i)) (λi=>l.length-i) 0 rfl rfl rfl rfl (λ_ _=>⟨rfl,rfl⟩) rfl ⟨by omega,rfl⟩ ?_
 repeat' first|refine st ?_|(with_reducible first|apply k_d|apply k_b)<;>intro _
 intro i ⟨h4,h5⟩
 cases hx:l[i]? with
 |some x=>
  have hlt:=(List.getElem?_eq_some_iff.1 hx).1
  have hg:=eCs_get hx
  have hC:=C.schema_Find_c1 x nm
  rw[findF_drop hx] at h5
  by_cases h:x.nm=nm
  ·rw[if_pos h] at h5
   rw[h5]
   rw[decide_eq_true h] at hC
   repeat' first|refine st ?_|((with_reducible first|apply k_nc|apply k_cs);(·exact hC);(try rintro _ _ ⟨rfl,rfl⟩))|((with_reducible apply k_pr);(·exact hC))|((with_reducible apply k_cal);refine st ?_;(with_reducible apply k_chk);(·exact rfl);refine st ?_;(with_reducible apply k_cs);(·exact hC);(try rintro _ _ ⟨rfl,rfl⟩))|(with_reducible first|apply k_d|apply k_b)<;>intro _
   all_goals exact⟨rfl,rfl⟩
  ·rw[if_neg h] at h5
   rw[decide_eq_false h] at hC
   repeat' first|refine st ?_|((with_reducible first|apply k_nc|apply k_cs);(·exact hC);(try rintro _ _ ⟨rfl,rfl⟩))|((with_reducible apply k_pr);(·exact hC))|((with_reducible apply k_cal);refine st ?_;(with_reducible apply k_chk);(·exact rfl);refine st ?_;(with_reducible apply k_cs);(·exact hC);(try rintro _ _ ⟨rfl,rfl⟩))|(with_reducible first|apply k_d|apply k_b)<;>intro _
   exact⟨i+1,rfl,rfl,rfl,by omega,by omega,h5⟩
 |none=>
  have hge:=List.getElem?_eq_none_iff.1 hx
  rw[List.drop_eq_nil_of_le hge] at h5
  rw[h5]
  repeat' first|refine st ?_|(with_reducible first|apply k_d|apply k_b)<;>intro _
  all_goals exact⟨rfl,rfl⟩
theorem C.schema_Find(n:List UInt8)(l:List Co)(hl:l.length<=1048576)(dc dk df dx:D)(hc:SlD dc (eCs l))(nm:List UInt8):Pure Tryz.prog N.schema_Find [eT n dc dk df dx,.d (.str nm)] (.d (eI (findC nm l))):=by
 refine F.schema_Find.go mixed rfl ?_
 have hF:CallSpec Tryz.prog N.slices_IndexFunc__api_Column_api_Column [.d dc,.clo N.schema_Find_c1 [1]] [.cells [.d (.str n),.d dc,.d dk,.d df,.d dx],.cells [.d (.str nm)]] (λr os=>r=.d (eI (findC nm l))/\os=[.cells [.d (.str n),.d dc,.d dk,.d df,.d dx],.cells [.d (.str nm)]]):=
  CallSpec.frame (C.indexFunc l hl dc hc nm) [1] [.cells [.d (.str n),.d dc,.d dk,.d df,.d dx],.cells [.d (.str nm)]] rfl (by decide)
   (λi o h=>by
    match i,h with
    |0,h=>cases h;rfl
    |i+1,h=>simp at h)
   (λa ha=>by simp at ha;rcases ha with rfl|rfl<;>simp[AV.bnd2,AV.bnd1])
   (λo ho=>by simp at ho;subst ho;simp[AO.bnd,AV.bnd1])
   (λr bs' h=>by obtain⟨rfl,rfl⟩:=h;exact⟨rfl,rfl⟩)
 repeat' first|refine st ?_|((with_reducible first|apply k_nc|apply k_cs);(·exact hF);(try rintro _ _ ⟨rfl,rfl⟩))|((with_reducible apply k_pr);(·exact hF))|((with_reducible apply k_cal);refine st ?_;(with_reducible apply k_chk);(·exact rfl);refine st ?_;(with_reducible apply k_cs);(·exact hF);(try rintro _ _ ⟨rfl,rfl⟩))|(with_reducible first|apply k_d|apply k_b)<;>intro _
 all_goals rfl
end Go.Proofs
end
section
namespace Go.Proofs
open Go.Bi
def keyF(l:List Co):Option Int->List Int->Int
 |_,[]=>0
 |p,k::ks=>if 0<=k/\k<l.length then (match p with
  |some q=>if k<=q then 25 else if (l.getD k.toNat ⟨[],0,false⟩).nl then 12 else keyF l (some k) ks
  |none=>if (l.getD k.toNat ⟨[],0,false⟩).nl then 12 else keyF l (some k) ks) else 25
def keyE(l:List Co)(ks:List Int):Int:=if ks.length=0 then 25 else keyF l none ks
def prv(ks:List Int)(i:Nat):Option Int:=if i=0 then none else ks[i-1]?
theorem keyF_drop{l:List Co}{ks:List Int}{i:Nat}{k:Int}(h:ks[i]?=some k):keyF l (prv ks i) (ks.drop i)=if 0<=k/\k<l.length then (match prv ks i with
  |some q=>if k<=q then 25 else if (l.getD k.toNat ⟨[],0,false⟩).nl then 12 else keyF l (prv ks (i+1)) (ks.drop (i+1))
  |none=>if (l.getD k.toNat ⟨[],0,false⟩).nl then 12 else keyF l (prv ks (i+1)) (ks.drop (i+1))) else 25:=by
 obtain⟨hlt,he⟩:=List.getElem?_eq_some_iff.1 h
 have hp:prv ks (i+1)=some k:=by rw[prv,if_neg (by omega)];exact h
 rw[List.drop_eq_getElem_cons hlt,he,hp]
 cases prv ks i<;>rfl
theorem C.schema_has(n:List UInt8)(l:List Co)(hl:l.length<=1048576)(dc dk df dx:D)(hc:SlD dc (eCs l))(k:Int):Pure Tryz.prog N.schema_has [eT n dc dk df dx,.d (eI k)] (.d (.bool (decide (0<=k/\k<l.length)))):=by
 refine F.schema_has.go mixed rfl ?_
 have h1:=eCs_len l
 repeat' first|refine st ?_|(with_reducible first|apply k_d|apply k_b)<;>intro _
 all_goals (simp_all<;>(intros;omega))
theorem C.r13_exists(n:List UInt8)(l:List Co)(hl:l.length<=1048576)(dc dk df dx:D)(hc:SlD dc (eCs l))(k:Int):Pure Tryz.prog N.bt_ref13_exists [eT n dc dk df dx,.d (eI k)] (.d (.bool (decide (0<=k/\k<l.length)))):=by
 refine F.bt_ref13_exists.go mixed rfl ?_
 have h1:=eCs_len l
 repeat' first|refine st ?_|(with_reducible first|apply k_d|apply k_b)<;>intro _
 all_goals (simp_all<;>(intros;omega))
theorem C.schema_checkKey(n:List UInt8)(l:List Co)(hl:l.length<=1048576)(dc dk df dx:D)(hc:SlD dc (eCs l))(ks:List Int)(hk:ks.length<=1048576)(hdk:SlD dk (eIs ks)):Pure Tryz.prog N.schema_checkKey [eT n dc dk df dx] (.d (eI (keyE l ks))):=by
 refine F.schema_checkKey.go mixed rfl ?_
 have h1:=eCs_len l
 have hm:=eCs_mem l
 have h2:=eIs_len ks
 have hm2:=eIs_mem ks
 unfold keyE
 by_cases h0:ks.length=0
 ·rw[if_pos h0]
  repeat' first|refine st ?_|(with_reducible first|apply k_d|apply k_b)<;>intro _
  all_goals first|rfl|(exfalso;omega)
 rw[if_neg h0]
 obtain⟨q,hq⟩:∃q,q=keyF l none ks:=⟨_,rfl⟩
 rw[<- hq]
 repeat' first|refine st ?_|(with_reducible first|apply k_d|apply k_b)<;>intro _
 refine x_loop1 mixed Lt.schema_checkKey_l0 Lk.schema_checkKey_l0 (λ(i:Nat)=>[.d (eI i)]) (λi=>[.cells [.d (.str n),.d dc,.d dk,.d df,.d dx]]) (λi=>i<=ks.length/\q=keyF l (prv ks i) (ks.drop i)) (λi=>ks.length-i) 0 rfl rfl rfl rfl (λ_ _=>⟨rfl,rfl⟩) rfl ⟨by omega,hq⟩ ?_
 repeat' first|refine st ?_|(with_reducible first|apply k_d|apply k_b)<;>intro _
 intro i ⟨h4,h5⟩
 cases hx:ks[i]? with
 |some k=>
  have hlt:=(List.getElem?_eq_some_iff.1 hx).1
  have hg:=eIs_get hx
  have hH:=C.schema_has n l hl dc dk df dx hc k
  rw[keyF_drop hx] at h5
  by_cases hin:0<=k/\k<l.length
  rotate_left
  ·rw[if_neg hin] at h5
   rw[decide_eq_false hin] at hH
   rw[h5]
   repeat' first|refine st ?_|((with_reducible first|apply k_pn|apply k_pc);(·exact hH))|(with_reducible first|apply k_d|apply k_b)<;>intro _
   all_goals rfl
  rw[if_pos hin] at h5
  rw[decide_eq_true hin] at hH
  obtain⟨i1,i2⟩:=hin
  obtain⟨c,hcx⟩:∃c,l[k.toNat]?=some c:=⟨_,List.getElem?_eq_getElem (by omega)⟩
  have hgc:=eCs_get hcx
  have hb2:k<(eCs l).length:=by omega
  rw[show l.getD k.toNat ⟨[],0,false⟩=c by rw[List.getD_eq_getElem?_getD,hcx];rfl] at h5
  obtain⟨cn,ck,cl⟩:=c
  dsimp only at h5 hgc
  by_cases hi:i=0
  ·subst hi
   rw[show prv ks 0=none from rfl] at h5
   dsimp only at h5
   cases cl with
   |true=>
    rw[if_pos rfl] at h5
    rw[h5]
    repeat' first|refine st ?_|((with_reducible first|apply k_pn|apply k_pc);(·exact hH))|(with_reducible first|apply k_d|apply k_b)<;>intro _
    all_goals rfl
   |false=>
    rw[if_neg (by simp)] at h5
    repeat' first|refine st ?_|((with_reducible first|apply k_pn|apply k_pc);(·exact hH))|(with_reducible first|apply k_d|apply k_b)<;>intro _
    exact⟨1,rfl,rfl,rfl,by omega,by omega,h5⟩
  ·obtain⟨k',hk'⟩:∃k',ks[i-1]?=some k':=⟨_,List.getElem?_eq_getElem (by omega)⟩
   have hg':(eIs ks)[((i:Int)-1).toNat]?=some [eI k']:=by
    rw[show((i:Int)-1).toNat=i-1 by omega]
    exact eIs_get hk'
   have hw:(0:Int)<i:=by omega
   rw[show prv ks i=some k' by rw[prv,if_neg hi,hk']] at h5
   dsimp only at h5
   by_cases hle:k<=k'
   ·rw[if_pos hle] at h5
    rw[h5]
    repeat' first|refine st ?_|((with_reducible first|apply k_pn|apply k_pc);(·exact hH))|(with_reducible first|apply k_d|apply k_b)<;>intro _
    all_goals rfl
   ·rw[if_neg hle] at h5
    cases cl with
    |true=>
     rw[if_pos rfl] at h5
     rw[h5]
     repeat' first|refine st ?_|((with_reducible first|apply k_pn|apply k_pc);(·exact hH))|(with_reducible first|apply k_d|apply k_b)<;>intro _
     all_goals rfl
    |false=>
     rw[if_neg (by simp)] at h5
     repeat' first|refine st ?_|((with_reducible first|apply k_pn|apply k_pc);(·exact hH))|(with_reducible first|apply k_d|apply k_b)<;>intro _
     exact⟨i+1,rfl,rfl,rfl,by omega,by omega,h5⟩
 |none=>
  have hge:=List.getElem?_eq_none_iff.1 hx
  rw[List.drop_eq_nil_of_le hge] at h5
  rw[h5]
  repeat' first|refine st ?_|(with_reducible first|apply k_d|apply k_b)<;>intro _
  all_goals first|rfl|(unfold keyF;rfl)
theorem C.r13_key(n:List UInt8)(l:List Co)(hl:l.length<=1048576)(dc dk df dx:D)(hc:SlD dc (eCs l))(ks:List Int)(hk:ks.length<=1048576)(hdk:SlD dk (eIs ks)):Pure Tryz.prog N.bt_ref13_key [eT n dc dk df dx] (.d (eI (keyE l ks))):=by
 refine F.bt_ref13_key.go mixed rfl ?_
 have h1:=eCs_len l
 have hm:=eCs_mem l
 have h2:=eIs_len ks
 have hm2:=eIs_mem ks
 unfold keyE
 by_cases h0:ks.length=0
 ·rw[if_pos h0]
  repeat' first|refine st ?_|(with_reducible first|apply k_d|apply k_b)<;>intro _
  all_goals first|rfl|(exfalso;omega)
 rw[if_neg h0]
 obtain⟨q,hq⟩:∃q,q=keyF l none ks:=⟨_,rfl⟩
 rw[<- hq]
 repeat' first|refine st ?_|(with_reducible first|apply k_d|apply k_b)<;>intro _
 refine x_loop1 mixed Lt.bt_ref13_key_l0 Lk.bt_ref13_key_l0 (λ(i:Nat)=>[.d (eI i)]) (λi=>[.cells [.d (.str n),.d dc,.d dk,.d df,.d dx]]) (λi=>i<=ks.length/\q=keyF l (prv ks i) (ks.drop i)) (λi=>ks.length-i) 0 rfl rfl rfl rfl (λ_ _=>⟨rfl,rfl⟩) rfl ⟨by omega,hq⟩ ?_
 repeat' first|refine st ?_|(with_reducible first|apply k_d|apply k_b)<;>intro _
 intro i ⟨h4,h5⟩
 cases hx:ks[i]? with
 |some k=>
  have hlt:=(List.getElem?_eq_some_iff.1 hx).1
  have hg:=eIs_get hx
  have hH:=C.r13_exists n l hl dc dk df dx hc k
  rw[keyF_drop hx] at h5
  by_cases hin:0<=k/\k<l.length
  rotate_left
  ·rw[if_neg hin] at h5
   rw[decide_eq_false hin] at hH
   rw[h5]
   repeat' first|refine st ?_|((with_reducible first|apply k_pn|apply k_pc);(·exact hH))|(with_reducible first|apply k_d|apply k_b)<;>intro _
   all_goals rfl
  rw[if_pos hin] at h5
  rw[decide_eq_true hin] at hH
  obtain⟨i1,i2⟩:=hin
  obtain⟨c,hcx⟩:∃c,l[k.toNat]?=some c:=⟨_,List.getElem?_eq_getElem (by omega)⟩
  have hgc:=eCs_get hcx
  have hb2:k<(eCs l).length:=by omega
  rw[show l.getD k.toNat ⟨[],0,false⟩=c by rw[List.getD_eq_getElem?_getD,hcx];rfl] at h5
  obtain⟨cn,ck,cl⟩:=c
  dsimp only at h5 hgc
  by_cases hi:i=0
  ·subst hi
   rw[show prv ks 0=none from rfl] at h5
   dsimp only at h5
   cases cl with
   |true=>
    rw[if_pos rfl] at h5
    rw[h5]
    repeat' first|refine st ?_|((with_reducible first|apply k_pn|apply k_pc);(·exact hH))|(with_reducible first|apply k_d|apply k_b)<;>intro _
    all_goals rfl
   |false=>
    rw[if_neg (by simp)] at h5
    repeat' first|refine st ?_|((with_reducible first|apply k_pn|apply k_pc);(·exact hH))|(with_reducible first|apply k_d|apply k_b)<;>intro _
    exact⟨1,rfl,rfl,rfl,by omega,by omega,h5⟩
  ·obtain⟨k',hk'⟩:∃k',ks[i-1]?=some k':=⟨_,List.getElem?_eq_getElem (by omega)⟩
   have hg':(eIs ks)[((i:Int)-1).toNat]?=some [eI k']:=by
    rw[show((i:Int)-1).toNat=i-1 by omega]
    exact eIs_get hk'
   have hw:(0:Int)<i:=by omega
   rw[show prv ks i=some k' by rw[prv,if_neg hi,hk']] at h5
   dsimp only at h5
   by_cases hle:k<=k'
   ·rw[if_pos hle] at h5
    rw[h5]
    repeat' first|refine st ?_|((with_reducible first|apply k_pn|apply k_pc);(·exact hH))|(with_reducible first|apply k_d|apply k_b)<;>intro _
    all_goals rfl
   ·rw[if_neg hle] at h5
    cases cl with
    |true=>
     rw[if_pos rfl] at h5
     rw[h5]
     repeat' first|refine st ?_|((with_reducible first|apply k_pn|apply k_pc);(·exact hH))|(with_reducible first|apply k_d|apply k_b)<;>intro _
     all_goals rfl
    |false=>
     rw[if_neg (by simp)] at h5
     repeat' first|refine st ?_|((with_reducible first|apply k_pn|apply k_pc);(·exact hH))|(with_reducible first|apply k_d|apply k_b)<;>intro _
     exact⟨i+1,rfl,rfl,rfl,by omega,by omega,h5⟩
 |none=>
  have hge:=List.getElem?_eq_none_iff.1 hx
  rw[List.drop_eq_nil_of_le hge] at h5
  rw[h5]
  repeat' first|refine st ?_|(with_reducible first|apply k_d|apply k_b)<;>intro _
  all_goals first|rfl|(unfold keyF;rfl)
end Go.Proofs
end
section
namespace Go.Proofs
open Go.Bi
def colF(seen:List (List UInt8)):List Co->Int
 |[]=>0
 |c::r=>if nameB c.nm then (if 1<=c.k/\c.k<=3 then (if c.nm∈seen then 10 else colF (seen++[c.nm]) r) else 7) else 1
def colE(l:List Co):Int:=if 1<=l.length/\l.length<=12 then colF [] l else 13
def nms(l:List Co)(i:Nat):List (List UInt8):=(l.take i).map Co.nm
theorem nms_succ{l:List Co}{i:Nat}{c:Co}(h:l[i]?=some c):nms l i++[c.nm]=nms l (i+1):=by
 unfold nms
 rw[List.take_add_one,h]
 simp
theorem colF_drop{l:List Co}{i:Nat}{c:Co}(h:l[i]?=some c):colF (nms l i) (l.drop i)=if nameB c.nm then (if 1<=c.k/\c.k<=3 then (if c.nm∈nms l i then 10 else colF (nms l (i+1)) (l.drop (i+1))) else 7) else 1:=by
 obtain⟨hlt,he⟩:=List.getElem?_eq_some_iff.1 h
 rw[List.drop_eq_getElem_cons hlt,he,<- nms_succ h,colF]
def mp1(ns:List (List UInt8)):List (D×AV):=ns.map λs=>(.str s,.d (eI 1))
theorem eqD_s(a b:List UInt8):eqD .s (.str a) (.str b)=some (decide (a=b)):=by
 unfold eqD
 rw[Option.some.injEq,Bool.eq_iff_iff]
 simp
theorem mok_s(s:List UInt8)(kvs:List (D×AV))(h:∀p∈kvs,∃t,p.1=.str t):mok .s (.str s) kvs:=by
 refine⟨λp hp=>?_,by rw[eqD_s];simp⟩
 obtain⟨t,ht⟩:=h p hp
 rw[ht,eqD_s];simp
theorem mp1_str(ns:List (List UInt8)):∀p∈mp1 ns,∃t,p.1=.str t:=by
 intro p hp
 obtain⟨s,_,rfl⟩:=List.mem_map.1 hp
 exact⟨s,rfl⟩
theorem mget_in{s:List UInt8}:∀{ns:List (List UInt8)},s∈ns->mget .s (.str s) (mp1 ns)=some (.d (eI 1))
 |[],h=>by cases h
 |t::ns,h=>by
  unfold mp1
  rw[List.map_cons,mget,eqD_s]
  by_cases e:s=t
  ·rw[if_pos (by rw[decide_eq_true e])]
  ·rw[if_neg (by simp[e])]
   exact mget_in (by rcases List.mem_cons.1 h with h|h;exact absurd h e;exact h)
theorem mget_out{s:List UInt8}:∀{ns:List (List UInt8)},¬s∈ns->mget .s (.str s) (mp1 ns)=none
 |[],h=>rfl
 |t::ns,h=>by
  unfold mp1
  rw[List.map_cons,mget,eqD_s]
  rw[if_neg (by simp;intro e;exact h (by simp[e]))]
  exact mget_out λh'=>h (by simp[h'])
theorem mput_out{s:List UInt8}{v:AV}:∀{ns:List (List UInt8)},¬s∈ns->mput .s (.str s) v (mp1 ns)=mp1 ns++[(.str s,v)]
 |[],h=>rfl
 |t::ns,h=>by
  unfold mp1
  rw[List.map_cons,mput,eqD_s]
  rw[if_neg (by simp;intro e;exact h (by simp[e]))]
  have e:mput .s (.str s) v (mp1 ns)=mp1 ns++[(.str s,v)]:=mput_out (λh':s∈ns=>h (List.mem_cons_of_mem _ h'))
  unfold mp1 at e
  rw[e];rfl
theorem mput_str{s:List UInt8}{v:AV}:∀{kvs:List (D×AV)},(∀p∈kvs,∃t,p.1=.str t)->∀p∈mput .s (.str s) v kvs,∃t,p.1=.str t
 |[],h,p,hp=>by simp[mput] at hp;subst hp;exact⟨s,rfl⟩
 |q::kvs,h,p,hp=>by
  unfold mput at hp
  split at hp
  ·rcases List.mem_cons.1 hp with rfl|hp
   ·exact⟨s,rfl⟩
   ·exact h p (by simp[hp])
  ·rcases List.mem_cons.1 hp with rfl|hp
   ·exact h _ (by simp)
   ·exact mput_str (λp hp=>h p (by simp[hp])) p hp
theorem mget_mput{s:List UInt8}{v:AV}:∀{kvs:List (D×AV)},mget .s (.str s) (mput .s (.str s) v kvs)=some v
 |[]=>by simp[mput,mget,eqD_s]
 |q::kvs=>by
  unfold mput
  split
  ·simp[mget,eqD_s]
  ·rename_i h
   rw[mget,if_neg h]
   exact mget_mput
theorem findF_lt{nm:List UInt8}:∀{l:List Co}{i j:Nat}{c:Co},l[j]?=some c->c.nm=nm->findF nm i l=(i+j:Nat)/\¬nm∈(l.take j).map Co.nm\/(i:Int)<=findF nm i l/\findF nm i l<(i+j:Nat)/\nm∈(l.take j).map Co.nm
 |[],i,j,c,h,_=>by simp at h
 |d::l,i,0,c,h,e=>by
  simp only[List.getElem?_cons_zero,Option.some.injEq] at h
  subst h
  left
  unfold findF
  rw[if_pos e]
  exact⟨by simp,by simp⟩
 |d::l,i,j+1,c,h,e=>by
  rw[List.getElem?_cons_succ] at h
  unfold findF
  by_cases hd:d.nm=nm
  ·right
   rw[if_pos hd]
   exact⟨Int.le_refl _,by omega,by simp[hd]⟩
  ·rw[if_neg hd]
   rcases findF_lt (i:=i+1) h e with ⟨h1,h2⟩|⟨h1,h2,h3⟩
   ·left
    refine⟨by omega,?_⟩
    simp only[List.take_succ_cons,List.map_cons,List.mem_cons,not_or]
    exact⟨λh=>hd h.symm,h2⟩
   ·right
    refine⟨by omega,by omega,?_⟩
    simp only[List.take_succ_cons,List.map_cons,List.mem_cons]
    exact .inr h3
theorem C.r13_columns(n:List UInt8)(l:List Co)(hl:l.length<=1048576)(hls:∀c∈l,c.nm.length<=1048576)(dc dk df dx:D)(hc:SlD dc (eCs l)):Pure Tryz.prog N.bt_ref13_columns [eT n dc dk df dx] (.d (eI (colE l))):=by
 refine F.bt_ref13_columns.go mixed rfl ?_
 have h1:=eCs_len l
 have hm:=eCs_mem l
 unfold colE
 by_cases h0:1<=l.length/\l.length<=12
 rotate_left
 ·rw[if_neg h0]
  repeat' first|refine st ?_|(with_reducible first|apply k_d|apply k_b)<;>intro _
  all_goals first|rfl|(exfalso;omega)
 rw[if_pos h0]
 obtain⟨g1,g2⟩:=h0
 obtain⟨q,hq⟩:∃q,q=colF [] l:=⟨_,rfl⟩
 rw[<- hq]
 repeat' first|refine st ?_|(with_reducible first|apply k_d|apply k_b)<;>intro _
 refine x_loop1 mixed Lt.bt_ref13_columns_l0 Lk.bt_ref13_columns_l0 (λ(i:Nat)=>[.d (eI i)]) (λi=>[.cells [.d (.str n),.d dc,.d dk,.d df,.d dx]]) (λi=>i<=l.length/\q=colF (nms l i) (l.drop i)) (λi=>l.length-i) 0 rfl rfl rfl rfl (λ_ _=>⟨rfl,rfl⟩) rfl ⟨by omega,hq⟩ ?_
 repeat' first|refine st ?_|(with_reducible first|apply k_d|apply k_b)<;>intro _
 intro i ⟨h4,h5⟩
 cases hx:l[i]? with
 |some x=>
  have hlt:=(List.getElem?_eq_some_iff.1 hx).1
  have hg:=eCs_get hx
  have hN:=C.r13_Name x.nm (hls x (List.mem_of_getElem? hx))
  have hF:=C.r13_Find n l hl dc dk df dx hc x.nm
  have hff:=findF_lt (i:=0) hx rfl
  rw[colF_drop hx] at h5
  cases hv:nameB x.nm with
  |false=>
   rw[hv,if_neg (by simp)] at h5
   rw[hv] at hN
   rw[h5]
   repeat' first|refine st ?_|((with_reducible first|apply k_pn|apply k_pc);(·exact hN))|(with_reducible first|apply k_d|apply k_b)<;>intro _
   all_goals rfl
  |true=>
   rw[hv,if_pos rfl] at h5
   rw[hv] at hN
   by_cases hk:1<=x.k/\x.k<=3
   rotate_left
   ·rw[if_neg hk] at h5
    rw[h5]
    repeat' first|refine st ?_|((with_reducible first|apply k_pn|apply k_pc);(·exact hN))|(with_reducible first|apply k_d|apply k_b)<;>intro _
    all_goals first|rfl|(exfalso;omega)
   rw[if_pos hk] at h5
   obtain⟨k1,k2⟩:=hk
   by_cases hin:x.nm∈nms l i
   ·rw[if_pos hin] at h5
    have hlti:findC x.nm l<i:=by
     rcases hff with ⟨_,h⟩|⟨_,h,_⟩
     ·exact absurd hin h
     ·rw[findC];omega
    rw[h5]
    repeat' first|refine st ?_|((with_reducible first|apply k_pn|apply k_pc);(·first|exact hN|exact hF))|(with_reducible first|apply k_d|apply k_b)<;>intro _
    all_goals rfl
   ·rw[if_neg hin] at h5
    have hge:¬findC x.nm l<i:=by
     rcases hff with ⟨h,_⟩|⟨_,_,h⟩
     ·rw[findC];omega
     ·exact absurd h hin
    repeat' first|refine st ?_|((with_reducible first|apply k_pn|apply k_pc);(·first|exact hN|exact hF))|(with_reducible first|apply k_d|apply k_b)<;>intro _
    exact⟨i+1,rfl,rfl,rfl,by omega,by omega,h5⟩
 |none=>
  have hge:=List.getElem?_eq_none_iff.1 hx
  rw[List.drop_eq_nil_of_le hge] at h5
  rw[h5]
  repeat' first|refine st ?_|(with_reducible first|apply k_d|apply k_b)<;>intro _
  all_goals rfl
end Go.Proofs
end
section
namespace Go.Proofs
open Go.Bi
theorem C.schema_kindOK(k:Int):Pure Tryz.prog N.schema_kindOK [.d (eI k)] (.d (.bool (decide (1<=k/\k<=3)))):=by
 refine F.schema_kindOK.go mixed rfl ?_
 repeat' first|refine st ?_|(with_reducible first|apply k_d|apply k_b)<;>intro _
 all_goals (simp_all<;>(intros;omega))
theorem mp1_app(ns:List (List UInt8))(s:List UInt8):mp1 ns++[(.str s,.d (eI 1))]=mp1 (ns++[s]):=by simp[mp1]
theorem C.schema_checkColumns(n:List UInt8)(l:List Co)(hl:l.length<=1048576)(hls:∀c∈l,c.nm.length<=1048576)(dc dk df dx:D)(hc:SlD dc (eCs l)):Pure Tryz.prog N.schema_checkColumns [eT n dc dk df dx] (.d (eI (colE l))):=by
 refine F.schema_checkColumns.go mixed rfl ?_
 have h1:=eCs_len l
 have hm:=eCs_mem l
 unfold colE
 by_cases h0:1<=l.length/\l.length<=12
 rotate_left
 ·rw[if_neg h0]
  repeat' first|refine st ?_|(with_reducible first|apply k_d|apply k_b)<;>intro _
  all_goals first|rfl|(exfalso;omega)
 rw[if_pos h0]
 obtain⟨g1,g2⟩:=h0
 obtain⟨q,hq⟩:∃q,q=colF [] l:=⟨_,rfl⟩
 rw[<- hq]
 repeat' first|refine st ?_|(with_reducible first|apply k_d|apply k_b)<;>intro _
 refine x_loop1 mixed Lt.schema_checkColumns_l0 Lk.schema_checkColumns_l0 (λ(i:Nat)=>[.d (eI i)]) (λi=>[.cells [.d (.str n),.d dc,.d dk,.d df,.d dx],.map (mp1 (nms l i))]) (λi=>i<=l.length/\q=colF (nms l i) (l.drop i)) (λi=>l.length-i) 0 rfl rfl rfl rfl (λ_ _=>⟨rfl,(by simp[List.all_cons,AO.bndB,mp1,AV.bnd2B,AV.bnd1B])⟩) rfl ⟨by omega,hq⟩ ?_
 repeat' first|refine st ?_|(with_reducible first|apply k_d|apply k_b)<;>intro _
 intro i ⟨h4,h5⟩
 cases hx:l[i]? with
 |some x=>
  have hlt:=(List.getElem?_eq_some_iff.1 hx).1
  have hg:=eCs_get hx
  have hN:=C.schema_Name x.nm (hls x (List.mem_of_getElem? hx))
  have hK:=C.schema_kindOK x.k
  have hs:=nms_succ hx
  rw[colF_drop hx] at h5
  obtain⟨kvs,hkv⟩:∃kvs,kvs=mp1 (nms l i):=⟨_,rfl⟩
  have m1:mok .s (.str x.nm) kvs:=by rw[hkv];exact mok_s _ _ (mp1_str _)
  by_cases hin:x.nm∈nms l i
  ·rw[if_pos hin] at h5
   have e1:lkR false (zv false [.int .i64 0]) (mget .s (.str x.nm) kvs)=.d (eI 1):=by rw[hkv,mget_in hin];rfl
   obtain⟨kv2,e2⟩:∃kv2,mput .s (.str x.nm) (.d (eI 2)) kvs=kv2:=⟨_,rfl⟩
   have m2:mok .s (.str x.nm) kv2:=by rw[<- e2,hkv];exact mok_s _ _ (mput_str (mp1_str _))
   have e3:lkR false (zv false [.int .i64 0]) (mget .s (.str x.nm) kv2)=.d (eI 2):=by rw[<- e2,mget_mput];rfl
   rw[<- hkv]
   cases hv:nameB x.nm with
   |false=>
    rw[hv,if_neg (by simp)] at h5
    rw[hv] at hN
    rw[h5]
    repeat' first|refine st ?_|((with_reducible first|apply k_pn|apply k_pc);(·exact hN))|(with_reducible first|apply k_d|apply k_b)<;>intro _
    all_goals rfl
   |true=>
    rw[hv,if_pos rfl] at h5
    rw[hv] at hN
    by_cases hk:1<=x.k/\x.k<=3
    ·rw[if_pos hk] at h5
     rw[decide_eq_true hk] at hK
     rw[h5]
     repeat' first|refine st ?_|((with_reducible first|apply k_pn|apply k_pc);(·first|exact hN|exact hK))|(with_reducible first|apply k_d|apply k_b)<;>intro _
     all_goals rfl
    ·rw[if_neg hk] at h5
     rw[decide_eq_false hk] at hK
     rw[h5]
     repeat' first|refine st ?_|((with_reducible first|apply k_pn|apply k_pc);(·first|exact hN|exact hK))|(with_reducible first|apply k_d|apply k_b)<;>intro _
     all_goals rfl
  ·rw[if_neg hin] at h5
   have e1:lkR false (zv false [.int .i64 0]) (mget .s (.str x.nm) kvs)=.d (eI 0):=by rw[hkv,mget_out hin];rfl
   have e2:mput .s (.str x.nm) (.d (eI 1)) kvs=mp1 (nms l (i+1)):=by rw[hkv,mput_out hin,mp1_app,hs]
   have m2:mok .s (.str x.nm) (mp1 (nms l (i+1))):=mok_s _ _ (mp1_str _)
   have e3:lkR false (zv false [.int .i64 0]) (mget .s (.str x.nm) (mp1 (nms l (i+1))))=.d (eI 1):=by rw[mget_in (by rw[<- hs];simp)];rfl
   rw[<- hkv]
   cases hv:nameB x.nm with
   |false=>
    rw[hv,if_neg (by simp)] at h5
    rw[hv] at hN
    rw[h5]
    repeat' first|refine st ?_|((with_reducible first|apply k_pn|apply k_pc);(·exact hN))|(with_reducible first|apply k_d|apply k_b)<;>intro _
    all_goals rfl
   |true=>
    rw[hv,if_pos rfl] at h5
    rw[hv] at hN
    by_cases hk:1<=x.k/\x.k<=3
    ·rw[if_pos hk] at h5
     rw[decide_eq_true hk] at hK
     repeat' first|refine st ?_|((with_reducible first|apply k_pn|apply k_pc);(·first|exact hN|exact hK))|(with_reducible first|apply k_d|apply k_b)<;>intro _
     exact⟨i+1,rfl,rfl,rfl,by omega,by omega,h5⟩
    ·rw[if_neg hk] at h5
     rw[decide_eq_false hk] at hK
     rw[h5]
     repeat' first|refine st ?_|((with_reducible first|apply k_pn|apply k_pc);(·first|exact hN|exact hK))|(with_reducible first|apply k_d|apply k_b)<;>intro _
     all_goals rfl
 |none=>
  have hge:=List.getElem?_eq_none_iff.1 hx
  rw[List.drop_eq_nil_of_le hge] at h5
  rw[h5]
  repeat' first|refine st ?_|(with_reducible first|apply k_d|apply k_b)<;>intro _
  all_goals rfl
end Go.Proofs
end
section
namespace Go.Proofs
open Go.Bi
inductive Ex where
 |mk (op n:Int) (v:Vl) (name:List UInt8) (nl:Bool) (args:List Ex)
theorem Ex.ind{p:Ex->Prop}(h:∀op n v name nl args,(∀a∈args,p a)->p (.mk op n v name nl args)):∀e,p e
 |.mk op n v name nl args=>h _ _ _ _ _ _ λa ha=>Ex.ind h a
termination_by e=>SizeOf.sizeOf e
decreasing_by
 have:=List.sizeOf_lt_of_mem ha
 simp only[Ex.mk.sizeOf_spec]
 omega
def ng(nl:Bool)(l:List (List D)):D:=if nl&&l.isEmpty then .nil else .sl l
theorem sld_ng{nl:Bool}{l:List (List D)}:SlD (ng nl l) l:=by
 unfold ng
 split
 ·rename_i h
  simp only[Bool.and_eq_true,List.isEmpty_iff] at h
  exact .inl ⟨rfl,h.2⟩
 ·exact .inr rfl
abbrev xds(op n:Int)(v:Vl)(name:List UInt8)(d:D):List D:=[eI op,eI n,eI v.k,eI v.n,.str v.s,.str name,d]
abbrev eX(op n:Int)(v:Vl)(name:List UInt8)(d:D):AV:=.agg [.d (eI op),.d (eI n),.d (eI v.k),.d (eI v.n),.d (.str v.s),.d (.str name),.d d]
mutual
def Ex.ds:Ex->List D
 |.mk op n v name nl args=>xds op n v name (ng nl (Ex.dss args))
def Ex.dss:List Ex->List (List D)
 |[]=>[]
 |e::es=>e.ds::Ex.dss es
end
theorem Ex.dss_eq:∀l,Ex.dss l=l.map Ex.ds
 |[]=>by simp[Ex.dss]
 |e::es=>by simp[Ex.dss,Ex.dss_eq es]
def xL(l:List Ex):List (List D):=l.map Ex.ds
theorem Ex.ds_mk(op n:Int)(v:Vl)(name:List UInt8)(nl:Bool)(args:List Ex):(Ex.mk op n v name nl args).ds=xds op n v name (ng nl (xL args)):=by
 rw[Ex.ds,Ex.dss_eq];rfl
def Ex.av(e:Ex):AV:=.agg (e.ds.map .d)
theorem Ex.av_mk(op n:Int)(v:Vl)(name:List UInt8)(nl:Bool)(args:List Ex):(Ex.mk op n v name nl args).av=eX op n v name (ng nl (xL args)):=by
 rw[Ex.av,Ex.ds_mk];rfl
theorem xL_len(l:List Ex):(xL l).length=l.length:=by simp[xL]
theorem xL_mem(l:List Ex):∀e∈xL l,e.length=7:=by
 intro e he
 obtain⟨⟨op,n,v,name,nl,args⟩,_,rfl⟩:=List.mem_map.1 he
 rw[Ex.ds_mk];rfl
theorem xL_get{l:List Ex}{i:Nat}{e:Ex}(h:l[i]?=some e):(xL l)[i]?=some e.ds:=by simp[xL,h]
def Ex.bk(e:Ex):Nat:=bulkL e.ds
theorem bulkLL_mem{l:List (List D)}{x:List D}(h:x∈l):bulkL x<=bulkLL l:=by
 induction l with
 |nil=>cases h
 |cons y l ih=>
  simp only[bulkLL]
  rcases List.mem_cons.1 h with rfl|h
  ·omega
  ·have:=ih h;omega
theorem bulkLL_len{l:List (List D)}(h:∀x∈l,1<=bulkL x):l.length<=bulkLL l:=by
 induction l with
 |nil=>exact Nat.zero_le _
 |cons y l ih=>
  have h1:=h y (by simp)
  have h2:=ih λx hx=>h x (by simp[hx])
  simp only[bulkLL,List.length_cons]
  omega
theorem Ex.bk_mk(op n:Int)(v:Vl)(name:List UInt8)(nl:Bool)(args:List Ex):bulkLL (xL args)+v.s.length+name.length+6<=(Ex.mk op n v name nl args).bk:=by
 rw[Ex.bk,Ex.ds_mk]
 simp only[bulkL,bulkD]
 unfold ng
 split
 ·rename_i h
  simp only[Bool.and_eq_true,List.isEmpty_iff] at h
  rw[h.2]
  simp only[bulkD,bulkLL]
  omega
 ·simp only[bulkD];omega
theorem Ex.bk_pos(e:Ex):6<=e.bk:=by
 obtain⟨op,n,v,name,nl,args⟩:=e
 have:=Ex.bk_mk op n v name nl args
 omega
theorem xL_bulk_len(l:List Ex):l.length<=bulkLL (xL l):=by
 rw[<- xL_len l]
 refine bulkLL_len λx hx=>?_
 obtain⟨e,_,rfl⟩:=List.mem_map.1 hx
 have:=e.bk_pos
 unfold Ex.bk at this
 omega
theorem Ex.bk_arg{op n:Int}{v:Vl}{name:List UInt8}{nl:Bool}{args:List Ex}{a:Ex}(h:a∈args):a.bk<(Ex.mk op n v name nl args).bk:=by
 have h1:=Ex.bk_mk op n v name nl args
 have h2:bulkL a.ds<=bulkLL (xL args):=bulkLL_mem (List.mem_map.2 ⟨a,h,rfl⟩)
 unfold Ex.bk at *
 omega
theorem Ex.bk_bounds{op n:Int}{v:Vl}{name:List UInt8}{nl:Bool}{args:List Ex}{B:Nat}(h:(Ex.mk op n v name nl args).bk<=B):args.length<=B/\v.s.length<=B/\name.length<=B/\∀a∈args,a.bk<=B:=by
 have h1:=Ex.bk_mk op n v name nl args
 have h2:=xL_bulk_len args
 exact⟨by omega,by omega,by omega,λa ha=>by have:=Ex.bk_arg (op:=op) (n:=n) (v:=v) (name:=name) (nl:=nl) ha;omega⟩
end Go.Proofs
end
section
namespace Go.Proofs
open Go.Bi
structure Fo where
 nl:Bool
 cs:List Int
 tb:List UInt8
def Fo.d(f:Fo):D:=ng f.nl (eIs f.cs)
abbrev Fo.ds(f:Fo):List D:=[f.d,.str f.tb]
theorem Fo.sld(f:Fo):SlD f.d (eIs f.cs):=sld_ng
def eFs(l:List Fo):List (List D):=l.map Fo.ds
theorem eFs_len(l:List Fo):(eFs l).length=l.length:=by simp[eFs]
theorem eFs_get{l:List Fo}{i:Nat}{f:Fo}(h:l[i]?=some f):(eFs l)[i]?=some f.ds:=by simp[eFs,h]
theorem eFs_mem(l:List Fo):∀e∈eFs l,e.length=2:=by
 intro e he
 obtain⟨x,_,rfl⟩:=List.mem_map.1 he
 rfl
def fcF(n:Nat)(seen:List Int):List Int->Int
 |[]=>0
 |c::r=>if (0<=c/\c<n)/\¬c∈seen then fcF n (seen++[c]) r else 25
def forE(n:Nat)(f:Fo):Int:=if nameB f.tb then (if f.cs.length=0 then 25 else fcF n [] f.cs) else 1
theorem fcF_drop{n:Nat}{l:List Int}{i:Nat}{c:Int}(h:l[i]?=some c):fcF n (l.take i) (l.drop i)=if (0<=c/\c<n)/\¬c∈l.take i then fcF n (l.take (i+1)) (l.drop (i+1)) else 25:=by
 obtain⟨hlt,he⟩:=List.getElem?_eq_some_iff.1 h
 rw[List.drop_eq_getElem_cons hlt,he,fcF,List.take_add_one,h]
 rfl
end Go.Proofs
end
