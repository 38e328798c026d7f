/- escape, walked; the law's function, whole. -/
import Derived.Test.YtlnmampbiapglaaDoorShF
set_option linter.unusedSimpArgs false
set_option linter.unusedSectionVars false
set_option linter.unusedVariables false
set_option maxRecDepth 10000
namespace Go.Sh
open Go Go.X Go.Proofs
variable [WI]

structure EscRes (s : ByteArray) (b n : Int) : Prop where
  hb : b = ((escF (bytesL s)).1.toNat : Int)
  hn : n = (((escF (bytesL s)).2 : Nat) : Int)
def escLeaf (s : ByteArray) (v : Value) (_ : VW) : Prop :=
  match v with
  | .tuple ⟨[.int .u8 b, .int .i64 n]⟩ => EscRes s b n
  | _ => False

theorem esc_cases (c : UInt8) (r : List UInt8) : (c.toNat = 34 ∧ escF (c :: r) = (34, 1)) ∨ (c.toNat = 92 ∧ escF (c :: r) = (92, 1)) ∨ (c.toNat = 110 ∧ escF (c :: r) = (10, 1)) ∨ (c.toNat = 116 ∧ escF (c :: r) = (9, 1)) ∨
    (c.toNat = 120 ∧ escF (c :: r) = (match r with | h :: l :: _ => if isHex h = true ∧ isHex l = true then (byteI (16 * hexI h.toNat + hexI l.toNat), 3) else (0, 0) | _ => (0, 0))) ∨
    (c.toNat ≠ 34 ∧ c.toNat ≠ 92 ∧ c.toNat ≠ 110 ∧ c.toNat ≠ 116 ∧ c.toNat ≠ 120 ∧ escF (c :: r) = (0, 0)) := by
  have k : ∀ d : UInt8, c = d ↔ c.toNat = d.toNat := fun d => ⟨fun h => by rw [h], fun h => UInt8.toNat_inj.1 h⟩
  by_cases h1 : c = 34
  · exact .inl ⟨(k 34).1 h1, by simp [escF, h1]⟩
  by_cases h2 : c = 92
  · exact .inr (.inl ⟨(k 92).1 h2, by simp [escF, h2]⟩)
  by_cases h3 : c = 110
  · exact .inr (.inr (.inl ⟨(k 110).1 h3, by simp [escF, h3]⟩))
  by_cases h4 : c = 116
  · exact .inr (.inr (.inr (.inl ⟨(k 116).1 h4, by simp [escF, h4]⟩)))
  by_cases h5 : c = 120
  · exact .inr (.inr (.inr (.inr (.inl ⟨(k 120).1 h5, by subst h5; rfl⟩))))
  · refine .inr (.inr (.inr (.inr (.inr ⟨fun h => h1 ((k 34).2 h), fun h => h2 ((k 92).2 h), fun h => h3 ((k 110).2 h), fun h => h4 ((k 116).2 h), fun h => h5 ((k 120).2 h), ?_⟩))))
    simp [escF, h1, h2, h3, h4, h5]

theorem hex_dig (c : UInt8) : (0 ≤ digI (c.toNat : Int) ∧ Lib.lowerB c = c ∧ isHex c = true ∧ hexI (c.toNat : Int) = digI (c.toNat : Int) ∧ digI (c.toNat : Int) ≤ 15 ∧ c.toNat < 128) ∨
    (0 ≤ digI (c.toNat : Int) ∧ Lib.lowerB c ≠ c ∧ isHex c = false ∧ c.toNat < 128) ∨ (digI (c.toNat : Int) < 0 ∧ isHex c = false) := by
  have key : ∀ n : Fin 256, (0 ≤ digI (n.val : Int) ∧ Lib.lowerB (UInt8.ofNat n.val) = UInt8.ofNat n.val ∧ isHex (UInt8.ofNat n.val) = true ∧ hexI (n.val : Int) = digI (n.val : Int) ∧ digI (n.val : Int) ≤ 15 ∧ n.val < 128) ∨
      (0 ≤ digI (n.val : Int) ∧ Lib.lowerB (UInt8.ofNat n.val) ≠ UInt8.ofNat n.val ∧ isHex (UInt8.ofNat n.val) = false ∧ n.val < 128) ∨ (digI (n.val : Int) < 0 ∧ isHex (UInt8.ofNat n.val) = false) := by decide +kernel
  have := key ⟨c.toNat, c.toNat_lt⟩
  simpa using this

theorem esc_tail (s : ByteArray) (h0 : s.size = 0 ∨ (strAt s 0 ≠ 34 ∧ strAt s 0 ≠ 92 ∧ strAt s 0 ≠ 110 ∧ strAt s 0 ≠ 116)) : bsplit (decide ((↑s.size : Int) < (3 : Int))) (EscRes s (0 : Int) (0 : Int)) (((0 : Int) ≤ (0 : Int) ∧
    (0 : Int) + (1 : Int) ≤ (↑s.size : Int)) ∧
    bsplit ((↑(strAt s (Int.toNat (0 : Int))) : Int) != (120 : Int)) (EscRes s (0 : Int) (0 : Int)) (((0 : Int) ≤ (1 : Int) ∧
    (1 : Int) ≤ (3 : Int) ∧
    (3 : Int) ≤ (↑s.size : Int)) ∧
    (s.extract (Int.toNat (1 : Int)) (Int.toNat (3 : Int))).size = (2 : Nat) ∧
    (∀ (n : Int), PR (s.extract (Int.toNat (1 : Int)) (Int.toNat (3 : Int))) n → ((0 : Int) ≤ (1 : Int) ∧
    (1 : Int) ≤ (3 : Int) ∧
    (3 : Int) ≤ (↑s.size : Int)) ∧
    LowPre (s.extract (Int.toNat (1 : Int)) (Int.toNat (3 : Int))) ∧
    ((0 : Int) ≤ (1 : Int) ∧
    (1 : Int) ≤ (3 : Int) ∧
    (3 : Int) ≤ (↑s.size : Int)) ∧
    bsplit (!(lowS (s.extract (Int.toNat (1 : Int)) (Int.toNat (3 : Int)))).data.toList == (s.extract (Int.toNat (1 : Int)) (Int.toNat (3 : Int))).data.toList) (EscRes s (0 : Int) (0 : Int)) (EscRes s (IntKind.u8.wrap n) (3 : Int))) ∧
    (PE (s.extract (Int.toNat (1 : Int)) (Int.toNat (3 : Int))) → EscRes s (0 : Int) (0 : Int)))) := by
  obtain ⟨⟨b⟩⟩ := s
  have hb : bytesL ⟨⟨b⟩⟩ = b := rfl
  have hz : (⟨⟨b⟩⟩ : ByteArray).size = b.length := rfl
  rw [hz] at h0 ⊢
  refine bsplit_iff.2 ⟨fun hlt => ?_, fun hge => ?_⟩
  · have hlt : b.length < 3 := by simp only [decide_eq_true_eq] at hlt; omega
    have : escF b = (0, 0) := by
      match b, h0, hlt with
      | [], _, _ => rfl
      | [c], h0, _ =>
        have hc : strAt ⟨⟨[c]⟩⟩ 0 = c.toNat := rfl
        rw [hc] at h0
        rcases esc_cases c [] with h | h | h | h | h | h
        all_goals first | (exfalso; simp at h0; omega) | exact h.2 | exact h.2.2.2.2.2
      | [c, d], h0, _ =>
        have hc : strAt ⟨⟨[c, d]⟩⟩ 0 = c.toNat := rfl
        rw [hc] at h0
        rcases esc_cases c [d] with h | h | h | h | h | h
        all_goals first | (exfalso; simp at h0; omega) | exact h.2 | exact h.2.2.2.2.2
    exact ⟨by rw [hb, this]; rfl, by rw [hb, this]; rfl⟩
  · have hge : ¬ b.length < 3 := by simp only [decide_eq_false_iff_not] at hge; omega
    match b, h0, hge with
    | [], _, hge => simp at hge
    | [_], _, hge => simp at hge
    | [_, _], _, hge => simp at hge
    | c :: h :: l :: r, h0, _ =>
      have hc : strAt ⟨⟨c :: h :: l :: r⟩⟩ 0 = c.toNat := rfl
      have hx : ByteArray.extract ⟨⟨c :: h :: l :: r⟩⟩ 1 3 = ⟨⟨[h, l]⟩⟩ := by
        have h1 : (ByteArray.extract ⟨⟨c :: h :: l :: r⟩⟩ 1 3).data.toList = [h, l] := by
          rw [Lib.extract_data]; rfl
        generalize ByteArray.extract ⟨⟨c :: h :: l :: r⟩⟩ 1 3 = x at h1
        obtain ⟨⟨x⟩⟩ := x
        simp only at h1
        rw [h1]
      simp only [show Int.toNat (0 : Int) = 0 from rfl, show Int.toNat (1 : Int) = 1 from rfl, show Int.toNat (3 : Int) = 3 from rfl, hx]
      rw [hc] at h0 ⊢
      have hlen : (c :: h :: l :: r).length = r.length + 3 := rfl
      rw [hlen]
      refine ⟨⟨by omega, by omega⟩, bsplit_iff.2 ⟨fun hne => ?_, fun heq => ?_⟩⟩
      · have hne : ¬ c.toNat = 120 := by
          intro he; rw [he] at hne; simp at hne
        have : escF (c :: h :: l :: r) = (0, 0) := by
          rcases esc_cases c (h :: l :: r) with h | h | h | h | h | h
          all_goals first | (exfalso; simp at h0; omega) | exact h.2 | exact h.2.2.2.2.2
        exact ⟨by rw [hb, this]; rfl, by rw [hb, this]; rfl⟩
      · have heq : c.toNat = 120 := by
          have := of_decide_eq_false (p := False) rfl
          simp at heq; omega
        have hE : escF (c :: h :: l :: r) = if isHex h = true ∧ isHex l = true then (byteI (16 * hexI h.toNat + hexI l.toNat), 3) else (0, 0) := by
          rcases esc_cases c (h :: l :: r) with h | h | h | h | h | h
          all_goals first | (exfalso; omega) | exact h.2
        have d0 : dAt ⟨⟨[h, l]⟩⟩ 0 = digI (h.toNat : Int) := rfl
        have d1 : dAt ⟨⟨[h, l]⟩⟩ 1 = digI (l.toNat : Int) := rfl
        have no : isHex h = false ∨ isHex l = false → EscRes ⟨⟨c :: h :: l :: r⟩⟩ 0 0 := by
          intro hno
          have : escF (c :: h :: l :: r) = (0, 0) := by
            rw [hE, if_neg]
            rintro ⟨h1, h2⟩
            rcases hno with h | h
            · rw [h1] at h; cases h
            · rw [h2] at h; cases h
          exact ⟨by rw [hb, this]; rfl, by rw [hb, this]; rfl⟩
        have cu : (3 : Int) ≤ ((r.length + 3 : Nat) : Int) := by omega
        refine ⟨⟨by omega, by omega, cu⟩, rfl, fun n hn => ?_, fun hp => ?_⟩
        · obtain ⟨hn, hd⟩ := hn
          have q0 := hd 0 (by omega)
          have q1 := hd 1 (by omega)
          rw [d0] at q0; rw [d1] at q1
          have hv : n = 16 * digI (h.toNat : Int) + digI (l.toNat : Int) := by
            rw [hn]; simp [pVal, d0, d1]
          have hlow : (lowS ⟨⟨[h, l]⟩⟩).data.toList = [Lib.lowerB h, Lib.lowerB l] := rfl
          refine ⟨⟨by omega, by omega, cu⟩, ⟨by show 2 ≤ _; omega, fun j b hj => ?_⟩, ⟨by omega, by omega, cu⟩, bsplit_iff.2 ⟨fun hne => no ?_, fun he => ?_⟩⟩
          · match j, hj with
            | 0, hj => simp at hj; subst hj; rcases hex_dig h with q | q | q <;> omega
            | 1, hj => simp at hj; subst hj; rcases hex_dig l with q | q | q <;> omega
            | j + 2, hj => simp at hj
          · rw [hlow] at hne
            rcases hex_dig h with q | q | q
            · rcases hex_dig l with q' | q' | q'
              · simp [q.2.1, q'.2.1] at hne
              · exact .inr q'.2.2.1
              · exact .inr q'.2
            · exact .inl q.2.2.1
            · exact .inl q.2
          · rw [hlow] at he
            have he : Lib.lowerB h = h ∧ Lib.lowerB l = l := by simpa using he
            rcases hex_dig h with q | q | q
            · rcases hex_dig l with q' | q' | q'
              · have hE2 : escF (c :: h :: l :: r) = (byteI (16 * hexI h.toNat + hexI l.toNat), 3) := by rw [hE, if_pos ⟨q.2.2.1, q'.2.2.1⟩]
                refine ⟨?_, by rw [hb, hE2]; rfl⟩
                rw [hb, hE2, q.2.2.2.1, q'.2.2.2.1, ← hv, u8e]
                exact (byteI_nat n).symm
              · exact absurd he.2 q'.2.1
              · omega
            · exact absurd he.1 q.2.1
            · omega
        · obtain ⟨m, hm, hd⟩ := hp
          match m, hm with
          | 0, _ =>
            rw [d0] at hd
            rcases hex_dig h with q | q | q
            · omega
            · omega
            · exact no (.inl q.2)
          | 1, _ =>
            rw [d1] at hd
            rcases hex_dig l with q | q | q
            · omega
            · omega
            · exact no (.inr q.2)

theorem esc_run (herr : ErrVar) (s : ByteArray) : CallDoes Tryd.prog 20 [.string s] [] (escLeaf s) := by
  refine of_run (ctxG_ok (cs := [(24, pubT)]) (bs := []) (.cons toLower_ok .nil) (.cons (pub_ok herr) .nil)) (n := 200) Tryd.func20 rfl .g ?_
  refine by_nf (B := ((0 : Int) ≤ (0 : Int) ∧
    (0 : Int) + (1 : Int) ≤ (↑(4 : Nat) : Int)) ∧
    bsplit (decide ((↑s.size : Int) > (0 : Int))) (((0 : Int) ≤ (0 : Int) ∧
    (0 : Int) + (1 : Int) ≤ (↑s.size : Int)) ∧
    bsplit ((↑(strAt s (Int.toNat (0 : Int))) : Int) == (34 : Int)) (EscRes s (34 : Int) (1 : Int)) (((0 : Int) ≤ IntKind.i64.wrap ((0 : Int) + (1 : Int)) ∧
    IntKind.i64.wrap ((0 : Int) + (1 : Int)) + (1 : Int) ≤ (↑(4 : Nat) : Int)) ∧
    bsplit (decide ((↑s.size : Int) > (0 : Int))) (((0 : Int) ≤ (0 : Int) ∧
    (0 : Int) + (1 : Int) ≤ (↑s.size : Int)) ∧
    bsplit ((↑(strAt s (Int.toNat (0 : Int))) : Int) == (92 : Int)) (EscRes s (92 : Int) (1 : Int)) (((0 : Int) ≤ IntKind.i64.wrap (IntKind.i64.wrap ((0 : Int) + (1 : Int)) + (1 : Int)) ∧
    IntKind.i64.wrap (IntKind.i64.wrap ((0 : Int) + (1 : Int)) + (1 : Int)) + (1 : Int) ≤ (↑(4 : Nat) : Int)) ∧
    bsplit (decide ((↑s.size : Int) > (0 : Int))) (((0 : Int) ≤ (0 : Int) ∧
    (0 : Int) + (1 : Int) ≤ (↑s.size : Int)) ∧
    bsplit ((↑(strAt s (Int.toNat (0 : Int))) : Int) == (110 : Int)) (EscRes s (10 : Int) (1 : Int)) (((0 : Int) ≤ IntKind.i64.wrap (IntKind.i64.wrap (IntKind.i64.wrap ((0 : Int) + (1 : Int)) + (1 : Int)) + (1 : Int)) ∧
    IntKind.i64.wrap (IntKind.i64.wrap (IntKind.i64.wrap ((0 : Int) + (1 : Int)) + (1 : Int)) + (1 : Int)) + (1 : Int) ≤ (↑(4 : Nat) : Int)) ∧
    bsplit (decide ((↑s.size : Int) > (0 : Int))) (((0 : Int) ≤ (0 : Int) ∧
    (0 : Int) + (1 : Int) ≤ (↑s.size : Int)) ∧
    bsplit ((↑(strAt s (Int.toNat (0 : Int))) : Int) == (116 : Int)) (EscRes s (9 : Int) (1 : Int))
    (bsplit (decide ((↑s.size : Int) < (3 : Int))) (EscRes s (0 : Int) (0 : Int)) (((0 : Int) ≤ (0 : Int) ∧
    (0 : Int) + (1 : Int) ≤ (↑s.size : Int)) ∧
    bsplit ((↑(strAt s (Int.toNat (0 : Int))) : Int) != (120 : Int)) (EscRes s (0 : Int) (0 : Int)) (((0 : Int) ≤ (1 : Int) ∧
    (1 : Int) ≤ (3 : Int) ∧
    (3 : Int) ≤ (↑s.size : Int)) ∧
    (s.extract (Int.toNat (1 : Int)) (Int.toNat (3 : Int))).size = (2 : Nat) ∧
    (∀ (n : Int), PR (s.extract (Int.toNat (1 : Int)) (Int.toNat (3 : Int))) n → ((0 : Int) ≤ (1 : Int) ∧
    (1 : Int) ≤ (3 : Int) ∧
    (3 : Int) ≤ (↑s.size : Int)) ∧
    LowPre (s.extract (Int.toNat (1 : Int)) (Int.toNat (3 : Int))) ∧
    ((0 : Int) ≤ (1 : Int) ∧
    (1 : Int) ≤ (3 : Int) ∧
    (3 : Int) ≤ (↑s.size : Int)) ∧
    bsplit (!(lowS (s.extract (Int.toNat (1 : Int)) (Int.toNat (3 : Int)))).data.toList == (s.extract (Int.toNat (1 : Int)) (Int.toNat (3 : Int))).data.toList) (EscRes s (0 : Int) (0 : Int)) (EscRes s (IntKind.u8.wrap n) (3 : Int))) ∧
    (PE (s.extract (Int.toNat (1 : Int)) (Int.toNat (3 : Int))) → EscRes s (0 : Int) (0 : Int))))))
    (bsplit (decide ((↑s.size : Int) < (3 : Int))) (EscRes s (0 : Int) (0 : Int)) (((0 : Int) ≤ (0 : Int) ∧
    (0 : Int) + (1 : Int) ≤ (↑s.size : Int)) ∧
    bsplit ((↑(strAt s (Int.toNat (0 : Int))) : Int) != (120 : Int)) (EscRes s (0 : Int) (0 : Int)) (((0 : Int) ≤ (1 : Int) ∧
    (1 : Int) ≤ (3 : Int) ∧
    (3 : Int) ≤ (↑s.size : Int)) ∧
    (s.extract (Int.toNat (1 : Int)) (Int.toNat (3 : Int))).size = (2 : Nat) ∧
    (∀ (n : Int), PR (s.extract (Int.toNat (1 : Int)) (Int.toNat (3 : Int))) n → ((0 : Int) ≤ (1 : Int) ∧
    (1 : Int) ≤ (3 : Int) ∧
    (3 : Int) ≤ (↑s.size : Int)) ∧
    LowPre (s.extract (Int.toNat (1 : Int)) (Int.toNat (3 : Int))) ∧
    ((0 : Int) ≤ (1 : Int) ∧
    (1 : Int) ≤ (3 : Int) ∧
    (3 : Int) ≤ (↑s.size : Int)) ∧
    bsplit (!(lowS (s.extract (Int.toNat (1 : Int)) (Int.toNat (3 : Int)))).data.toList == (s.extract (Int.toNat (1 : Int)) (Int.toNat (3 : Int))).data.toList) (EscRes s (0 : Int) (0 : Int)) (EscRes s (IntKind.u8.wrap n) (3 : Int))) ∧
    (PE (s.extract (Int.toNat (1 : Int)) (Int.toNat (3 : Int))) → EscRes s (0 : Int) (0 : Int))))))) (((0 : Int) ≤ IntKind.i64.wrap (IntKind.i64.wrap (IntKind.i64.wrap ((0 : Int) + (1 : Int)) + (1 : Int)) + (1 : Int)) ∧
    IntKind.i64.wrap (IntKind.i64.wrap (IntKind.i64.wrap ((0 : Int) + (1 : Int)) + (1 : Int)) + (1 : Int)) + (1 : Int) ≤ (↑(4 : Nat) : Int)) ∧
    bsplit (decide ((↑s.size : Int) > (0 : Int))) (((0 : Int) ≤ (0 : Int) ∧
    (0 : Int) + (1 : Int) ≤ (↑s.size : Int)) ∧
    bsplit ((↑(strAt s (Int.toNat (0 : Int))) : Int) == (116 : Int)) (EscRes s (9 : Int) (1 : Int))
    (bsplit (decide ((↑s.size : Int) < (3 : Int))) (EscRes s (0 : Int) (0 : Int)) (((0 : Int) ≤ (0 : Int) ∧
    (0 : Int) + (1 : Int) ≤ (↑s.size : Int)) ∧
    bsplit ((↑(strAt s (Int.toNat (0 : Int))) : Int) != (120 : Int)) (EscRes s (0 : Int) (0 : Int)) (((0 : Int) ≤ (1 : Int) ∧
    (1 : Int) ≤ (3 : Int) ∧
    (3 : Int) ≤ (↑s.size : Int)) ∧
    (s.extract (Int.toNat (1 : Int)) (Int.toNat (3 : Int))).size = (2 : Nat) ∧
    (∀ (n : Int), PR (s.extract (Int.toNat (1 : Int)) (Int.toNat (3 : Int))) n → ((0 : Int) ≤ (1 : Int) ∧
    (1 : Int) ≤ (3 : Int) ∧
    (3 : Int) ≤ (↑s.size : Int)) ∧
    LowPre (s.extract (Int.toNat (1 : Int)) (Int.toNat (3 : Int))) ∧
    ((0 : Int) ≤ (1 : Int) ∧
    (1 : Int) ≤ (3 : Int) ∧
    (3 : Int) ≤ (↑s.size : Int)) ∧
    bsplit (!(lowS (s.extract (Int.toNat (1 : Int)) (Int.toNat (3 : Int)))).data.toList == (s.extract (Int.toNat (1 : Int)) (Int.toNat (3 : Int))).data.toList) (EscRes s (0 : Int) (0 : Int)) (EscRes s (IntKind.u8.wrap n) (3 : Int))) ∧
    (PE (s.extract (Int.toNat (1 : Int)) (Int.toNat (3 : Int))) → EscRes s (0 : Int) (0 : Int))))))
    (bsplit (decide ((↑s.size : Int) < (3 : Int))) (EscRes s (0 : Int) (0 : Int)) (((0 : Int) ≤ (0 : Int) ∧
    (0 : Int) + (1 : Int) ≤ (↑s.size : Int)) ∧
    bsplit ((↑(strAt s (Int.toNat (0 : Int))) : Int) != (120 : Int)) (EscRes s (0 : Int) (0 : Int)) (((0 : Int) ≤ (1 : Int) ∧
    (1 : Int) ≤ (3 : Int) ∧
    (3 : Int) ≤ (↑s.size : Int)) ∧
    (s.extract (Int.toNat (1 : Int)) (Int.toNat (3 : Int))).size = (2 : Nat) ∧
    (∀ (n : Int), PR (s.extract (Int.toNat (1 : Int)) (Int.toNat (3 : Int))) n → ((0 : Int) ≤ (1 : Int) ∧
    (1 : Int) ≤ (3 : Int) ∧
    (3 : Int) ≤ (↑s.size : Int)) ∧
    LowPre (s.extract (Int.toNat (1 : Int)) (Int.toNat (3 : Int))) ∧
    ((0 : Int) ≤ (1 : Int) ∧
    (1 : Int) ≤ (3 : Int) ∧
    (3 : Int) ≤ (↑s.size : Int)) ∧
    bsplit (!(lowS (s.extract (Int.toNat (1 : Int)) (Int.toNat (3 : Int)))).data.toList == (s.extract (Int.toNat (1 : Int)) (Int.toNat (3 : Int))).data.toList) (EscRes s (0 : Int) (0 : Int)) (EscRes s (IntKind.u8.wrap n) (3 : Int))) ∧
    (PE (s.extract (Int.toNat (1 : Int)) (Int.toNat (3 : Int))) → EscRes s (0 : Int) (0 : Int)))))))) (((0 : Int) ≤ IntKind.i64.wrap (IntKind.i64.wrap ((0 : Int) + (1 : Int)) + (1 : Int)) ∧
    IntKind.i64.wrap (IntKind.i64.wrap ((0 : Int) + (1 : Int)) + (1 : Int)) + (1 : Int) ≤ (↑(4 : Nat) : Int)) ∧
    bsplit (decide ((↑s.size : Int) > (0 : Int))) (((0 : Int) ≤ (0 : Int) ∧
    (0 : Int) + (1 : Int) ≤ (↑s.size : Int)) ∧
    bsplit ((↑(strAt s (Int.toNat (0 : Int))) : Int) == (110 : Int)) (EscRes s (10 : Int) (1 : Int)) (((0 : Int) ≤ IntKind.i64.wrap (IntKind.i64.wrap (IntKind.i64.wrap ((0 : Int) + (1 : Int)) + (1 : Int)) + (1 : Int)) ∧
    IntKind.i64.wrap (IntKind.i64.wrap (IntKind.i64.wrap ((0 : Int) + (1 : Int)) + (1 : Int)) + (1 : Int)) + (1 : Int) ≤ (↑(4 : Nat) : Int)) ∧
    bsplit (decide ((↑s.size : Int) > (0 : Int))) (((0 : Int) ≤ (0 : Int) ∧
    (0 : Int) + (1 : Int) ≤ (↑s.size : Int)) ∧
    bsplit ((↑(strAt s (Int.toNat (0 : Int))) : Int) == (116 : Int)) (EscRes s (9 : Int) (1 : Int))
    (bsplit (decide ((↑s.size : Int) < (3 : Int))) (EscRes s (0 : Int) (0 : Int)) (((0 : Int) ≤ (0 : Int) ∧
    (0 : Int) + (1 : Int) ≤ (↑s.size : Int)) ∧
    bsplit ((↑(strAt s (Int.toNat (0 : Int))) : Int) != (120 : Int)) (EscRes s (0 : Int) (0 : Int)) (((0 : Int) ≤ (1 : Int) ∧
    (1 : Int) ≤ (3 : Int) ∧
    (3 : Int) ≤ (↑s.size : Int)) ∧
    (s.extract (Int.toNat (1 : Int)) (Int.toNat (3 : Int))).size = (2 : Nat) ∧
    (∀ (n : Int), PR (s.extract (Int.toNat (1 : Int)) (Int.toNat (3 : Int))) n → ((0 : Int) ≤ (1 : Int) ∧
    (1 : Int) ≤ (3 : Int) ∧
    (3 : Int) ≤ (↑s.size : Int)) ∧
    LowPre (s.extract (Int.toNat (1 : Int)) (Int.toNat (3 : Int))) ∧
    ((0 : Int) ≤ (1 : Int) ∧
    (1 : Int) ≤ (3 : Int) ∧
    (3 : Int) ≤ (↑s.size : Int)) ∧
    bsplit (!(lowS (s.extract (Int.toNat (1 : Int)) (Int.toNat (3 : Int)))).data.toList == (s.extract (Int.toNat (1 : Int)) (Int.toNat (3 : Int))).data.toList) (EscRes s (0 : Int) (0 : Int)) (EscRes s (IntKind.u8.wrap n) (3 : Int))) ∧
    (PE (s.extract (Int.toNat (1 : Int)) (Int.toNat (3 : Int))) → EscRes s (0 : Int) (0 : Int))))))
    (bsplit (decide ((↑s.size : Int) < (3 : Int))) (EscRes s (0 : Int) (0 : Int)) (((0 : Int) ≤ (0 : Int) ∧
    (0 : Int) + (1 : Int) ≤ (↑s.size : Int)) ∧
    bsplit ((↑(strAt s (Int.toNat (0 : Int))) : Int) != (120 : Int)) (EscRes s (0 : Int) (0 : Int)) (((0 : Int) ≤ (1 : Int) ∧
    (1 : Int) ≤ (3 : Int) ∧
    (3 : Int) ≤ (↑s.size : Int)) ∧
    (s.extract (Int.toNat (1 : Int)) (Int.toNat (3 : Int))).size = (2 : Nat) ∧
    (∀ (n : Int), PR (s.extract (Int.toNat (1 : Int)) (Int.toNat (3 : Int))) n → ((0 : Int) ≤ (1 : Int) ∧
    (1 : Int) ≤ (3 : Int) ∧
    (3 : Int) ≤ (↑s.size : Int)) ∧
    LowPre (s.extract (Int.toNat (1 : Int)) (Int.toNat (3 : Int))) ∧
    ((0 : Int) ≤ (1 : Int) ∧
    (1 : Int) ≤ (3 : Int) ∧
    (3 : Int) ≤ (↑s.size : Int)) ∧
    bsplit (!(lowS (s.extract (Int.toNat (1 : Int)) (Int.toNat (3 : Int)))).data.toList == (s.extract (Int.toNat (1 : Int)) (Int.toNat (3 : Int))).data.toList) (EscRes s (0 : Int) (0 : Int)) (EscRes s (IntKind.u8.wrap n) (3 : Int))) ∧
    (PE (s.extract (Int.toNat (1 : Int)) (Int.toNat (3 : Int))) → EscRes s (0 : Int) (0 : Int))))))) (((0 : Int) ≤ IntKind.i64.wrap (IntKind.i64.wrap (IntKind.i64.wrap ((0 : Int) + (1 : Int)) + (1 : Int)) + (1 : Int)) ∧
    IntKind.i64.wrap (IntKind.i64.wrap (IntKind.i64.wrap ((0 : Int) + (1 : Int)) + (1 : Int)) + (1 : Int)) + (1 : Int) ≤ (↑(4 : Nat) : Int)) ∧
    bsplit (decide ((↑s.size : Int) > (0 : Int))) (((0 : Int) ≤ (0 : Int) ∧
    (0 : Int) + (1 : Int) ≤ (↑s.size : Int)) ∧
    bsplit ((↑(strAt s (Int.toNat (0 : Int))) : Int) == (116 : Int)) (EscRes s (9 : Int) (1 : Int))
    (bsplit (decide ((↑s.size : Int) < (3 : Int))) (EscRes s (0 : Int) (0 : Int)) (((0 : Int) ≤ (0 : Int) ∧
    (0 : Int) + (1 : Int) ≤ (↑s.size : Int)) ∧
    bsplit ((↑(strAt s (Int.toNat (0 : Int))) : Int) != (120 : Int)) (EscRes s (0 : Int) (0 : Int)) (((0 : Int) ≤ (1 : Int) ∧
    (1 : Int) ≤ (3 : Int) ∧
    (3 : Int) ≤ (↑s.size : Int)) ∧
    (s.extract (Int.toNat (1 : Int)) (Int.toNat (3 : Int))).size = (2 : Nat) ∧
    (∀ (n : Int), PR (s.extract (Int.toNat (1 : Int)) (Int.toNat (3 : Int))) n → ((0 : Int) ≤ (1 : Int) ∧
    (1 : Int) ≤ (3 : Int) ∧
    (3 : Int) ≤ (↑s.size : Int)) ∧
    LowPre (s.extract (Int.toNat (1 : Int)) (Int.toNat (3 : Int))) ∧
    ((0 : Int) ≤ (1 : Int) ∧
    (1 : Int) ≤ (3 : Int) ∧
    (3 : Int) ≤ (↑s.size : Int)) ∧
    bsplit (!(lowS (s.extract (Int.toNat (1 : Int)) (Int.toNat (3 : Int)))).data.toList == (s.extract (Int.toNat (1 : Int)) (Int.toNat (3 : Int))).data.toList) (EscRes s (0 : Int) (0 : Int)) (EscRes s (IntKind.u8.wrap n) (3 : Int))) ∧
    (PE (s.extract (Int.toNat (1 : Int)) (Int.toNat (3 : Int))) → EscRes s (0 : Int) (0 : Int))))))
    (bsplit (decide ((↑s.size : Int) < (3 : Int))) (EscRes s (0 : Int) (0 : Int)) (((0 : Int) ≤ (0 : Int) ∧
    (0 : Int) + (1 : Int) ≤ (↑s.size : Int)) ∧
    bsplit ((↑(strAt s (Int.toNat (0 : Int))) : Int) != (120 : Int)) (EscRes s (0 : Int) (0 : Int)) (((0 : Int) ≤ (1 : Int) ∧
    (1 : Int) ≤ (3 : Int) ∧
    (3 : Int) ≤ (↑s.size : Int)) ∧
    (s.extract (Int.toNat (1 : Int)) (Int.toNat (3 : Int))).size = (2 : Nat) ∧
    (∀ (n : Int), PR (s.extract (Int.toNat (1 : Int)) (Int.toNat (3 : Int))) n → ((0 : Int) ≤ (1 : Int) ∧
    (1 : Int) ≤ (3 : Int) ∧
    (3 : Int) ≤ (↑s.size : Int)) ∧
    LowPre (s.extract (Int.toNat (1 : Int)) (Int.toNat (3 : Int))) ∧
    ((0 : Int) ≤ (1 : Int) ∧
    (1 : Int) ≤ (3 : Int) ∧
    (3 : Int) ≤ (↑s.size : Int)) ∧
    bsplit (!(lowS (s.extract (Int.toNat (1 : Int)) (Int.toNat (3 : Int)))).data.toList == (s.extract (Int.toNat (1 : Int)) (Int.toNat (3 : Int))).data.toList) (EscRes s (0 : Int) (0 : Int)) (EscRes s (IntKind.u8.wrap n) (3 : Int))) ∧
    (PE (s.extract (Int.toNat (1 : Int)) (Int.toNat (3 : Int))) → EscRes s (0 : Int) (0 : Int))))))))) (((0 : Int) ≤ IntKind.i64.wrap ((0 : Int) + (1 : Int)) ∧
    IntKind.i64.wrap ((0 : Int) + (1 : Int)) + (1 : Int) ≤ (↑(4 : Nat) : Int)) ∧
    bsplit (decide ((↑s.size : Int) > (0 : Int))) (((0 : Int) ≤ (0 : Int) ∧
    (0 : Int) + (1 : Int) ≤ (↑s.size : Int)) ∧
    bsplit ((↑(strAt s (Int.toNat (0 : Int))) : Int) == (92 : Int)) (EscRes s (92 : Int) (1 : Int)) (((0 : Int) ≤ IntKind.i64.wrap (IntKind.i64.wrap ((0 : Int) + (1 : Int)) + (1 : Int)) ∧
    IntKind.i64.wrap (IntKind.i64.wrap ((0 : Int) + (1 : Int)) + (1 : Int)) + (1 : Int) ≤ (↑(4 : Nat) : Int)) ∧
    bsplit (decide ((↑s.size : Int) > (0 : Int))) (((0 : Int) ≤ (0 : Int) ∧
    (0 : Int) + (1 : Int) ≤ (↑s.size : Int)) ∧
    bsplit ((↑(strAt s (Int.toNat (0 : Int))) : Int) == (110 : Int)) (EscRes s (10 : Int) (1 : Int)) (((0 : Int) ≤ IntKind.i64.wrap (IntKind.i64.wrap (IntKind.i64.wrap ((0 : Int) + (1 : Int)) + (1 : Int)) + (1 : Int)) ∧
    IntKind.i64.wrap (IntKind.i64.wrap (IntKind.i64.wrap ((0 : Int) + (1 : Int)) + (1 : Int)) + (1 : Int)) + (1 : Int) ≤ (↑(4 : Nat) : Int)) ∧
    bsplit (decide ((↑s.size : Int) > (0 : Int))) (((0 : Int) ≤ (0 : Int) ∧
    (0 : Int) + (1 : Int) ≤ (↑s.size : Int)) ∧
    bsplit ((↑(strAt s (Int.toNat (0 : Int))) : Int) == (116 : Int)) (EscRes s (9 : Int) (1 : Int))
    (bsplit (decide ((↑s.size : Int) < (3 : Int))) (EscRes s (0 : Int) (0 : Int)) (((0 : Int) ≤ (0 : Int) ∧
    (0 : Int) + (1 : Int) ≤ (↑s.size : Int)) ∧
    bsplit ((↑(strAt s (Int.toNat (0 : Int))) : Int) != (120 : Int)) (EscRes s (0 : Int) (0 : Int)) (((0 : Int) ≤ (1 : Int) ∧
    (1 : Int) ≤ (3 : Int) ∧
    (3 : Int) ≤ (↑s.size : Int)) ∧
    (s.extract (Int.toNat (1 : Int)) (Int.toNat (3 : Int))).size = (2 : Nat) ∧
    (∀ (n : Int), PR (s.extract (Int.toNat (1 : Int)) (Int.toNat (3 : Int))) n → ((0 : Int) ≤ (1 : Int) ∧
    (1 : Int) ≤ (3 : Int) ∧
    (3 : Int) ≤ (↑s.size : Int)) ∧
    LowPre (s.extract (Int.toNat (1 : Int)) (Int.toNat (3 : Int))) ∧
    ((0 : Int) ≤ (1 : Int) ∧
    (1 : Int) ≤ (3 : Int) ∧
    (3 : Int) ≤ (↑s.size : Int)) ∧
    bsplit (!(lowS (s.extract (Int.toNat (1 : Int)) (Int.toNat (3 : Int)))).data.toList == (s.extract (Int.toNat (1 : Int)) (Int.toNat (3 : Int))).data.toList) (EscRes s (0 : Int) (0 : Int)) (EscRes s (IntKind.u8.wrap n) (3 : Int))) ∧
    (PE (s.extract (Int.toNat (1 : Int)) (Int.toNat (3 : Int))) → EscRes s (0 : Int) (0 : Int))))))
    (bsplit (decide ((↑s.size : Int) < (3 : Int))) (EscRes s (0 : Int) (0 : Int)) (((0 : Int) ≤ (0 : Int) ∧
    (0 : Int) + (1 : Int) ≤ (↑s.size : Int)) ∧
    bsplit ((↑(strAt s (Int.toNat (0 : Int))) : Int) != (120 : Int)) (EscRes s (0 : Int) (0 : Int)) (((0 : Int) ≤ (1 : Int) ∧
    (1 : Int) ≤ (3 : Int) ∧
    (3 : Int) ≤ (↑s.size : Int)) ∧
    (s.extract (Int.toNat (1 : Int)) (Int.toNat (3 : Int))).size = (2 : Nat) ∧
    (∀ (n : Int), PR (s.extract (Int.toNat (1 : Int)) (Int.toNat (3 : Int))) n → ((0 : Int) ≤ (1 : Int) ∧
    (1 : Int) ≤ (3 : Int) ∧
    (3 : Int) ≤ (↑s.size : Int)) ∧
    LowPre (s.extract (Int.toNat (1 : Int)) (Int.toNat (3 : Int))) ∧
    ((0 : Int) ≤ (1 : Int) ∧
    (1 : Int) ≤ (3 : Int) ∧
    (3 : Int) ≤ (↑s.size : Int)) ∧
    bsplit (!(lowS (s.extract (Int.toNat (1 : Int)) (Int.toNat (3 : Int)))).data.toList == (s.extract (Int.toNat (1 : Int)) (Int.toNat (3 : Int))).data.toList) (EscRes s (0 : Int) (0 : Int)) (EscRes s (IntKind.u8.wrap n) (3 : Int))) ∧
    (PE (s.extract (Int.toNat (1 : Int)) (Int.toNat (3 : Int))) → EscRes s (0 : Int) (0 : Int))))))) (((0 : Int) ≤ IntKind.i64.wrap (IntKind.i64.wrap (IntKind.i64.wrap ((0 : Int) + (1 : Int)) + (1 : Int)) + (1 : Int)) ∧
    IntKind.i64.wrap (IntKind.i64.wrap (IntKind.i64.wrap ((0 : Int) + (1 : Int)) + (1 : Int)) + (1 : Int)) + (1 : Int) ≤ (↑(4 : Nat) : Int)) ∧
    bsplit (decide ((↑s.size : Int) > (0 : Int))) (((0 : Int) ≤ (0 : Int) ∧
    (0 : Int) + (1 : Int) ≤ (↑s.size : Int)) ∧
    bsplit ((↑(strAt s (Int.toNat (0 : Int))) : Int) == (116 : Int)) (EscRes s (9 : Int) (1 : Int))
    (bsplit (decide ((↑s.size : Int) < (3 : Int))) (EscRes s (0 : Int) (0 : Int)) (((0 : Int) ≤ (0 : Int) ∧
    (0 : Int) + (1 : Int) ≤ (↑s.size : Int)) ∧
    bsplit ((↑(strAt s (Int.toNat (0 : Int))) : Int) != (120 : Int)) (EscRes s (0 : Int) (0 : Int)) (((0 : Int) ≤ (1 : Int) ∧
    (1 : Int) ≤ (3 : Int) ∧
    (3 : Int) ≤ (↑s.size : Int)) ∧
    (s.extract (Int.toNat (1 : Int)) (Int.toNat (3 : Int))).size = (2 : Nat) ∧
    (∀ (n : Int), PR (s.extract (Int.toNat (1 : Int)) (Int.toNat (3 : Int))) n → ((0 : Int) ≤ (1 : Int) ∧
    (1 : Int) ≤ (3 : Int) ∧
    (3 : Int) ≤ (↑s.size : Int)) ∧
    LowPre (s.extract (Int.toNat (1 : Int)) (Int.toNat (3 : Int))) ∧
    ((0 : Int) ≤ (1 : Int) ∧
    (1 : Int) ≤ (3 : Int) ∧
    (3 : Int) ≤ (↑s.size : Int)) ∧
    bsplit (!(lowS (s.extract (Int.toNat (1 : Int)) (Int.toNat (3 : Int)))).data.toList == (s.extract (Int.toNat (1 : Int)) (Int.toNat (3 : Int))).data.toList) (EscRes s (0 : Int) (0 : Int)) (EscRes s (IntKind.u8.wrap n) (3 : Int))) ∧
    (PE (s.extract (Int.toNat (1 : Int)) (Int.toNat (3 : Int))) → EscRes s (0 : Int) (0 : Int))))))
    (bsplit (decide ((↑s.size : Int) < (3 : Int))) (EscRes s (0 : Int) (0 : Int)) (((0 : Int) ≤ (0 : Int) ∧
    (0 : Int) + (1 : Int) ≤ (↑s.size : Int)) ∧
    bsplit ((↑(strAt s (Int.toNat (0 : Int))) : Int) != (120 : Int)) (EscRes s (0 : Int) (0 : Int)) (((0 : Int) ≤ (1 : Int) ∧
    (1 : Int) ≤ (3 : Int) ∧
    (3 : Int) ≤ (↑s.size : Int)) ∧
    (s.extract (Int.toNat (1 : Int)) (Int.toNat (3 : Int))).size = (2 : Nat) ∧
    (∀ (n : Int), PR (s.extract (Int.toNat (1 : Int)) (Int.toNat (3 : Int))) n → ((0 : Int) ≤ (1 : Int) ∧
    (1 : Int) ≤ (3 : Int) ∧
    (3 : Int) ≤ (↑s.size : Int)) ∧
    LowPre (s.extract (Int.toNat (1 : Int)) (Int.toNat (3 : Int))) ∧
    ((0 : Int) ≤ (1 : Int) ∧
    (1 : Int) ≤ (3 : Int) ∧
    (3 : Int) ≤ (↑s.size : Int)) ∧
    bsplit (!(lowS (s.extract (Int.toNat (1 : Int)) (Int.toNat (3 : Int)))).data.toList == (s.extract (Int.toNat (1 : Int)) (Int.toNat (3 : Int))).data.toList) (EscRes s (0 : Int) (0 : Int)) (EscRes s (IntKind.u8.wrap n) (3 : Int))) ∧
    (PE (s.extract (Int.toNat (1 : Int)) (Int.toNat (3 : Int))) → EscRes s (0 : Int) (0 : Int)))))))) (((0 : Int) ≤ IntKind.i64.wrap (IntKind.i64.wrap ((0 : Int) + (1 : Int)) + (1 : Int)) ∧
    IntKind.i64.wrap (IntKind.i64.wrap ((0 : Int) + (1 : Int)) + (1 : Int)) + (1 : Int) ≤ (↑(4 : Nat) : Int)) ∧
    bsplit (decide ((↑s.size : Int) > (0 : Int))) (((0 : Int) ≤ (0 : Int) ∧
    (0 : Int) + (1 : Int) ≤ (↑s.size : Int)) ∧
    bsplit ((↑(strAt s (Int.toNat (0 : Int))) : Int) == (110 : Int)) (EscRes s (10 : Int) (1 : Int)) (((0 : Int) ≤ IntKind.i64.wrap (IntKind.i64.wrap (IntKind.i64.wrap ((0 : Int) + (1 : Int)) + (1 : Int)) + (1 : Int)) ∧
    IntKind.i64.wrap (IntKind.i64.wrap (IntKind.i64.wrap ((0 : Int) + (1 : Int)) + (1 : Int)) + (1 : Int)) + (1 : Int) ≤ (↑(4 : Nat) : Int)) ∧
    bsplit (decide ((↑s.size : Int) > (0 : Int))) (((0 : Int) ≤ (0 : Int) ∧
    (0 : Int) + (1 : Int) ≤ (↑s.size : Int)) ∧
    bsplit ((↑(strAt s (Int.toNat (0 : Int))) : Int) == (116 : Int)) (EscRes s (9 : Int) (1 : Int))
    (bsplit (decide ((↑s.size : Int) < (3 : Int))) (EscRes s (0 : Int) (0 : Int)) (((0 : Int) ≤ (0 : Int) ∧
    (0 : Int) + (1 : Int) ≤ (↑s.size : Int)) ∧
    bsplit ((↑(strAt s (Int.toNat (0 : Int))) : Int) != (120 : Int)) (EscRes s (0 : Int) (0 : Int)) (((0 : Int) ≤ (1 : Int) ∧
    (1 : Int) ≤ (3 : Int) ∧
    (3 : Int) ≤ (↑s.size : Int)) ∧
    (s.extract (Int.toNat (1 : Int)) (Int.toNat (3 : Int))).size = (2 : Nat) ∧
    (∀ (n : Int), PR (s.extract (Int.toNat (1 : Int)) (Int.toNat (3 : Int))) n → ((0 : Int) ≤ (1 : Int) ∧
    (1 : Int) ≤ (3 : Int) ∧
    (3 : Int) ≤ (↑s.size : Int)) ∧
    LowPre (s.extract (Int.toNat (1 : Int)) (Int.toNat (3 : Int))) ∧
    ((0 : Int) ≤ (1 : Int) ∧
    (1 : Int) ≤ (3 : Int) ∧
    (3 : Int) ≤ (↑s.size : Int)) ∧
    bsplit (!(lowS (s.extract (Int.toNat (1 : Int)) (Int.toNat (3 : Int)))).data.toList == (s.extract (Int.toNat (1 : Int)) (Int.toNat (3 : Int))).data.toList) (EscRes s (0 : Int) (0 : Int)) (EscRes s (IntKind.u8.wrap n) (3 : Int))) ∧
    (PE (s.extract (Int.toNat (1 : Int)) (Int.toNat (3 : Int))) → EscRes s (0 : Int) (0 : Int))))))
    (bsplit (decide ((↑s.size : Int) < (3 : Int))) (EscRes s (0 : Int) (0 : Int)) (((0 : Int) ≤ (0 : Int) ∧
    (0 : Int) + (1 : Int) ≤ (↑s.size : Int)) ∧
    bsplit ((↑(strAt s (Int.toNat (0 : Int))) : Int) != (120 : Int)) (EscRes s (0 : Int) (0 : Int)) (((0 : Int) ≤ (1 : Int) ∧
    (1 : Int) ≤ (3 : Int) ∧
    (3 : Int) ≤ (↑s.size : Int)) ∧
    (s.extract (Int.toNat (1 : Int)) (Int.toNat (3 : Int))).size = (2 : Nat) ∧
    (∀ (n : Int), PR (s.extract (Int.toNat (1 : Int)) (Int.toNat (3 : Int))) n → ((0 : Int) ≤ (1 : Int) ∧
    (1 : Int) ≤ (3 : Int) ∧
    (3 : Int) ≤ (↑s.size : Int)) ∧
    LowPre (s.extract (Int.toNat (1 : Int)) (Int.toNat (3 : Int))) ∧
    ((0 : Int) ≤ (1 : Int) ∧
    (1 : Int) ≤ (3 : Int) ∧
    (3 : Int) ≤ (↑s.size : Int)) ∧
    bsplit (!(lowS (s.extract (Int.toNat (1 : Int)) (Int.toNat (3 : Int)))).data.toList == (s.extract (Int.toNat (1 : Int)) (Int.toNat (3 : Int))).data.toList) (EscRes s (0 : Int) (0 : Int)) (EscRes s (IntKind.u8.wrap n) (3 : Int))) ∧
    (PE (s.extract (Int.toNat (1 : Int)) (Int.toNat (3 : Int))) → EscRes s (0 : Int) (0 : Int))))))) (((0 : Int) ≤ IntKind.i64.wrap (IntKind.i64.wrap (IntKind.i64.wrap ((0 : Int) + (1 : Int)) + (1 : Int)) + (1 : Int)) ∧
    IntKind.i64.wrap (IntKind.i64.wrap (IntKind.i64.wrap ((0 : Int) + (1 : Int)) + (1 : Int)) + (1 : Int)) + (1 : Int) ≤ (↑(4 : Nat) : Int)) ∧
    bsplit (decide ((↑s.size : Int) > (0 : Int))) (((0 : Int) ≤ (0 : Int) ∧
    (0 : Int) + (1 : Int) ≤ (↑s.size : Int)) ∧
    bsplit ((↑(strAt s (Int.toNat (0 : Int))) : Int) == (116 : Int)) (EscRes s (9 : Int) (1 : Int))
    (bsplit (decide ((↑s.size : Int) < (3 : Int))) (EscRes s (0 : Int) (0 : Int)) (((0 : Int) ≤ (0 : Int) ∧
    (0 : Int) + (1 : Int) ≤ (↑s.size : Int)) ∧
    bsplit ((↑(strAt s (Int.toNat (0 : Int))) : Int) != (120 : Int)) (EscRes s (0 : Int) (0 : Int)) (((0 : Int) ≤ (1 : Int) ∧
    (1 : Int) ≤ (3 : Int) ∧
    (3 : Int) ≤ (↑s.size : Int)) ∧
    (s.extract (Int.toNat (1 : Int)) (Int.toNat (3 : Int))).size = (2 : Nat) ∧
    (∀ (n : Int), PR (s.extract (Int.toNat (1 : Int)) (Int.toNat (3 : Int))) n → ((0 : Int) ≤ (1 : Int) ∧
    (1 : Int) ≤ (3 : Int) ∧
    (3 : Int) ≤ (↑s.size : Int)) ∧
    LowPre (s.extract (Int.toNat (1 : Int)) (Int.toNat (3 : Int))) ∧
    ((0 : Int) ≤ (1 : Int) ∧
    (1 : Int) ≤ (3 : Int) ∧
    (3 : Int) ≤ (↑s.size : Int)) ∧
    bsplit (!(lowS (s.extract (Int.toNat (1 : Int)) (Int.toNat (3 : Int)))).data.toList == (s.extract (Int.toNat (1 : Int)) (Int.toNat (3 : Int))).data.toList) (EscRes s (0 : Int) (0 : Int)) (EscRes s (IntKind.u8.wrap n) (3 : Int))) ∧
    (PE (s.extract (Int.toNat (1 : Int)) (Int.toNat (3 : Int))) → EscRes s (0 : Int) (0 : Int))))))
    (bsplit (decide ((↑s.size : Int) < (3 : Int))) (EscRes s (0 : Int) (0 : Int)) (((0 : Int) ≤ (0 : Int) ∧
    (0 : Int) + (1 : Int) ≤ (↑s.size : Int)) ∧
    bsplit ((↑(strAt s (Int.toNat (0 : Int))) : Int) != (120 : Int)) (EscRes s (0 : Int) (0 : Int)) (((0 : Int) ≤ (1 : Int) ∧
    (1 : Int) ≤ (3 : Int) ∧
    (3 : Int) ≤ (↑s.size : Int)) ∧
    (s.extract (Int.toNat (1 : Int)) (Int.toNat (3 : Int))).size = (2 : Nat) ∧
    (∀ (n : Int), PR (s.extract (Int.toNat (1 : Int)) (Int.toNat (3 : Int))) n → ((0 : Int) ≤ (1 : Int) ∧
    (1 : Int) ≤ (3 : Int) ∧
    (3 : Int) ≤ (↑s.size : Int)) ∧
    LowPre (s.extract (Int.toNat (1 : Int)) (Int.toNat (3 : Int))) ∧
    ((0 : Int) ≤ (1 : Int) ∧
    (1 : Int) ≤ (3 : Int) ∧
    (3 : Int) ≤ (↑s.size : Int)) ∧
    bsplit (!(lowS (s.extract (Int.toNat (1 : Int)) (Int.toNat (3 : Int)))).data.toList == (s.extract (Int.toNat (1 : Int)) (Int.toNat (3 : Int))).data.toList) (EscRes s (0 : Int) (0 : Int)) (EscRes s (IntKind.u8.wrap n) (3 : Int))) ∧
    (PE (s.extract (Int.toNat (1 : Int)) (Int.toNat (3 : Int))) → EscRes s (0 : Int) (0 : Int))))))))) (by kernel_rfl) ?_
  by_cases h0 : 0 < s.size
  · have hd : decide ((s.size : Int) > 0) = true := by simp only [decide_eq_true_eq]; omega
    simp only [hd, bsplit_t]
    have hi : (0 : Int) ≤ 0 ∧ (0 : Int) + 1 ≤ (s.size : Int) := ⟨by omega, by omega⟩
    have hb : ∃ c r, bytesL s = c :: r ∧ strAt s 0 = c.toNat := by
      obtain ⟨⟨b⟩⟩ := s
      match b, h0 with
      | c :: r, _ => exact ⟨c, r, rfl, rfl⟩
    obtain ⟨c, r, hb, hc⟩ := hb
    have leaf : ∀ (b n : Nat) (e : UInt8 × Nat), escF (c :: r) = e → e.1.toNat = b → e.2 = n → EscRes s (b : Int) (n : Int) := fun b n e h1 h2 h3 => ⟨by rw [hb, h1, h2], by rw [hb, h1, h3]⟩
    have hs0 : ∀ k : Nat, ((((strAt s (Int.toNat (0 : Int)) : Nat) : Int)) == (k : Int)) = true ↔ c.toNat = k := fun k => by
      rw [show Int.toNat (0 : Int) = 0 from rfl, hc, beq_iff_eq]; omega
    have hs1 : ∀ k : Nat, ((((strAt s (Int.toNat (0 : Int)) : Nat) : Int)) == (k : Int)) = false → c.toNat ≠ k := fun k h h' => by
      rw [(hs0 k).2 h'] at h; cases h
    refine ⟨by decide, hi, bsplit_iff.2 ⟨fun e => ?_, fun n1 => ⟨by decide, hi, bsplit_iff.2 ⟨fun e => ?_, fun n2 => ⟨by decide, hi, bsplit_iff.2 ⟨fun e => ?_, fun n3 => ⟨by decide, hi, bsplit_iff.2 ⟨fun e => ?_, fun n4 => ?_⟩⟩⟩⟩⟩⟩⟩⟩
    · have e := (hs0 34).1 e
      rcases esc_cases c r with h | h | h | h | h | h
      all_goals first | (exfalso; omega) | exact leaf 34 1 _ h.2 rfl rfl
    · have e := (hs0 92).1 e
      rcases esc_cases c r with h | h | h | h | h | h
      all_goals first | (exfalso; omega) | exact leaf 92 1 _ h.2 rfl rfl
    · have e := (hs0 110).1 e
      rcases esc_cases c r with h | h | h | h | h | h
      all_goals first | (exfalso; omega) | exact leaf 10 1 _ h.2 rfl rfl
    · have e := (hs0 116).1 e
      rcases esc_cases c r with h | h | h | h | h | h
      all_goals first | (exfalso; omega) | exact leaf 9 1 _ h.2 rfl rfl
    · refine esc_tail s (.inr ?_)
      rw [hc]
      exact ⟨hs1 34 n1, hs1 92 n2, hs1 110 n3, hs1 116 n4⟩
  · have hd : decide ((s.size : Int) > 0) = false := by simp only [decide_eq_false_iff_not]; omega
    simp only [hd, bsplit_f]
    exact ⟨by decide, by decide, by decide, by decide, esc_tail s (.inl (by omega))⟩

theorem esc_ok (herr : ErrVar) : FnOK Tryd.prog 20 (g1 dStr escV) := by
  refine FnOK.g1 (callable Tryd.func20 rfl (by decide +kernel)) _ _ (fun s => rfl) fun s => ?_
  intro env w hW hsc
  refine (esc_run herr s env w hW hsc).mono ?_
  rintro e w' ⟨u, env', V', v, g1, g2, g3, g4, g5⟩
  refine ⟨u, env', V', v, g1, g2, g3, g4, ?_⟩
  unfold escLeaf at g5
  split at g5
  · obtain ⟨rfl, rfl⟩ := g5
    rfl
  · exact g5.elim

/-- the law's function, given what the package variable of the library's error holds -/
theorem law_ok (herr : ErrVar) (s : ByteArray) (hs : s.size ≤ 2147483648) : CallDoes Tryd.prog 3 [.string s] [] fun v _ => v = .bool true :=
  law_runs (esc_ok herr) s hs
end Go.Sh
