/- A part of what StoreFollows leans on: texts of this claim, one behind the other. No condition. -/
import Derived.Lib.IndexLaws
import Derived.Lib.ItoaNum
import Derived.Shelf.Strconv.Itoa3
import Derived.Test.YtainmipdnjcbkaaGreatDoorProg
import Derived.KernelRfl
import Derived.Test.YtainmipdnjcbkaaGreatDoorStoreFollowsK10
namespace Go.Proofs.YtainmipdnjcbkaaGreatDoor
set_option linter.unusedVariables false
set_option linter.unusedSimpArgs false
open Go Go.RowKit
set_option maxRecDepth 100000
def logN : List UInt8 := [108, 111, 103]
theorem logN_ok : okS logN := by unfold okS; decide
theorem write_files_wf {l : List AFile} {key s : List UInt8} (hk : okS key) (hw : ∀ f, f ∈ l → f.wf) : ∀ f, f ∈ (writeD l key s).1.files → f.wf := by
  intro f hf
  unfold writeD at hf
  split at hf
  · cases hf
  · split at hf
    · cases hf
    · split at hf
      · split at hf
        · cases hf
        · obtain ⟨g1, g2, g3, g4⟩ := file_wf hw (place (l.map AFile.name) key)
          rcases List.mem_or_eq_of_mem_set hf with h | h
          · exact hw f h
          · subst h
            exact ⟨g1, g3, by show okS _; unfold okS; rw [List.length_append]; omega⟩
      · split at hf
        · cases hf
        · split at hf
          · cases hf
          · rename_i h1
            have hf' : f ∈ l.insertIdx (place (l.map AFile.name) key) ⟨key, [], s⟩ := hf
            rw [List.mem_insertIdx place_le'] at hf'
            rcases hf' with h | h
            · subst h; exact ⟨hk, by show okS []; unfold okS; decide, by show okS s; unfold okS; omega⟩
            · exact hw f h
def appendD (l : List AFile) (t : ATxn) (safe : Bool) : ADisk × Int :=
  if goodT t ≠ 0 then (default, goodT t)
  else if (writeD l logN (encT t).1).2 ≠ 0 ∨ safe = false then writeD l logN (encT t).1 else changeD (writeD l logN (encT t).1).1.files logN syncF
theorem append_wf {l : List AFile} {t : ATxn} {safe : Bool} : (appendD l t safe).1.files.length * 48 ≤ 140737488351232 := by
  unfold appendD; split
  · exact (by decide : ([] : List AFile).length * 48 ≤ 140737488351232)
  · split
    · exact write_wf
    · exact change_wf write_wf
theorem encT_ok {t : ATxn} (h : goodT t = 0) : okS (encT t).1 ∧ (encT t).2 = 0 := by
  obtain ⟨s1, s2⟩ := goodT_small h
  unfold encT; rw [if_pos h]
  refine ⟨?_, rfl⟩
  unfold okS encB
  simp only [List.length_append, headB_len, beB_len]; omega
theorem encT_no {t : ATxn} (h : goodT t ≠ 0) : encT t = ([], goodT t) := by unfold encT; rw [if_neg h]
theorem append_c (d : ADisk) (t : ATxn) (safe : Bool) (h : d.files.length * 48 ≤ 140737488351232) (hw : ∀ f, f ∈ d.files → f.wf) (hp : okS t.path) (hd : okS t.data) : acall Tryz.prog [] 140 [d.av, t.av, B safe] (ret (.tup [(appendD d.files t safe).1.av, I (appendD d.files t safe).2])) := by
  by_cases hg : goodT t = 0
  case neg =>
    have he := encode_c t hp hd
    rw [encT_no hg] at he
    unfold appendD
    rw [if_pos hg]
    refine zI Tryz.func140 rfl (by kernel_rfl) (by simp [Tryz.ntmps140]) ?_; simp only [Tryz.ntmps140, Tryz.results140, go_sem]
    (repeat' first
  | (with_reducible refine AR.f ?_)
  | refine zb (by decide) ?_
  | (with_reducible refine AWP.cond rfl ?_ ?_ <;> intro hc <;> (try simp only [hcs, beq_iff_eq, ge_iff_le, gt_iff_lt] at hc))
  | ((first | ((first | (with_reducible first | refine zR ?_ | refine zQ (by decide +kernel) ?_ | refine zD (by decide +kernel) ?_ | refine zE (by decide +kernel) ?_ | refine zG (by decide +kernel) ?_)); intro K hK) | ((first | refine zA he ?_ ?_ ?_ ?_ ?_); (focus exact rfl); (focus exact rfl); iterate 2 (focus ((try simp (disch := omega) only [go_sem, wn]) <;> (try omega) <;> fail))) | ((first | refine zX he rfl ?_ ?_); (focus ((try simp (disch := omega) only [go_sem, wn]) <;> (try omega) <;> fail))) | ((first | (with_reducible refine zu ?_ ?_ <;> intro hg) | with_reducible intro hg) <;> (first | (exfalso; simp at hg; done) | (have hg' := hg; (try simp only [hcs, beq_iff_eq, ge_iff_le, gt_iff_lt] at hg'); (try simp only [hg]))))) <;> (try simp (disch := omega) only [go_sem, wn]) <;> (repeat' with_reducible refine And.intro ?_ ?_) <;> (try (with_reducible refine hK _ ?_; clear hK K)))
  | omega)
    all_goals first | (exfalso; omega) | skip
    (refine zF rfl ?_ ?_ ?_ ?_; (iterate 3 (focus ((try simp (disch := omega) only [go_sem, wn, default]) <;> (try omega) <;> fail))); (try simp (disch := omega) only [go_sem, wn, default, I, B, S, zj]))
  obtain ⟨e1, e2⟩ := encT_ok hg
  have he := encode_c t hp hd
  rw [e2] at he
  unfold appendD
  rw [if_neg (fun h => h hg)]
  have hs := sync_c (writeD d.files logN (encT t).1).1 logN write_wf (write_files_wf logN_ok hw)
  refine zI Tryz.func140 rfl (by kernel_rfl) (by simp [Tryz.ntmps140]) ?_; simp only [Tryz.ntmps140, Tryz.results140, go_sem]
  (repeat' first
| (with_reducible refine AR.f ?_)
| refine zb (by decide) ?_
| (with_reducible refine AWP.cond rfl ?_ ?_ <;> intro hc <;> (try simp only [hcs, beq_iff_eq, ge_iff_le, gt_iff_lt] at hc))
| ((first | ((first | (with_reducible first | refine zR ?_ | refine zQ (by decide +kernel) ?_ | refine zD (by decide +kernel) ?_ | refine zE (by decide +kernel) ?_ | refine zG (by decide +kernel) ?_)); intro K hK) | ((first | refine zA he ?_ ?_ ?_ ?_ ?_ | refine zA (write_c d logN (encT t).1 e1 logN_ok h hw) ?_ ?_ ?_ ?_ ?_ | refine zA hs ?_ ?_ ?_ ?_ ?_); (focus exact rfl); (focus exact rfl); iterate 2 (focus ((try simp (disch := omega) only [go_sem, wn, logN]) <;> (try omega) <;> fail))) | ((first | refine zN (write_c d logN (encT t).1 e1 logN_ok h hw) rfl ?_ ?_ | refine zN hs rfl ?_ ?_ | refine zX he rfl ?_ ?_ | refine zX (write_c d logN (encT t).1 e1 logN_ok h hw) rfl ?_ ?_ | refine zY (write_c d logN (encT t).1 e1 logN_ok h hw) ?_ ?_ | refine zX hs rfl ?_ ?_ | refine zY hs ?_ ?_); (focus ((try simp (disch := omega) only [go_sem, wn, logN]) <;> (try omega) <;> fail))) | ((first | (with_reducible refine zu ?_ ?_ <;> intro hg) | with_reducible intro hg) <;> (first | (exfalso; simp at hg; done) | (have hg' := hg; (try simp only [hcs, beq_iff_eq, ge_iff_le, gt_iff_lt] at hg'); (try simp only [hg]))))) <;> (try simp (disch := omega) only [go_sem, wn, logN]) <;> (repeat' with_reducible refine And.intro ?_ ?_) <;> (try (with_reducible refine hK _ ?_; clear hK K)))
| omega)
  · have hc' : (writeD d.files logN (encT t).1).2 ≠ 0 ∨ safe = false := hc
    rw [if_pos hc']; (refine zF rfl ?_ ?_ ?_ ?_; (iterate 3 (focus ((try simp (disch := omega) only [go_sem, wn, logN]) <;> (try omega) <;> fail))); (try simp (disch := omega) only [go_sem, wn, logN, I, B, S, zj]))
  · have hc' : ¬ ((writeD d.files logN (encT t).1).2 ≠ 0 ∨ safe = false) := fun h => by rcases h with h | h; exact h hc.1; rw [hc.2] at h; cases h
    rw [if_neg hc']; (refine zF rfl ?_ ?_ ?_ ?_; (iterate 3 (focus ((try simp (disch := omega) only [go_sem, wn, logN]) <;> (try omega) <;> fail))); (try simp (disch := omega) only [go_sem, wn, logN, I, B, S, zj]))
theorem ref_append_c (d : ADisk) (t : ATxn) (safe : Bool) (h : d.files.length * 48 ≤ 140737488351232) (hw : ∀ f, f ∈ d.files → f.wf) (hz : okI t.zxid) (hp : t.path.length ≤ 1048576) (hd : okS t.data) : acall Tryz.prog [] 143 [d.av, t.av, B safe] (ret (.tup [(appendD d.files t safe).1.av, I (appendD d.files t safe).2])) := by
  by_cases hg : goodT t = 0
  case neg =>
    have he := ref_encode_c t hz hp hd
    rw [encT_no hg] at he
    unfold appendD
    rw [if_pos hg]
    refine zI Tryz.func143 rfl (by kernel_rfl) (by simp [Tryz.ntmps143]) ?_; simp only [Tryz.ntmps143, Tryz.results143, go_sem]
    (repeat' first
  | (with_reducible refine AR.f ?_)
  | refine zb (by decide) ?_
  | (with_reducible refine AWP.cond rfl ?_ ?_ <;> intro hc <;> (try simp only [hcs, beq_iff_eq, ge_iff_le, gt_iff_lt] at hc))
  | ((first | ((first | (with_reducible first | refine zR ?_ | refine zQ (by decide +kernel) ?_ | refine zD (by decide +kernel) ?_ | refine zE (by decide +kernel) ?_ | refine zG (by decide +kernel) ?_)); intro K hK) | ((first | refine zA he ?_ ?_ ?_ ?_ ?_); (focus exact rfl); (focus exact rfl); iterate 2 (focus ((try simp (disch := omega) only [go_sem, wn]) <;> (try omega) <;> fail))) | ((first | refine zX he rfl ?_ ?_); (focus ((try simp (disch := omega) only [go_sem, wn]) <;> (try omega) <;> fail))) | ((first | (with_reducible refine zu ?_ ?_ <;> intro hg) | with_reducible intro hg) <;> (first | (exfalso; simp at hg; done) | (have hg' := hg; (try simp only [hcs, beq_iff_eq, ge_iff_le, gt_iff_lt] at hg'); (try simp only [hg]))))) <;> (try simp (disch := omega) only [go_sem, wn]) <;> (repeat' with_reducible refine And.intro ?_ ?_) <;> (try (with_reducible refine hK _ ?_; clear hK K)))
  | omega)
    all_goals first | (exfalso; omega) | skip
    (refine zF rfl ?_ ?_ ?_ ?_; (iterate 3 (focus ((try simp (disch := omega) only [go_sem, wn, default]) <;> (try omega) <;> fail))); (try simp (disch := omega) only [go_sem, wn, default, I, B, S, zj]))
  obtain ⟨e1, e2⟩ := encT_ok hg
  have he := ref_encode_c t hz hp hd
  rw [e2] at he
  unfold appendD
  rw [if_neg (fun h => h hg)]
  have hs := ref_sync_c (writeD d.files logN (encT t).1).1 logN write_wf (write_files_wf logN_ok hw)
  refine zI Tryz.func143 rfl (by kernel_rfl) (by simp [Tryz.ntmps143]) ?_; simp only [Tryz.ntmps143, Tryz.results143, go_sem]
  (repeat' first
| (with_reducible refine AR.f ?_)
| refine zb (by decide) ?_
| (with_reducible refine AWP.cond rfl ?_ ?_ <;> intro hc <;> (try simp only [hcs, beq_iff_eq, ge_iff_le, gt_iff_lt] at hc))
| ((first | ((first | (with_reducible first | refine zR ?_ | refine zQ (by decide +kernel) ?_ | refine zD (by decide +kernel) ?_ | refine zE (by decide +kernel) ?_ | refine zG (by decide +kernel) ?_)); intro K hK) | ((first | refine zA he ?_ ?_ ?_ ?_ ?_ | refine zA (ref_write_c d logN (encT t).1 e1 logN_ok h hw) ?_ ?_ ?_ ?_ ?_ | refine zA hs ?_ ?_ ?_ ?_ ?_); (focus exact rfl); (focus exact rfl); iterate 2 (focus ((try simp (disch := omega) only [go_sem, wn, logN]) <;> (try omega) <;> fail))) | ((first | refine zN (ref_write_c d logN (encT t).1 e1 logN_ok h hw) rfl ?_ ?_ | refine zN hs rfl ?_ ?_ | refine zX he rfl ?_ ?_ | refine zX (ref_write_c d logN (encT t).1 e1 logN_ok h hw) rfl ?_ ?_ | refine zY (ref_write_c d logN (encT t).1 e1 logN_ok h hw) ?_ ?_ | refine zX hs rfl ?_ ?_ | refine zY hs ?_ ?_); (focus ((try simp (disch := omega) only [go_sem, wn, logN]) <;> (try omega) <;> fail))) | ((first | (with_reducible refine zu ?_ ?_ <;> intro hg) | with_reducible intro hg) <;> (first | (exfalso; simp at hg; done) | (have hg' := hg; (try simp only [hcs, beq_iff_eq, ge_iff_le, gt_iff_lt] at hg'); (try simp only [hg]))))) <;> (try simp (disch := omega) only [go_sem, wn, logN]) <;> (repeat' with_reducible refine And.intro ?_ ?_) <;> (try (with_reducible refine hK _ ?_; clear hK K)))
| omega)
  · have hc' : (writeD d.files logN (encT t).1).2 ≠ 0 ∨ safe = false := hc
    rw [if_pos hc']; (refine zF rfl ?_ ?_ ?_ ?_; (iterate 3 (focus ((try simp (disch := omega) only [go_sem, wn, logN]) <;> (try omega) <;> fail))); (try simp (disch := omega) only [go_sem, wn, logN, I, B, S, zj]))
  · have hc' : ¬ ((writeD d.files logN (encT t).1).2 ≠ 0 ∨ safe = false) := fun h => by rcases h with h | h; exact h hc.1; rw [hc.2] at h; cases h
    rw [if_neg hc']; (refine zF rfl ?_ ?_ ?_ ?_; (iterate 3 (focus ((try simp (disch := omega) only [go_sem, wn, logN]) <;> (try omega) <;> fail))); (try simp (disch := omega) only [go_sem, wn, logN, I, B, S, zj]))
end Go.Proofs.YtainmipdnjcbkaaGreatDoor
namespace Go.Proofs.YtainmipdnjcbkaaGreatDoor
set_option linter.unusedVariables false
set_option linter.unusedSimpArgs false
open Go Go.RowKit
set_option maxRecDepth 100000
theorem numN_fold (l : List UInt8) : ∀ a : Nat, l.foldl (fun v (x : UInt8) => v * 256 + x.toNat) a = a * 256 ^ l.length + numN l := by
  induction l with
  | nil => intro a; simp [numN]
  | cons x l ih =>
    intro a
    unfold numN
    rw [List.foldl_cons, List.foldl_cons, ih, ih, List.length_cons, Nat.pow_succ]
    have : (a * 256 + x.toNat) * 256 ^ l.length = a * (256 ^ l.length * 256) + x.toNat * 256 ^ l.length := by rw [Nat.add_mul, Nat.mul_assoc, Nat.mul_comm 256 (256 ^ l.length)]
    rw [this, Nat.zero_mul, Nat.zero_add, Nat.add_assoc]
theorem numN_cons (x : UInt8) (l : List UInt8) : numN (x :: l) = x.toNat * 256 ^ l.length + numN l := by
  unfold numN
  rw [List.foldl_cons, numN_fold, Nat.zero_mul, Nat.zero_add]; rfl
theorem numN_bound : ∀ l : List UInt8, numN l < 256 ^ l.length
  | [] => by simp [numN]
  | x :: l => by
    have h := numN_bound l
    have hx := x.toNat_lt
    rw [numN_cons, List.length_cons, Nat.pow_succ]
    have : x.toNat * 256 ^ l.length ≤ 255 * 256 ^ l.length := Nat.mul_le_mul_right _ (by omega)
    omega
theorem pow8 (n : Nat) : (2 : Int) ^ (8 * n) = ((256 ^ n : Nat) : Int) := by
  rw [Int.pow_mul]; simp
theorem beB_numN : ∀ (l : List UInt8) (k : Int), beB l.length ((numN l : Int) + (256 ^ l.length : Nat) * k) = l
  | [], _ => rfl
  | x :: l, k => by
    have hb := numN_bound l
    have hx := x.toNat_lt
    rw [List.length_cons, beB]
    have e : ((numN (x :: l) : Nat) : Int) + ((256 ^ (l.length + 1) : Nat) : Int) * k = (numN l : Int) + ((256 ^ l.length : Nat) : Int) * (x.toNat + 256 * k) := by
      rw [numN_cons, Nat.pow_succ, Int.natCast_add, Int.natCast_mul, Int.natCast_mul, Int.mul_add, Int.mul_comm (x.toNat : Int), Int.mul_assoc]
      generalize ((256 ^ l.length : Nat) : Int) * _ = a
      simp only [Int.cast_ofNat_Int] at *
      omega
    rw [e, beB_numN l _]
    congr 1
    unfold byteAt
    rw [pow8, Int.add_mul_ediv_left _ _ (by have : 0 < 256 ^ l.length := Nat.pow_pos (by decide)
                                            omega), Int.ediv_eq_zero_of_lt (by omega) (by omega), Int.zero_add]
    rw [show ((x.toNat : Int) + 256 * k) % 256 = x.toNat from by omega, Int.toNat_natCast, UInt8.ofNat_toNat]
theorem beB_N (l : List UInt8) (n : Nat) (h : l.length = n) : beB n (numN l : Nat) = l := by
  subst h
  have := beB_numN l 0
  rwa [Int.mul_zero, Int.add_zero] at this
theorem numW_N (l : List UInt8) : ∃ k : Int, numW l = (numN l : Int) + 18446744073709551616 * k := by
  generalize hn : l.length = n
  induction n generalizing l with
  | zero => rw [List.length_eq_zero_iff.1 hn]; exact ⟨0, rfl⟩
  | succ n ih =>
    have e : l = l.take (n + 1) := by rw [← hn, List.take_length]
    obtain ⟨k, hk⟩ := ih (l.take n) (by rw [List.length_take]; omega)
    have h1 := numW_snoc l n (by omega)
    have h2 := numN_snoc l n (by omega)
    rw [← e] at h1 h2
    rw [h1, h2, hk, wrap_i64e]
    refine ⟨(((numN (l.take n) : Int) + 18446744073709551616 * k) * 256 + (l.getD n 0).toNat - (numN (l.take n) * 256 + (l.getD n 0).toNat : Nat) - 18446744073709551616 * ((((numN (l.take n) : Int) + 18446744073709551616 * k) * 256 + (l.getD n 0).toNat + 9223372036854775808) / 18446744073709551616)) / 18446744073709551616, ?_⟩
    omega
theorem beB_W (l : List UInt8) (h : l.length = 8) : beB 8 (numW l) = l := by
  obtain ⟨k, hk⟩ := numW_N l
  have := beB_numN l k
  rw [h] at this
  rw [hk]; exact this
theorem byteAt_one (x : UInt8) : byteAt 0 (x.toNat : Int) = x := by
  have h := x.toNat_lt
  unfold byteAt
  simp only [Nat.mul_zero, Int.pow_zero, Int.ediv_one]
  rw [show ((x.toNat : Int)) % 256 = x.toNat from by omega, Int.toNat_natCast, UInt8.ofNat_toNat]
theorem body_back {b : List UInt8} (h : bodyOk b) : bodyB (bodyT b) = b := by
  unfold bodyOk at h
  have l1 : (b.take 8).length = 8 := by rw [List.length_take]; omega
  have l2 : ((b.drop 9).take 4).length = 4 := by rw [List.length_take, List.length_drop]; omega
  have l3 : ((b.drop 13).take 4).length = 4 := by rw [List.length_take, List.length_drop]; omega
  have l4 : ((b.drop 17).take 4).length = 4 := by rw [List.length_take, List.length_drop]; omega
  have l5 : ((b.drop 22).take (bP b)).length = bP b := by rw [List.length_take, List.length_drop]; omega
  have l6 : ((b.drop (22 + bP b)).take 2).length = 2 := by rw [List.length_take, List.length_drop]; omega
  have l7 : (b.drop (24 + bP b)).length = bD b := by rw [List.length_drop]; omega
  unfold bodyB b7 b6 b5 bodyT
  simp only [l5, l7]
  rw [beB_W _ l1, beB_N _ 4 l2, beB_N _ 4 l3, beB_N _ 4 l4, byteAt_one]
  rw [show ((bP b : Nat) : Int) = ((b.getD 21 0).toNat : Int) from rfl, byteAt_one]
  rw [show bD b = numN ((b.drop (22 + bP b)).take 2) from rfl, beB_N _ 2 l6]
  have one (k : Nat) (hk : k < b.length) : [b.getD k 0] = (b.drop k).take 1 := by
    rw [List.drop_eq_getElem_cons hk, List.getD_eq_getElem?_getD, List.getElem?_eq_getElem hk]; rfl
  rw [one 8 (by omega), one 21 (by omega)]
  have j (m n k : Nat) (hk : m + n = k) : b.take m ++ (b.drop m).take n = b.take k := by subst hk; exact List.take_add.symm
  rw [j 8 1 9 rfl, j 9 4 13 rfl, j 13 4 17 rfl, j 17 4 21 rfl, j 21 1 22 rfl, j 22 (bP b) (22 + bP b) rfl, j (22 + bP b) 2 (24 + bP b) (by omega), List.take_append_drop]
theorem decT_yes {s : List UInt8} (h : (decT s).2.2 = 0) : ¬ noHead s ∧ ¬ noRoom s ∧ ¬ noSum s ∧ bodyOk (sB s) ∧ goodT (bodyT (sB s)) = 0 := by
  by_cases h1 : noHead s
  · rw [decT_a h1] at h; cases h
  by_cases h2 : noRoom s
  · rw [decT_b h1 h2] at h; cases h
  by_cases h3 : noSum s
  · rw [decT_c h1 h2 h3] at h; cases h
  by_cases h4 : bodyOk (sB s)
  case neg => rw [decT_d h1 h2 h3 h4] at h; cases h
  by_cases h5 : goodT (bodyT (sB s)) = 0
  · exact ⟨h1, h2, h3, h4, h5⟩
  · rw [decT_e h1 h2 h3 h4 h5] at h; exact absurd h h5
theorem enc_back {s : List UInt8} (h : (decT s).2.2 = 0) : encT (decT s).1 = (s.take (sN s + 7), 0) := by
  obtain ⟨h1, h2, h3, h4, h5⟩ := decT_yes h
  rw [decT_f h1 h2 h3 h4 h5]
  unfold noHead at h1
  unfold noRoom at h2
  unfold noSum at h3
  have h3' : numN ((s.drop (sN s + 3)).take 4) = sumN (s.take (sN s + 3)) := Classical.byContradiction h3
  have h84 : s.getD 0 0 = 84 := Classical.byContradiction fun e => h1 (.inr e)
  have hl : ((bodyB (bodyT (sB s))).length : Int) = (sN s : Nat) := by
    rw [body_back h4]; unfold sB; rw [List.length_take, List.length_drop]; omega
  have l2 : ((s.drop 1).take 2).length = 2 := by rw [List.length_take, List.length_drop]; omega
  have l4 : ((s.drop (sN s + 3)).take 4).length = 4 := by rw [List.length_take, List.length_drop]; omega
  have one : [(84 : UInt8)] = s.take 1 := by
    rw [← h84, List.getD_eq_getElem?_getD, List.getElem?_eq_getElem (by omega)]
    rcases s with _ | ⟨x, s⟩
    · simp at h1
    · rfl
  have j (m n k : Nat) (hk : m + n = k) : s.take m ++ (s.drop m).take n = s.take k := by subst hk; exact List.take_add.symm
  have hh : headB (bodyT (sB s)) = s.take (sN s + 3) := by
    unfold headB
    rw [hl, body_back h4, one, show sN s = numN ((s.drop 1).take 2) from rfl, beB_N _ 2 l2, j 1 2 3 rfl]
    exact j 3 _ _ (by rw [Nat.add_comm]; rfl)
  unfold encT
  rw [if_pos h5]
  unfold encB
  rw [hh, ← h3', beB_N _ 4 l4, j (sN s + 3) 4 (sN s + 7) rfl]
def encs (l : List ATxn) : List UInt8 := (l.map fun t => (encT t).1).flatten
theorem encs_nil : encs [] = [] := rfl
theorem encs_snoc (l : List ATxn) (t : ATxn) : encs (l ++ [t]) = encs l ++ (encT t).1 := by unfold encs; simp
theorem encs_take (l : List ATxn) (k : Nat) (h : k < l.length) : encs (l.take (k + 1)) = encs (l.take k) ++ (encT (l.getD k default)).1 := by rw [take_snoc l k h, encs_snoc]
def logOk (l : List ATxn) : Prop := (∀ k, k + 1 < l.length → (l.getD k default).zxid < (l.getD (k + 1) default).zxid) ∧ ∀ t, t ∈ l → goodT t = 0
theorem logOk_nil : logOk [] := ⟨fun k h => by simp at h, fun t h => by cases h⟩
theorem logOk_snoc {l : List ATxn} {t : ATxn} (h : logOk l) (hz : 0 < l.length → lastZ l < t.zxid) (ht : goodT t = 0) : logOk (l ++ [t]) := by
  have g1 : ∀ j, j < l.length → (l ++ [t]).getD j default = l.getD j default := fun j hj => by
    rw [List.getD_eq_getElem?_getD, List.getElem?_append_left hj, List.getD_eq_getElem?_getD]
  have g2 : (l ++ [t]).getD l.length default = t := by simp [List.getD_eq_getElem?_getD]
  refine ⟨fun k hk => ?_, fun x hx => ?_⟩
  · rw [List.length_append, List.length_singleton] at hk
    rw [g1 k (by omega)]
    by_cases e : k + 1 = l.length
    · rw [e, g2]
      have := hz (by omega)
      rw [lastZ_pos (by omega), show l.length - 1 = k from by omega] at this
      exact this
    · rw [g1 _ (by omega)]; exact h.1 k (by omega)
  · rcases List.mem_append.1 hx with h1 | h1
    · exact h.2 x h1
    · rw [List.mem_singleton.1 h1]; exact ht
theorem logOk_lt {l : List ATxn} (h : logOk l) {i : Nat} : ∀ {j : Nat}, i < j → j < l.length → (l.getD i default).zxid < (l.getD j default).zxid
  | 0, h1, _ => by omega
  | j + 1, h1, h2 => by
    by_cases e : i = j
    · subst e; exact h.1 i h2
    · exact Int.lt_trans (logOk_lt h (by omega) (by omega)) (h.1 j h2)
theorem scanG_ok (s : List UInt8) : ∀ (f at_ : Nat) (l : List ATxn), logOk l → encs l = s.take at_ → at_ ≤ s.length → logOk (scanG s f at_ l).1 ∧ encs (scanG s f at_ l).1 = s.take (scanG s f at_ l).2 ∧ (scanG s f at_ l).2 ≤ s.length
  | 0, at_, l, h1, h2, h3 => ⟨h1, h2, h3⟩
  | f + 1, at_, l, h1, h2, h3 => by
    by_cases hc : (decT (s.drop at_)).2.2 ≠ 0 ∨ (0 < l.length ∧ (decT (s.drop at_)).1.zxid ≤ lastZ l)
    · rw [scanG_stop hc]; exact ⟨h1, h2, h3⟩
    · have hz : (decT (s.drop at_)).2.2 = 0 := Classical.byContradiction fun h => hc (.inl h)
      have hr : ¬ (0 < l.length ∧ (decT (s.drop at_)).1.zxid ≤ lastZ l) := fun h => hc (.inr h)
      rcases decT_cases (s.drop at_) with ⟨c, _⟩ | ⟨_, c2, c3, _, c5⟩
      · exact absurd hz c
      rw [scanG_next hz hr c2]
      rw [List.length_drop] at c3
      refine scanG_ok s f _ _ (logOk_snoc h1 (fun h0 => ?_) c5) ?_ (by omega)
      · exact Int.not_le.1 fun h => hr ⟨h0, h⟩
      · rw [encs_snoc, h2, enc_back hz]; exact List.take_add.symm
theorem scanT_ok (s : List UInt8) : logOk (scanT s).1 ∧ encs (scanT s).1 = s.take (scanT s).2 ∧ (scanT s).2 ≤ s.length := scanG_ok s _ 0 [] logOk_nil rfl (Nat.zero_le _)
def keepL (l : List ATxn) (z : Int) : List ATxn := l.filter fun t => decide (t.zxid ≤ z)
theorem keepL_take {l : List ATxn} {z : Int} {k : Nat} (hr : logOk l) (hk : k ≤ l.length) (h1 : ∀ j, j < k → (l.getD j default).zxid ≤ z) (h2 : k < l.length → z < (l.getD k default).zxid) : keepL l z = l.take k := by
  unfold keepL
  conv => lhs; rw [← List.take_append_drop k l]
  rw [List.filter_append]
  have e1 : (l.take k).filter (fun t => decide (t.zxid ≤ z)) = l.take k := by
    rw [List.filter_eq_self]
    intro t ht
    obtain ⟨j, hj, rfl⟩ := List.mem_take_iff_getElem.1 ht
    have := h1 j (by omega)
    rw [List.getD_eq_getElem?_getD, List.getElem?_eq_getElem (by omega)] at this
    simpa using this
  have e2 : (l.drop k).filter (fun t => decide (t.zxid ≤ z)) = [] := by
    rw [List.filter_eq_nil_iff]
    intro t ht
    obtain ⟨j, hj, rfl⟩ := List.mem_drop_iff_getElem.1 ht
    have a := h2 (by omega)
    have : z < (l.getD (k + j) default).zxid := by
      by_cases e : j = 0
      · subst e; exact a
      · exact Int.lt_trans a (logOk_lt hr (by omega) (by omega))
    rw [List.getD_eq_getElem?_getD, List.getElem?_eq_getElem (by omega)] at this
    simpa using this
  rw [e1, e2, List.append_nil]
theorem keepL_snoc (l : List ATxn) (z : Int) (k : Nat) (h : k < l.length) : keepL (l.take (k + 1)) z = if (l.getD k default).zxid ≤ z then keepL (l.take k) z ++ [l.getD k default] else keepL (l.take k) z := by
  unfold keepL
  rw [take_snoc l k h, List.filter_append]
  by_cases e : (l.getD k default).zxid ≤ z
  · rw [if_pos e, List.filter_cons_of_pos (by simpa using e)]; rfl
  · rw [if_neg e, List.filter_cons_of_neg (by simpa using e), List.filter_nil, List.append_nil]
theorem encs_pre {l : List ATxn} {k : Nat} : encs (l.take k) = (encs l).take (encs (l.take k)).length := by
  conv => rhs; rw [show encs l = encs (l.take k) ++ encs (l.drop k) from by unfold encs; rw [← List.flatten_append, ← List.map_append, List.take_append_drop]]
  rw [List.take_left']; rfl
theorem nm (l : List AFile) (k : Nat) : (l.map AFile.name).getD k [] = (l.getD k default).name := getD_map AFile.name l k default
theorem goodD_iff {l : List AFile} : goodD l = true ↔ l.length ≤ 16 ∧ ∀ k, k < l.length → fileK l k := by unfold goodD; rw [decide_eq_true_eq]
theorem goodD_set {l : List AFile} {p : Nat} {x : AFile} (h : goodD l = true) (hn : x.name = (l.getD p default).name) (hl : x.safe.length + x.tail.length ≤ 1048576) : goodD (l.set p x) = true := by
  rw [goodD_iff] at h ⊢
  have g (j : Nat) : ((l.set p x).getD j default).name = (l.getD j default).name := by
    simp only [List.getD_eq_getElem?_getD, List.getElem?_set]
    split
    · rename_i e; subst e
      split
      · exact hn
      · rename_i h2; rw [List.getElem?_eq_none (by omega)]
    · rfl
  refine ⟨by rw [List.length_set]; exact h.1, fun k hk => ?_⟩
  rw [List.length_set] at hk
  obtain ⟨a, b⟩ := h.2 k hk
  refine ⟨⟨by rw [g]; exact a.1, ?_⟩, by rw [g, g]; exact b⟩
  simp only [List.getD_eq_getElem?_getD, List.getElem?_set]
  split
  · rename_i e; subst e
    split
    · exact hl
    · omega
  · simpa only [List.getD_eq_getElem?_getD] using a.2
theorem place_lo {ns : List (List UInt8)} {key : List UInt8} {k : Nat} (h : k < place ns key) : ns.getD k [] < key := by
  have hl := place_le ns key
  have := List.not_of_lt_findIdx (p := fun x => !decide (x < key)) (xs := ns) h
  rw [List.getD_eq_getElem?_getD, List.getElem?_eq_getElem (by omega)]
  simpa using this
theorem place_hi {ns : List (List UInt8)} {key : List UInt8} (h : place ns key < ns.length) : ¬ ns.getD (place ns key) [] < key := by
  have := List.findIdx_getElem (p := fun x => !decide (x < key)) (xs := ns) (w := h)
  rw [Bool.not_eq_true', decide_eq_false_iff_not] at this
  rw [List.getD_eq_getElem?_getD, List.getElem?_eq_getElem h]
  exact this
theorem ins_get_gt {α : Type} (l : List α) (i k : Nat) (x z : α) (h : i ≤ l.length) (hk : i < k) : (l.insertIdx i x).getD k z = l.getD (k - 1) z := by
  rw [ins_eq _ _ _ h, List.getD_eq_getElem?_getD, List.getElem?_append_right (by rw [List.length_take]; omega), List.length_take, Nat.min_eq_left h, show k - i = (k - i - 1) + 1 from by omega, List.getElem?_cons_succ, List.getElem?_drop, List.getD_eq_getElem?_getD]
  congr 2; omega
theorem goodD_ins {l : List AFile} {key : List UInt8} {x : AFile} (h : goodD l = true) (hx : x.name = key) (hm : ¬ key ∈ l.map AFile.name) (hn : namedP key = true) (hf : l.length < 16) (hs : x.safe.length + x.tail.length ≤ 1048576) : goodD (l.insertIdx (place (l.map AFile.name) key) x) = true := by
  have hr := goodD_rises h
  have hp := place_le' (l := l) (key := key)
  have lo : ∀ j, j < place (l.map AFile.name) key → (l.getD j default).name < key := fun j hj => by rw [← nm]; exact place_lo hj
  have hi : ∀ j, place (l.map AFile.name) key ≤ j → j < l.length → key < (l.getD j default).name := fun j h1 h2 => by
    have a := place_hi (ns := l.map AFile.name) (key := key) (by rw [List.length_map]; omega)
    have b : key < (l.map AFile.name).getD (place (l.map AFile.name) key) [] := lt_of_not a fun e => hm (by rw [← e]; exact mem_getD _ _ (by rw [List.length_map]; omega))
    by_cases e : place (l.map AFile.name) key = j
    · rw [← nm, ← e]; exact b
    · have := rises_lt hr (i := place (l.map AFile.name) key) (j := j) (by omega) (by rw [List.length_map]; omega)
      rw [nm l j] at this
      exact List.lt_trans b this
  generalize place (l.map AFile.name) key = p at *
  rw [goodD_iff] at h ⊢
  refine ⟨by rw [ins_len _ _ _ hp]; omega, fun k hk => ?_⟩
  rw [ins_len _ _ _ hp] at hk
  rcases Nat.lt_trichotomy k p with hkp | hkp | hkp
  · obtain ⟨a, b⟩ := h.2 k (by omega)
    refine ⟨?_, fun h0 => ?_⟩
    · rw [ins_get_lt _ _ _ _ _ hp hkp]; exact a
    · rw [ins_get_lt _ _ _ _ _ hp hkp, ins_get_lt _ _ _ _ _ hp (by omega)]; exact b h0
  · subst hkp
    refine ⟨?_, fun h0 => ?_⟩
    · rw [getD_ins _ _ _ _ hp]; exact ⟨by rw [hx]; exact hn, hs⟩
    · rw [getD_ins _ _ _ _ hp, ins_get_lt _ _ _ _ _ hp (by omega), hx]; exact lo _ (by omega)
  · obtain ⟨a, b⟩ := h.2 (k - 1) (by omega)
    refine ⟨?_, fun h0 => ?_⟩
    · rw [ins_get_gt _ _ _ _ _ hp hkp]; exact a
    · rw [ins_get_gt _ _ _ _ _ hp hkp]
      by_cases e : k - 1 = p
      · rw [e, getD_ins _ _ _ _ hp, hx]; exact hi _ (Nat.le_refl _) (by omega)
      · rw [ins_get_gt _ _ _ _ _ hp (by omega)]; exact b (by omega)
end Go.Proofs.YtainmipdnjcbkaaGreatDoor
namespace Go.Proofs.YtainmipdnjcbkaaGreatDoor
set_option linter.unusedVariables false
set_option linter.unusedSimpArgs false
open Go Go.RowKit
set_option maxRecDepth 100000
def recoverD (l : List AFile) : List ATxn × ADisk × Int :=
  if (readD l logN).2 = 7 then (if (writeD l logN []).2 = 0 then ([], (writeD l logN []).1, 0) else ([], default, (writeD l logN []).2))
  else if (readD l logN).2 = 0 then ((scanT (readD l logN).1).1, (changeD l logN (cutF (scanT (readD l logN).1).2)).1, 0)
  else ([], default, (readD l logN).2)
theorem read_len {l : List AFile} (key : List UInt8) : (readD l key).1.length ≤ 1048576 := by
  unfold readD
  split
  · decide
  · rename_i hg
    split
    · rename_i hm
      have hg' : goodD l = true := by simpa using hg
      have hp := place_lt hg' hm
      have := ((goodD_iff.1 hg').2 _ hp).1.2
      simp only [List.length_append]; exact this
    · decide
theorem read_zero {l : List AFile} {key : List UInt8} (h : (readD l key).2 = 0) : goodD l = true ∧ key ∈ l.map AFile.name ∧ (readD l key).1 = (l.getD (place (l.map AFile.name) key) default).safe ++ (l.getD (place (l.map AFile.name) key) default).tail := by
  unfold readD at h ⊢
  split at h
  · cases h
  · rename_i hg
    split at h
    · rename_i hm
      rw [if_neg hg, if_pos hm]
      exact ⟨by simpa using hg, hm, rfl⟩
    · cases h
theorem read_seven {l : List AFile} {key : List UInt8} (h : (readD l key).2 = 7) : goodD l = true ∧ ¬ key ∈ l.map AFile.name := by
  unfold readD at h
  split at h
  · cases h
  · rename_i hg
    split at h
    · cases h
    · rename_i hm; exact ⟨by simpa using hg, hm⟩
theorem cut_ok {l : List AFile} {key : List UInt8} {n : Nat} (hg : goodD l = true) (hm : key ∈ l.map AFile.name) (hn : n ≤ ((l.getD (place (l.map AFile.name) key) default).safe ++ (l.getD (place (l.map AFile.name) key) default).tail).length) :
    changeD l key (cutF n) = (⟨l.set (place (l.map AFile.name) key) ⟨key, ((l.getD (place (l.map AFile.name) key) default).safe ++ (l.getD (place (l.map AFile.name) key) default).tail).take n, []⟩⟩, 0) := by
  have e : cutF n (l.getD (place (l.map AFile.name) key) default) = (⟨(l.getD (place (l.map AFile.name) key) default).name, ((l.getD (place (l.map AFile.name) key) default).safe ++ (l.getD (place (l.map AFile.name) key) default).tail).take n, []⟩, 0) := by
    rw [List.length_append] at hn
    unfold cutF; rw [if_neg (by omega), Int.toNat_natCast]
  rw [change_ok hg hm (by rw [e]), e]
  have := (zc (goodD_rises hg) hm).2
  rw [nm] at this
  simp only [this]
theorem cut_scan {l : List AFile} (h : (readD l logN).2 = 0) : (changeD l logN (cutF (scanT (readD l logN).1).2)) = (⟨l.set (place (l.map AFile.name) logN) ⟨logN, encs (scanT (readD l logN).1).1, []⟩⟩, 0) := by
  obtain ⟨a, b, c⟩ := read_zero h
  obtain ⟨d1, d2, d3⟩ := scanT_ok (readD l logN).1
  rw [cut_ok a b (by rw [← c]; exact d3), ← c, ← d2]
theorem logN_named : namedP logN = true := by decide
theorem set_getD {α : Type} (l : List α) (p : Nat) (x z : α) (h : p < l.length) : (l.set p x).getD p z = x := by
  rw [List.getD_eq_getElem?_getD, List.getElem?_set_self h]; rfl
theorem set_map_name {l : List AFile} {p : Nat} {x : AFile} (h : x.name = (l.getD p default).name) : (l.set p x).map AFile.name = l.map AFile.name := by
  apply List.ext_getElem?
  intro j
  rw [List.getElem?_map, List.getElem?_map, List.getElem?_set]
  split
  · rename_i e; subst e
    split
    · rename_i h2; rw [List.getD_eq_getElem?_getD, List.getElem?_eq_getElem h2] at h; rw [List.getElem?_eq_getElem h2]; simp [h]
    · rename_i h2; rw [List.getElem?_eq_none (by omega)]
  · rfl
structure RecOk (l : List AFile) (r : List AFile) (L : List ATxn) : Prop where
  good : goodD r = true
  mem : logN ∈ r.map AFile.name
  file : r.getD (place (r.map AFile.name) logN) default = ⟨logN, encs L, []⟩
  ok : logOk L
  len : (encs L).length ≤ 1048576
  cnt : L.length ≤ 1048577
  wf : (∀ f, f ∈ l → f.wf) → ∀ f, f ∈ r → f.wf
theorem good_small {l : List AFile} (h : goodD l = true) : l.length * 48 ≤ 140737488351232 := by have := good_len h; omega
theorem recover_ok {l : List AFile} (h : (recoverD l).2.2 = 0) : RecOk l (recoverD l).2.1.files (recoverD l).1 := by
  unfold recoverD at h ⊢
  by_cases h7 : (readD l logN).2 = 7
  · rw [if_pos h7] at h ⊢
    by_cases hw : (writeD l logN []).2 = 0
    · rw [if_pos hw]
      obtain ⟨a, b⟩ := read_seven h7
      have hwf := fun h0 => write_files_wf (l := l) (s := []) logN_ok h0
      unfold writeD at hw ⊢ hwf
      rw [if_neg (by simp [a]), if_neg (by simp [logN_named]), if_neg b] at hw ⊢ hwf
      split at hw
      · cases hw
      rename_i h16
      rw [if_neg h16, if_neg (by decide)] at hwf ⊢
      have hpl := place_le' (l := l) (key := logN)
      have hg := goodD_ins (x := ⟨logN, [], []⟩) a rfl b logN_named (by omega) (by decide)
      have hnm : ((l.insertIdx (place (l.map AFile.name) logN) (⟨logN, [], []⟩ : AFile)).map AFile.name).getD (place (l.map AFile.name) logN) [] = logN := by
        rw [nm, getD_ins _ _ _ _ hpl]
      have hlt : place (l.map AFile.name) logN < ((l.insertIdx (place (l.map AFile.name) logN) (⟨logN, [], []⟩ : AFile)).map AFile.name).length := by
        rw [List.length_map, ins_len _ _ _ hpl]; omega
      have hpe := place_at (goodD_rises hg) hlt
      rw [hnm] at hpe
      refine ⟨hg, ?_, ?_, logOk_nil, (Nat.zero_le 1048576), (Nat.zero_le 1048577), hwf⟩
      · have := mem_getD _ [] hlt
        rw [hnm] at this; exact this
      · show (l.insertIdx _ _).getD (place ((l.insertIdx _ _).map AFile.name) logN) default = _
        rw [hpe, getD_ins _ _ _ _ hpl]; rfl
    · rw [if_neg hw] at h; exact absurd h hw
  · rw [if_neg h7] at h ⊢
    by_cases h0 : (readD l logN).2 = 0
    · rw [if_pos h0] at h ⊢
      rw [cut_scan h0]
      obtain ⟨a, b, c⟩ := read_zero h0
      obtain ⟨d1, d2, d3⟩ := scanT_ok (readD l logN).1
      have hlen := read_len (l := l) logN
      have he : (encs (scanT (readD l logN).1).1).length ≤ 1048576 := by rw [d2, List.length_take]; omega
      have hp := place_lt a b
      have hn := (zc (goodD_rises a) b).2
      rw [nm] at hn
      have hmn : (l.set (place (l.map AFile.name) logN) (⟨logN, encs (scanT (readD l logN).1).1, []⟩ : AFile)).map AFile.name = l.map AFile.name := set_map_name hn.symm
      refine ⟨goodD_set a hn.symm (by simpa using he), ?_, ?_, d1, he, by have := scanT_len (readD l logN).1; show (scanT _).1.length ≤ _; omega, fun hwf f hf => ?_⟩
      · show logN ∈ (l.set _ _).map AFile.name
        rw [hmn]; exact b
      · show (l.set _ _).getD (place ((l.set _ _).map AFile.name) logN) default = _
        rw [hmn, set_getD _ _ _ _ hp]
      · rcases List.mem_or_eq_of_mem_set hf with h1 | h1
        · exact hwf f h1
        · subst h1; exact ⟨logN_ok, by show okS (encs (scanT (readD l logN).1).1); unfold okS; omega, by show okS []; unfold okS; decide⟩
    · rw [if_neg h0] at h; exact absurd h h0
theorem recover_wf {l : List AFile} : (recoverD l).2.1.files.length * 48 ≤ 140737488351232 := by
  unfold recoverD
  split
  · split
    · exact write_wf
    · exact (by decide : ([] : List AFile).length * 48 ≤ 140737488351232)
  · split
    · rename_i h0
      rw [cut_scan h0]
      have := good_small (read_zero h0).1
      show (l.set _ _).length * 48 ≤ _
      rw [List.length_set]; exact this
    · exact (by decide : ([] : List AFile).length * 48 ≤ 140737488351232)
theorem recover_cnt (l : List AFile) : (recoverD l).1.length * 72 ≤ 140737488351232 := by
  unfold recoverD
  split
  · split <;> exact (by decide : ([] : List ATxn).length * 72 ≤ 140737488351232)
  · split
    · have a := scanT_len (readD l logN).1
      have b := read_len (l := l) logN
      simp only; omega
    · exact (by decide : ([] : List ATxn).length * 72 ≤ 140737488351232)
theorem rec_a {l : List AFile} (h : (readD l logN).2 = 7) (h2 : ¬ (writeD l logN []).2 = 0) : recoverD l = ([], default, (writeD l logN []).2) := by unfold recoverD; rw [if_pos h, if_neg h2]
theorem rec_b {l : List AFile} (h : (readD l logN).2 = 7) (h2 : (writeD l logN []).2 = 0) : recoverD l = ([], (writeD l logN []).1, 0) := by unfold recoverD; rw [if_pos h, if_pos h2]
theorem rec_c {l : List AFile} (h : ¬ (readD l logN).2 = 7) (h2 : ¬ (readD l logN).2 = 0) : recoverD l = ([], default, (readD l logN).2) := by unfold recoverD; rw [if_neg h, if_neg h2]
theorem rec_d {l : List AFile} (h : ¬ (readD l logN).2 = 7) (h2 : (readD l logN).2 = 0) : recoverD l = ((scanT (readD l logN).1).1, (changeD l logN (cutF (scanT (readD l logN).1).2)).1, 0) := by unfold recoverD; rw [if_neg h, if_pos h2]
set_option maxHeartbeats 2000000 in
theorem recover_c (d : ADisk) (h : d.files.length * 48 ≤ 140737488351232) (hw : ∀ f, f ∈ d.files → f.wf) : acall Tryz.prog [] 52 [d.av] (ret (.tup [.d (.sl 7 ((recoverD d.files).1.map ATxn.row)), (recoverD d.files).2.1.av, I (recoverD d.files).2.2])) := by
  have hr := read_c d logN h hw
  have hs := scan_c _ (read_len (l := d.files) logN)
  have hcut := cut_c d logN (scanT (readD d.files logN).1).2 h hw
  have hwr := write_c d logN [] (by unfold okS; decide) logN_ok h hw
  refine zI Tryz.func52 rfl (by kernel_rfl) (by simp [Tryz.ntmps52]) ?_; simp only [Tryz.ntmps52, Tryz.results52, go_sem]
  (repeat' first
| (with_reducible refine AR.f ?_)
| refine zb (by decide) ?_
| (with_reducible refine AWP.cond rfl ?_ ?_ <;> intro hc <;> (try simp only [hcs, beq_iff_eq, ge_iff_le, gt_iff_lt] at hc))
| ((first | ((first | (with_reducible first | refine zR ?_ | refine zQ (by decide +kernel) ?_ | refine zD (by decide +kernel) ?_ | refine zE (by decide +kernel) ?_ | refine zG (by decide +kernel) ?_)); intro K hK) | ((first | refine zA hr ?_ ?_ ?_ ?_ ?_ | refine zA hwr ?_ ?_ ?_ ?_ ?_ | refine zA hcut ?_ ?_ ?_ ?_ ?_); (focus exact rfl); (focus exact rfl); iterate 2 (focus ((try simp (disch := omega) only [go_sem, wn, logN]) <;> (try omega) <;> fail))) | ((first | refine zN hwr rfl ?_ ?_ | refine zN hs rfl ?_ ?_ | refine zN hcut rfl ?_ ?_ | refine zX hr rfl ?_ ?_ | refine zX hwr rfl ?_ ?_ | refine zY hwr ?_ ?_ | refine zY hs ?_ ?_ | refine zX hcut rfl ?_ ?_ | refine zY hcut ?_ ?_); (focus ((try simp (disch := omega) only [go_sem, wn, logN]) <;> (try omega) <;> fail))) | ((first | (with_reducible refine zu ?_ ?_ <;> intro hg) | with_reducible intro hg) <;> (first | (exfalso; simp at hg; done) | (have hg' := hg; (try simp only [hcs, beq_iff_eq, ge_iff_le, gt_iff_lt] at hg'); (try simp only [hg]))))) <;> (try simp (disch := omega) only [go_sem, wn, logN]) <;> (repeat' with_reducible refine And.intro ?_ ?_) <;> (try (with_reducible refine hK _ ?_; clear hK K)))
| omega)
  · rw [rec_a (by assumption) (by assumption)]; (refine zF rfl ?_ ?_ ?_ ?_; (iterate 3 (focus ((try simp (disch := omega) only [go_sem, wn, logN, default]) <;> (try omega) <;> fail))); (try simp (disch := omega) only [go_sem, wn, logN, default, I, B, S, zj]))
  · rw [rec_b (by assumption) (by assumption)]; (refine zF rfl ?_ ?_ ?_ ?_; (iterate 3 (focus ((try simp (disch := omega) only [go_sem, wn, logN, default]) <;> (try omega) <;> fail))); (try simp (disch := omega) only [go_sem, wn, logN, default, I, B, S, zj]))
  · rw [rec_c (by assumption) (by assumption)]; (refine zF rfl ?_ ?_ ?_ ?_; (iterate 3 (focus ((try simp (disch := omega) only [go_sem, wn, logN, default]) <;> (try omega) <;> fail))); (try simp (disch := omega) only [go_sem, wn, logN, default, I, B, S, zj]))
  · have e := cut_scan (l := d.files) (by assumption)
    exact absurd (congrArg Prod.snd e) hc
  · rw [rec_d (by assumption) (by assumption)]; (refine zF rfl ?_ ?_ ?_ ?_; (iterate 3 (focus ((try simp (disch := omega) only [go_sem, wn, logN]) <;> (try omega) <;> fail))); (try simp (disch := omega) only [go_sem, wn, logN, I, B, S, zj]))
set_option maxHeartbeats 2000000 in
theorem ref_recover_c (d : ADisk) (h : d.files.length * 48 ≤ 140737488351232) (hw : ∀ f, f ∈ d.files → f.wf) : acall Tryz.prog [] 60 [d.av] (ret (.tup [.d (.sl 7 ((recoverD d.files).1.map ATxn.row)), (recoverD d.files).2.1.av, I (recoverD d.files).2.2])) := by
  have hr := ref_read_c d logN h hw
  have hs := ref_scan_c _ (read_len (l := d.files) logN)
  have hcut := ref_cut_c d logN (scanT (readD d.files logN).1).2 h hw
  have hwr := ref_write_c d logN [] (by unfold okS; decide) logN_ok h hw
  refine zI Tryz.func60 rfl (by kernel_rfl) (by simp [Tryz.ntmps60]) ?_; simp only [Tryz.ntmps60, Tryz.results60, go_sem]
  (repeat' first
| (with_reducible refine AR.f ?_)
| refine zb (by decide) ?_
| (with_reducible refine AWP.cond rfl ?_ ?_ <;> intro hc <;> (try simp only [hcs, beq_iff_eq, ge_iff_le, gt_iff_lt] at hc))
| ((first | ((first | (with_reducible first | refine zR ?_ | refine zQ (by decide +kernel) ?_ | refine zD (by decide +kernel) ?_ | refine zE (by decide +kernel) ?_ | refine zG (by decide +kernel) ?_)); intro K hK) | ((first | refine zA hr ?_ ?_ ?_ ?_ ?_ | refine zA hwr ?_ ?_ ?_ ?_ ?_ | refine zA hcut ?_ ?_ ?_ ?_ ?_); (focus exact rfl); (focus exact rfl); iterate 2 (focus ((try simp (disch := omega) only [go_sem, wn, logN]) <;> (try omega) <;> fail))) | ((first | refine zN hwr rfl ?_ ?_ | refine zN hs rfl ?_ ?_ | refine zN hcut rfl ?_ ?_ | refine zX hr rfl ?_ ?_ | refine zX hwr rfl ?_ ?_ | refine zY hwr ?_ ?_ | refine zY hs ?_ ?_ | refine zX hcut rfl ?_ ?_ | refine zY hcut ?_ ?_); (focus ((try simp (disch := omega) only [go_sem, wn, logN]) <;> (try omega) <;> fail))) | ((first | (with_reducible refine zu ?_ ?_ <;> intro hg) | with_reducible intro hg) <;> (first | (exfalso; simp at hg; done) | (have hg' := hg; (try simp only [hcs, beq_iff_eq, ge_iff_le, gt_iff_lt] at hg'); (try simp only [hg]))))) <;> (try simp (disch := omega) only [go_sem, wn, logN]) <;> (repeat' with_reducible refine And.intro ?_ ?_) <;> (try (with_reducible refine hK _ ?_; clear hK K)))
| omega)
  · rw [rec_a (by assumption) (by assumption)]; (refine zF rfl ?_ ?_ ?_ ?_; (iterate 3 (focus ((try simp (disch := omega) only [go_sem, wn, logN, default]) <;> (try omega) <;> fail))); (try simp (disch := omega) only [go_sem, wn, logN, default, I, B, S, zj]))
  · rw [rec_b (by assumption) (by assumption)]; (refine zF rfl ?_ ?_ ?_ ?_; (iterate 3 (focus ((try simp (disch := omega) only [go_sem, wn, logN, default]) <;> (try omega) <;> fail))); (try simp (disch := omega) only [go_sem, wn, logN, default, I, B, S, zj]))
  · rw [rec_c (by assumption) (by assumption)]; (refine zF rfl ?_ ?_ ?_ ?_; (iterate 3 (focus ((try simp (disch := omega) only [go_sem, wn, logN, default]) <;> (try omega) <;> fail))); (try simp (disch := omega) only [go_sem, wn, logN, default, I, B, S, zj]))
  · rw [rec_d (by assumption) (by assumption)]
    have e := congrArg Prod.snd (cut_scan (l := d.files) (by assumption))
    have e' : (changeD d.files [108, 111, 103] (cutF (scanT (readD d.files [108, 111, 103]).1).2)).2 = 0 := e
    (refine zF rfl ?_ ?_ ?_ ?_; (iterate 3 (focus ((try simp (disch := omega) only [go_sem, wn, logN, e']) <;> (try omega) <;> fail))); (try simp (disch := omega) only [go_sem, wn, logN, e', I, B, S, zj]))
def keepD (l : List AFile) (z : Int) : ADisk × Int :=
  if (recoverD l).2.2 = 0 then (⟨(recoverD l).2.1.files.set (place ((recoverD l).2.1.files.map AFile.name) logN) ⟨logN, encs (keepL (recoverD l).1 z), []⟩⟩, 0) else (default, (recoverD l).2.2)
theorem keep_no {l : List AFile} {z : Int} (h : ¬ (recoverD l).2.2 = 0) : keepD l z = (default, (recoverD l).2.2) := by unfold keepD; rw [if_neg h]
theorem keep_yes {l : List AFile} {z : Int} (h : (recoverD l).2.2 = 0) : keepD l z = (⟨(recoverD l).2.1.files.set (place ((recoverD l).2.1.files.map AFile.name) logN) ⟨logN, encs (keepL (recoverD l).1 z), []⟩⟩, 0) := by unfold keepD; rw [if_pos h]
theorem keep_wf {l : List AFile} {z : Int} : (keepD l z).1.files.length * 48 ≤ 140737488351232 := by
  unfold keepD
  split
  · have := recover_wf (l := l)
    show (List.set _ _ _).length * 48 ≤ _
    rw [List.length_set]; exact this
  · exact (by decide : ([] : List AFile).length * 48 ≤ 140737488351232)
theorem encs_len_take (l : List ATxn) (k : Nat) : (encs (l.take k)).length ≤ (encs l).length := by
  have : encs l = encs (l.take k) ++ encs (l.drop k) := by unfold encs; rw [← List.flatten_append, ← List.map_append, List.take_append_drop]
  rw [this, List.length_append]; omega
theorem encs_filter (p : ATxn → Bool) : ∀ l : List ATxn, (encs (l.filter p)).length ≤ (encs l).length
  | [] => Nat.le_refl _
  | t :: l => by
    have ih := encs_filter p l
    have e (x : ATxn) (r : List ATxn) : (encs (x :: r)).length = (encT x).1.length + (encs r).length := by unfold encs; simp
    by_cases h : p t = true
    · rw [List.filter_cons_of_pos h, e, e]; omega
    · rw [List.filter_cons_of_neg h, e]; omega
theorem keepL_len (L : List ATxn) (z : Int) (k : Nat) : (encs (keepL (L.take k) z)).length ≤ (encs L).length :=
  Nat.le_trans (encs_filter _ _) (encs_len_take L k)
theorem keep_cut {l : List AFile} {z : Int} {k : Nat} (h : (recoverD l).2.2 = 0) (hk : k ≤ (recoverD l).1.length) (h1 : ∀ j, j < k → ((recoverD l).1.getD j default).zxid ≤ z) (h2 : k < (recoverD l).1.length → z < ((recoverD l).1.getD k default).zxid) :
    changeD (recoverD l).2.1.files logN (cutF (encs ((recoverD l).1.take k)).length) = keepD l z := by
  have o := recover_ok h
  have hl := encs_len_take (recoverD l).1 k
  rw [keep_yes h, cut_ok o.good o.mem (by rw [o.file]; simpa using hl), o.file, keepL_take o.ok hk h1 h2]
  simp only [List.append_nil]
  rw [← encs_pre]
theorem txn_get {l : List AFile} (h : (recoverD l).2.2 = 0) {k : Nat} (hk : k < (recoverD l).1.length) : goodT ((recoverD l).1.getD k default) = 0 := (recover_ok h).ok.2 _ (getD_mem _ _ hk)
set_option maxHeartbeats 2000000 in
theorem keep_c (d : ADisk) (z : Int) (h : d.files.length * 48 ≤ 140737488351232) (hw : ∀ f, f ∈ d.files → f.wf) : acall Tryz.prog [] 81 [d.av, I z] (ret (.tup [(keepD d.files z).1.av, I (keepD d.files z).2])) := by
  by_cases h0 : (recoverD d.files).2.2 = 0
  case neg =>
    rw [keep_no h0]
    refine zI Tryz.func81 rfl (by kernel_rfl) (by simp [Tryz.ntmps81]) ?_; simp only [Tryz.ntmps81, Tryz.results81, go_sem]
    (repeat' first
  | (with_reducible refine AR.f ?_)
  | refine zb (by decide) ?_
  | (with_reducible refine AWP.cond rfl ?_ ?_ <;> intro hc <;> (try simp only [hcs, beq_iff_eq, ge_iff_le, gt_iff_lt] at hc))
  | ((first | ((first | (with_reducible first | refine zR ?_ | refine zQ (by decide +kernel) ?_ | refine zD (by decide +kernel) ?_ | refine zE (by decide +kernel) ?_ | refine zG (by decide +kernel) ?_)); intro K hK) | ((first | refine zN (recover_c d h hw) rfl ?_ ?_ | refine zY (recover_c d h hw) ?_ ?_); (focus ((try simp (disch := omega) only [go_sem, wn]) <;> (try omega) <;> fail))) | ((first | (with_reducible refine zu ?_ ?_ <;> intro hg) | with_reducible intro hg) <;> (first | (exfalso; simp at hg; done) | (have hg' := hg; (try simp only [hcs, beq_iff_eq, ge_iff_le, gt_iff_lt] at hg'); (try simp only [hg]))))) <;> (try simp (disch := omega) only [go_sem, wn]) <;> (repeat' with_reducible refine And.intro ?_ ?_) <;> (try (with_reducible refine hK _ ?_; clear hK K)))
  | omega)
    all_goals first | (exfalso; omega) | skip
    (refine zF rfl ?_ ?_ ?_ ?_; (iterate 3 (focus ((try simp (disch := omega) only [go_sem, wn, default]) <;> (try omega) <;> fail))); (try simp (disch := omega) only [go_sem, wn, default, I, B, S, zj]))
  have o := recover_ok h0
  have hrc := recover_c d h hw
  rw [h0] at hrc
  have hcnt := recover_cnt d.files
  have hcuts (n : Nat) := cut_c (recoverD d.files).2.1 logN n recover_wf (o.wf hw)
  have htx (k : Nat) (hk : k < (recoverD d.files).1.length) := txn_get h0 hk
  have hkc (k : Nat) (hk : k ≤ (recoverD d.files).1.length) := keep_cut (z := z) h0 hk
  have hlen := o.len
  generalize hR : (recoverD d.files).2.1 = R at hrc hcuts hkc
  generalize hL : (recoverD d.files).1 = L at hrc hcnt htx hkc hlen
  refine zI Tryz.func81 rfl (by kernel_rfl) (by simp [Tryz.ntmps81]) ?_; simp only [Tryz.ntmps81, Tryz.results81, go_sem]
  (repeat' first
| (with_reducible refine AR.f ?_)
| refine zb (by decide) ?_
| (with_reducible refine AWP.cond rfl ?_ ?_ <;> intro hc <;> (try simp only [hcs, beq_iff_eq, ge_iff_le, gt_iff_lt] at hc))
| ((first | ((first | (with_reducible first | refine zR ?_ | refine zQ (by decide +kernel) ?_ | refine zD (by decide +kernel) ?_ | refine zE (by decide +kernel) ?_ | refine zG (by decide +kernel) ?_)); intro K hK) | ((first | refine zN hrc rfl ?_ ?_ | refine zY hrc ?_ ?_); (focus ((try simp (disch := omega) only [go_sem, wn]) <;> (try omega) <;> fail))) | ((first | (with_reducible refine zu ?_ ?_ <;> intro hg) | with_reducible intro hg) <;> (first | (exfalso; simp at hg; done) | (have hg' := hg; (try simp only [hcs, beq_iff_eq, ge_iff_le, gt_iff_lt] at hg'); (try simp only [hg]))))) <;> (try simp (disch := omega) only [go_sem, wn]) <;> (repeat' with_reducible refine And.intro ?_ ?_) <;> (try (with_reducible refine hK _ ?_; clear hK K)))
| omega)
  refine AWP.loopB (ι := Nat) (fun k => k ≤ L.length ∧ ∀ j, j < k → (L.getD j default).zxid ≤ z) (fun k => L.length - k) [1, 2, 4, 23, 24] (fun k => [(25, I k), (8, I (encs (L.take k)).length)]) (fun k => [.cells [.d (.sl 3 (R.files.map AFile.row))], .cells [.d (.sc (.slice none 0 0))]]) 0 ?_ ?_ ?_
  · exact ⟨by omega, fun j hj => by omega⟩
  · simp only [go_sem, List.take_zero, encs_nil]; (refine SImp.same ?_; simp (disch := omega) only [go_sem, wn, Int.natCast_add])
  intro k ⟨hk, hk2⟩
  simp only [go_sem]
  by_cases hkl : k < L.length
  · have hg := htx k hkl
    obtain ⟨s1, s2⟩ := goodT_small hg
    obtain ⟨e1, e2⟩ := encT_ok hg
    have he := encode_c (L.getD k default) (by unfold okS; omega) (by unfold okS; omega)
    have hlt := encs_len_take L (k + 1)
    rw [encs_take L k hkl, List.length_append] at hlt
    rw [e2] at he
    (repeat' first
  | (with_reducible refine AR.f ?_)
  | refine zb (by decide) ?_
  | (with_reducible refine AWP.cond rfl ?_ ?_ <;> intro hc <;> (try simp only [hcs, beq_iff_eq, ge_iff_le, gt_iff_lt] at hc))
  | ((first | ((first | (with_reducible first | refine zR ?_ | refine zQ (by decide +kernel) ?_ | refine zD (by decide +kernel) ?_ | refine zE (by decide +kernel) ?_ | refine zG (by decide +kernel) ?_)); intro K hK) | ((first | refine zA he ?_ ?_ ?_ ?_ ?_ | refine zA (hcuts (encs (L.take k)).length) ?_ ?_ ?_ ?_ ?_); (focus exact rfl); (focus exact rfl); iterate 2 (focus ((try simp (disch := omega) only [go_sem, wn, logN]) <;> (try omega) <;> fail))) | ((first | refine zN (hcuts (encs (L.take k)).length) rfl ?_ ?_ | refine zX he rfl ?_ ?_ | refine zX (hcuts (encs (L.take k)).length) rfl ?_ ?_ | refine zY (hcuts (encs (L.take k)).length) ?_ ?_); (focus ((try simp (disch := omega) only [go_sem, wn, logN]) <;> (try omega) <;> fail))) | ((first | (with_reducible refine zu ?_ ?_ <;> intro hg) | with_reducible intro hg) <;> (first | (exfalso; simp at hg; done) | (have hg' := hg; (try simp only [hcs, beq_iff_eq, ge_iff_le, gt_iff_lt] at hg'); (try simp only [hg]))))) <;> (try simp (disch := omega) only [go_sem, wn, logN]) <;> (repeat' with_reducible refine And.intro ?_ ?_) <;> (try (with_reducible refine hK _ ?_; clear hK K)))
  | omega)
    · have e : changeD R.files [108, 111, 103] (cutF (encs (L.take k)).length) = keepD d.files z := hkc k hk hk2 (fun _ => hc)
      (refine zF rfl ?_ ?_ ?_ ?_; (iterate 3 (focus ((try simp (disch := omega) only [go_sem, wn, e]) <;> (try omega) <;> fail))); (try simp (disch := omega) only [go_sem, wn, e, I, B, S, zj]))
    · refine ⟨k + 1, ⟨by omega, fun j hj => ?_⟩, by omega, ?_⟩
      · by_cases ej : j = k
        · subst ej; exact hc
        · exact hk2 j (by omega)
      rw [encs_take L k hkl, List.length_append]
      (refine zV [0, 1] rfl rfl rfl rfl ?_ ?_ <;> simp (disch := omega) only [go_sem, wn, Int.natCast_add, Int.natCast_add] <;> (try rfl))
  · (repeat' first
  | (with_reducible refine AR.f ?_)
  | refine zb (by decide) ?_
  | (with_reducible refine AWP.cond rfl ?_ ?_ <;> intro hc <;> (try simp only [hcs, beq_iff_eq, ge_iff_le, gt_iff_lt] at hc))
  | ((first | ((first | (with_reducible first | refine zR ?_ | refine zQ (by decide +kernel) ?_ | refine zD (by decide +kernel) ?_ | refine zE (by decide +kernel) ?_ | refine zG (by decide +kernel) ?_)); intro K hK) | ((first | refine zA (hcuts (encs (L.take k)).length) ?_ ?_ ?_ ?_ ?_); (focus exact rfl); (focus exact rfl); iterate 2 (focus ((try simp (disch := omega) only [go_sem, wn, logN]) <;> (try omega) <;> fail))) | ((first | refine zN (hcuts (encs (L.take k)).length) rfl ?_ ?_ | refine zX (hcuts (encs (L.take k)).length) rfl ?_ ?_ | refine zY (hcuts (encs (L.take k)).length) ?_ ?_); (focus ((try simp (disch := omega) only [go_sem, wn, logN]) <;> (try omega) <;> fail))) | ((first | (with_reducible refine zu ?_ ?_ <;> intro hg) | with_reducible intro hg) <;> (first | (exfalso; simp at hg; done) | (have hg' := hg; (try simp only [hcs, beq_iff_eq, ge_iff_le, gt_iff_lt] at hg'); (try simp only [hg]))))) <;> (try simp (disch := omega) only [go_sem, wn, logN]) <;> (repeat' with_reducible refine And.intro ?_ ?_) <;> (try (with_reducible refine hK _ ?_; clear hK K)))
  | omega)
    have e : changeD R.files [108, 111, 103] (cutF (encs (L.take k)).length) = keepD d.files z := hkc k hk hk2 (fun h => by omega)
    (refine zF rfl ?_ ?_ ?_ ?_; (iterate 3 (focus ((try simp (disch := omega) only [go_sem, wn, e]) <;> (try omega) <;> fail))); (try simp (disch := omega) only [go_sem, wn, e, I, B, S, zj]))
theorem goodT_okI {t : ATxn} (h : goodT t = 0) : okI t.zxid := by
  by_cases h1 : t.op < 1 ∨ 5 < t.op
  · rw [goodT_op h1] at h; cases h
  by_cases h2 : numsB t = true
  · have := ((numsB_iff t).1 h2).1
    unfold goodZ at this; unfold okI; omega
  · rw [goodT_num (by omega) h2] at h; cases h
set_option maxHeartbeats 2000000 in
theorem ref_keep_c (d : ADisk) (z : Int) (h : d.files.length * 48 ≤ 140737488351232) (hw : ∀ f, f ∈ d.files → f.wf) : acall Tryz.prog [] 85 [d.av, I z] (ret (.tup [(keepD d.files z).1.av, I (keepD d.files z).2])) := by
  by_cases h0 : (recoverD d.files).2.2 = 0
  case neg =>
    rw [keep_no h0]
    refine zI Tryz.func85 rfl (by kernel_rfl) (by simp [Tryz.ntmps85]) ?_; simp only [Tryz.ntmps85, Tryz.results85, go_sem]
    (repeat' first
  | (with_reducible refine AR.f ?_)
  | refine zb (by decide) ?_
  | (with_reducible refine AWP.cond rfl ?_ ?_ <;> intro hc <;> (try simp only [hcs, beq_iff_eq, ge_iff_le, gt_iff_lt] at hc))
  | ((first | ((first | (with_reducible first | refine zR ?_ | refine zQ (by decide +kernel) ?_ | refine zD (by decide +kernel) ?_ | refine zE (by decide +kernel) ?_ | refine zG (by decide +kernel) ?_)); intro K hK) | ((first | refine zN (ref_recover_c d h hw) rfl ?_ ?_ | refine zY (ref_recover_c d h hw) ?_ ?_); (focus ((try simp (disch := omega) only [go_sem, wn]) <;> (try omega) <;> fail))) | ((first | (with_reducible refine zu ?_ ?_ <;> intro hg) | with_reducible intro hg) <;> (first | (exfalso; simp at hg; done) | (have hg' := hg; (try simp only [hcs, beq_iff_eq, ge_iff_le, gt_iff_lt] at hg'); (try simp only [hg]))))) <;> (try simp (disch := omega) only [go_sem, wn]) <;> (repeat' with_reducible refine And.intro ?_ ?_) <;> (try (with_reducible refine hK _ ?_; clear hK K)))
  | omega)
    all_goals first | (exfalso; omega) | skip
    (refine zF rfl ?_ ?_ ?_ ?_; (iterate 3 (focus ((try simp (disch := omega) only [go_sem, wn, default]) <;> (try omega) <;> fail))); (try simp (disch := omega) only [go_sem, wn, default, I, B, S, zj]))
  have o := recover_ok h0
  have hrc := ref_recover_c d h hw
  rw [h0] at hrc
  have hcnt := recover_cnt d.files
  have htx (k : Nat) (hk : k < (recoverD d.files).1.length) := txn_get h0 hk
  have hlen := o.len
  have hfile := (file_c (recoverD d.files).2.1 logN recover_wf o.good).re (by rw [fileI_yes o.mem])
  have hcopy := ref_copied_o_c (recoverD d.files).2.1 recover_wf
  have hky := keep_yes (z := z) h0
  have hplt := place_lt o.good o.mem
  generalize hR : (recoverD d.files).2.1 = R at hrc hfile hcopy hky hplt
  generalize hL : (recoverD d.files).1 = L at hrc hcnt htx hlen hky
  rw [hky]
  have hkl (k : Nat) (hk : k ≤ L.length) : (encs (keepL (L.take k) z)).length ≤ 1048576 := Nat.le_trans (keepL_len L z k) hlen
  refine zI Tryz.func85 rfl (by kernel_rfl) (by simp [Tryz.ntmps85]) ?_; simp only [Tryz.ntmps85, Tryz.results85, go_sem]
  (repeat' first
| (with_reducible refine AR.f ?_)
| refine zb (by decide) ?_
| (with_reducible refine AWP.cond rfl ?_ ?_ <;> intro hc <;> (try simp only [hcs, beq_iff_eq, ge_iff_le, gt_iff_lt] at hc))
| ((first | ((first | (with_reducible first | refine zR ?_ | refine zQ (by decide +kernel) ?_ | refine zD (by decide +kernel) ?_ | refine zE (by decide +kernel) ?_ | refine zG (by decide +kernel) ?_)); intro K hK) | ((first | refine zN hrc rfl ?_ ?_ | refine zY hrc ?_ ?_); (focus ((try simp (disch := omega) only [go_sem, wn]) <;> (try omega) <;> fail))) | ((first | (with_reducible refine zu ?_ ?_ <;> intro hg) | with_reducible intro hg) <;> (first | (exfalso; simp at hg; done) | (have hg' := hg; (try simp only [hcs, beq_iff_eq, ge_iff_le, gt_iff_lt] at hg'); (try simp only [hg]))))) <;> (try simp (disch := omega) only [go_sem, wn]) <;> (repeat' with_reducible refine And.intro ?_ ?_) <;> (try (with_reducible refine hK _ ?_; clear hK K)))
| omega)
  refine AWP.loopB (ι := Nat) (fun k => k ≤ L.length) (fun k => L.length - k) [1, 2, 4, 24, 25] (fun k => [(26, I k), (8, S (encs (keepL (L.take k) z)))]) (fun k => [.cells [.d (.sl 3 (R.files.map AFile.row))], .cells [.d (.sc (.slice none 0 0))]]) 0 ?_ ?_ ?_
  · omega
  · simp only [go_sem, List.take_zero, keepL, List.filter_nil, encs_nil]; (refine SImp.same ?_; simp (disch := omega) only [go_sem, wn, Int.natCast_add])
  intro k hk
  have hb := hkl k hk
  simp only [go_sem]
  by_cases hkl : k < L.length
  · have hg := htx k hkl
    obtain ⟨s1, s2⟩ := goodT_small hg
    obtain ⟨e1, e2⟩ := encT_ok hg
    have he := ref_encode_c (L.getD k default) (goodT_okI hg) (by omega) (by unfold okS; omega)
    unfold okS at e1
    rw [e2] at he
    (repeat' first
  | (with_reducible refine AR.f ?_)
  | refine zb (by decide) ?_
  | (with_reducible refine AWP.cond rfl ?_ ?_ <;> intro hc <;> (try simp only [hcs, beq_iff_eq, ge_iff_le, gt_iff_lt] at hc))
  | ((first | ((first | (with_reducible first | refine zR ?_ | refine zQ (by decide +kernel) ?_ | refine zD (by decide +kernel) ?_ | refine zE (by decide +kernel) ?_ | refine zG (by decide +kernel) ?_)); intro K hK) | ((first | refine zA he ?_ ?_ ?_ ?_ ?_); (focus exact rfl); (focus exact rfl); iterate 2 (focus ((try simp (disch := omega) only [go_sem, wn, logN]) <;> (try omega) <;> fail))) | ((first | refine zX he rfl ?_ ?_); (focus ((try simp (disch := omega) only [go_sem, wn, logN]) <;> (try omega) <;> fail))) | ((first | (with_reducible refine zu ?_ ?_ <;> intro hg) | with_reducible intro hg) <;> (first | (exfalso; simp at hg; done) | (have hg' := hg; (try simp only [hcs, beq_iff_eq, ge_iff_le, gt_iff_lt] at hg'); (try simp only [hg]))))) <;> (try simp (disch := omega) only [go_sem, wn, logN]) <;> (repeat' with_reducible refine And.intro ?_ ?_) <;> (try (with_reducible refine hK _ ?_; clear hK K)))
  | omega)
    · refine ⟨k + 1, by omega, by omega, ?_⟩
      rw [keepL_snoc L z k hkl, if_pos hc, encs_snoc]
      (refine zV [0, 1] rfl rfl rfl rfl ?_ ?_ <;> simp (disch := omega) only [go_sem, wn, Int.natCast_add] <;> (try rfl))
    · refine ⟨k + 1, by omega, by omega, ?_⟩
      rw [keepL_snoc L z k hkl, if_neg (by omega)]
      (refine zV [0, 1] rfl rfl rfl rfl ?_ ?_ <;> simp (disch := omega) only [go_sem, wn, Int.natCast_add] <;> (try rfl))
  · have ek : k = L.length := by omega
    subst ek
    rw [List.take_length] at *
    (repeat' first
  | (with_reducible refine AR.f ?_)
  | refine zb (by decide) ?_
  | (with_reducible refine AWP.cond rfl ?_ ?_ <;> intro hc <;> (try simp only [hcs, beq_iff_eq, ge_iff_le, gt_iff_lt] at hc))
  | ((first | ((first | (with_reducible first | refine zR ?_ | refine zQ (by decide +kernel) ?_ | refine zD (by decide +kernel) ?_ | refine zE (by decide +kernel) ?_ | refine zG (by decide +kernel) ?_)); intro K hK) | ((first | refine zA hfile ?_ ?_ ?_ ?_ ?_); (focus exact rfl); (focus exact rfl); iterate 2 (focus ((try simp (disch := omega) only [go_sem, wn, logN, AFile.rgetD, zg, AFile.rset, zm, List.set_set]) <;> (try omega) <;> fail))) | ((first | refine zN hcopy rfl ?_ ?_ | refine zX hfile rfl ?_ ?_ | refine zY hcopy ?_ ?_); (focus ((try simp (disch := omega) only [go_sem, wn, logN, AFile.rgetD, zg, AFile.rset, zm, List.set_set]) <;> (try omega) <;> fail))) | ((first | (with_reducible refine zu ?_ ?_ <;> intro hg) | with_reducible intro hg) <;> (first | (exfalso; simp at hg; done) | (have hg' := hg; (try simp only [hcs, beq_iff_eq, ge_iff_le, gt_iff_lt] at hg'); (try simp only [hg]))))) <;> (try simp (disch := omega) only [go_sem, wn, logN, AFile.rgetD, zg, AFile.rset, zm, List.set_set]) <;> (repeat' with_reducible refine And.intro ?_ ?_) <;> (try (with_reducible refine hK _ ?_; clear hK K)))
  | omega)
    · exact Int.ofNat_lt.2 hplt
    · exact hplt
    (refine zF rfl ?_ ?_ ?_ ?_; (iterate 3 (focus ((try simp (disch := omega) only [go_sem, wn, logN, take_map_set]) <;> (try omega) <;> fail))); (try simp (disch := omega) only [go_sem, wn, logN, take_map_set, I, B, S, zj]))
end Go.Proofs.YtainmipdnjcbkaaGreatDoor
namespace Go.Proofs.YtainmipdnjcbkaaGreatDoor
set_option linter.unusedVariables false
set_option linter.unusedSimpArgs false
open Go Go.RowKit
set_option maxRecDepth 100000
set_option linter.unusedSimpArgs false
theorem encs_app (a b : List ATxn) : encs (a ++ b) = encs a ++ encs b := by unfold encs; simp
end Go.Proofs.YtainmipdnjcbkaaGreatDoor
namespace Go.Proofs.YtainmipdnjcbkaaGreatDoor
set_option linter.unusedVariables false
set_option linter.unusedSimpArgs false
open Go Go.RowKit
set_option maxRecDepth 100000
set_option linter.unusedSimpArgs false
def epN : List UInt8 := [101, 112, 111, 99, 104]
def mkD (e : Option (List UInt8)) (s t : List UInt8) : List AFile :=
  match e with
  | none => [⟨logN, s, t⟩]
  | some x => [⟨epN, x, []⟩, ⟨logN, s, t⟩]
def okD (e : Option (List UInt8)) (s t : List UInt8) : Prop := (∀ x, e = some x → x.length ≤ 1048576) ∧ s.length + t.length ≤ 1048576
theorem ep_named : namedP epN = true := by decide
theorem epN_lt : epN < logN := by decide
theorem mk_good {e : Option (List UInt8)} {s t : List UInt8} (h : okD e s t) : goodD (mkD e s t) = true := by
  rw [goodD_iff]
  obtain ⟨h1, h2⟩ := h
  cases e with
  | none =>
    refine ⟨by show 1 ≤ 16; decide, fun k hk => ?_⟩
    have hk0 : k = 0 := by have : k < 1 := hk; omega
    subst hk0
    exact ⟨⟨logN_named, h2⟩, fun h => absurd h (by decide)⟩
  | some x =>
    have h3 := h1 x rfl
    refine ⟨by show 2 ≤ 16; decide, fun k hk => ?_⟩
    have hk0 : k = 0 ∨ k = 1 := by have : k < 2 := hk; omega
    rcases hk0 with rfl | rfl
    · exact ⟨⟨ep_named, by show x.length + 0 ≤ _; omega⟩, fun h => absurd h (by decide)⟩
    · exact ⟨⟨logN_named, h2⟩, fun _ => epN_lt⟩
end Go.Proofs.YtainmipdnjcbkaaGreatDoor
namespace Go.Proofs.YtainmipdnjcbkaaGreatDoor
set_option linter.unusedVariables false
set_option linter.unusedSimpArgs false
open Go Go.RowKit
set_option maxRecDepth 100000
set_option linter.unusedSimpArgs false
end Go.Proofs.YtainmipdnjcbkaaGreatDoor
namespace Go.Proofs.YtainmipdnjcbkaaGreatDoor
set_option linter.unusedVariables false
set_option linter.unusedSimpArgs false
open Go Go.RowKit
set_option maxRecDepth 100000
set_option linter.unusedSimpArgs false
def placeI (l : List Int) (key : Int) : Nat := l.findIdx fun x => !decide (x < key)
end Go.Proofs.YtainmipdnjcbkaaGreatDoor
namespace Go.Proofs.YtainmipdnjcbkaaGreatDoor
set_option linter.unusedVariables false
set_option linter.unusedSimpArgs false
open Go Go.RowKit
set_option maxRecDepth 100000
set_option linter.unusedSimpArgs false
def joinL : List (List UInt8) → List UInt8
  | [] => []
  | p :: ps => 47 :: (p ++ joinL ps)
def pathOf (ps : List (List UInt8)) : List UInt8 := if ps = [] then [47] else joinL ps
def stepsOf (s : List UInt8) : List (List UInt8) := if s = [47] then [] else splitB (s.drop 1)
def splitP (s : List UInt8) : (List UInt8 × List UInt8) × Int := if goodP s = true then (if stepsOf s = [] then (([], []), 7) else ((pathOf ((stepsOf s).take ((stepsOf s).length - 1)), (stepsOf s).getD ((stepsOf s).length - 1) []), 0)) else (([], []), 2)
end Go.Proofs.YtainmipdnjcbkaaGreatDoor
namespace Go.Proofs.YtainmipdnjcbkaaGreatDoor
set_option linter.unusedVariables false
set_option linter.unusedSimpArgs false
open Go Go.RowKit
set_option maxRecDepth 100000
set_option linter.unusedSimpArgs false
def pathsT (t : ATree) : List (List UInt8) := t.nodes.map ANode.path
def nd (t : ATree) (k : Nat) : ANode := t.nodes.getD k default
def sessOk (l : List Int) (k : Nat) : Prop := 1 ≤ l.getD k default ∧ l.getD k default ≤ 2147483647 ∧ (0 < k → l.getD (k - 1) default < l.getD k default)
instance (l : List Int) (k : Nat) : Decidable (sessOk l k) := by unfold sessOk; infer_instance
def nodeA (t : ATree) (k : Nat) : Prop := goodP (nd t k).path = true ∧ (nd t k).data.length ≤ 256 ∧ (0 < k → (nd t (k - 1)).path < (nd t k).path)
instance (t : ATree) (k : Nat) : Decidable (nodeA t k) := by unfold nodeA; infer_instance
def statB (t : ATree) (s : AStat) : Prop := 0 ≤ s.version ∧ s.version ≤ 2147483647 ∧ 0 ≤ s.cversion ∧ s.cversion ≤ 2147483647 ∧ 0 ≤ s.czxid ∧ s.czxid ≤ s.mzxid ∧ s.czxid ≤ s.pzxid ∧ s.mzxid ≤ t.zxid ∧ s.pzxid ≤ t.zxid
instance (t : ATree) (s : AStat) : Decidable (statB t s) := by unfold statB; infer_instance
def ownB (t : ATree) (s : AStat) : Prop := s.owner ≠ 0 → s.owner ∈ t.sessions ∧ s.kids = 0
instance (t : ATree) (s : AStat) : Decidable (ownB t s) := by unfold ownB; infer_instance
def dirT (t : ATree) (k : Nat) : List UInt8 := (splitP (nd t k).path).1.1
def kidsN (t : ATree) (p : List UInt8) (n : Nat) : Nat := ((List.range n).filter fun j => decide (dirT t j = p)).length
def upB (t : ATree) (k : Nat) : Prop := k = 0 ∨ dirT t k ∈ pathsT t
instance (t : ATree) (k : Nat) : Decidable (upB t k) := by unfold upB; infer_instance
def headOk (t : ATree) : Prop := 1 ≤ t.nodes.length ∧ t.nodes.length ≤ 400 ∧ (nd t 0).path = [47] ∧ (nd t 0).stat.owner = 0 ∧ goodZ t.zxid
instance (t : ATree) : Decidable (headOk t) := by unfold headOk; infer_instance
def goodTr (t : ATree) : Bool := decide (headOk t ∧ (∀ k, k < t.sessions.length → sessOk t.sessions k) ∧ (∀ k, k < t.nodes.length → nodeA t k) ∧
  ∀ k, k < t.nodes.length → statB t (nd t k).stat ∧ ownB t (nd t k).stat ∧ upB t k ∧ (nd t k).stat.kids = kidsN t (nd t k).path t.nodes.length)
def getT (t : ATree) (key : List UInt8) : ANode × Int := if key ∈ pathsT t then (nd t (place (pathsT t) key), 0) else (default, 7)
def t00 : ATree := ⟨0, [⟨[47], [], ⟨0, 0, 0, 0, 0, 0, 0⟩⟩], []⟩
theorem new_c : acall Tryz.prog [] 46 [] (ret t00.av) := by
  refine zI Tryz.func46 rfl (by kernel_rfl) (by simp [Tryz.ntmps46]) ?_; simp only [Tryz.ntmps46, Tryz.results46, go_sem]
  (repeat' first
| (with_reducible refine AR.f ?_)
| refine zb (by decide) ?_
| (with_reducible refine AWP.cond rfl ?_ ?_ <;> intro hc <;> (try simp only [hcs, beq_iff_eq, ge_iff_le, gt_iff_lt] at hc))
| ((first | ((first | (with_reducible first | refine zR ?_ | refine zQ (by decide +kernel) ?_ | refine zD (by decide +kernel) ?_ | refine zE (by decide +kernel) ?_ | refine zG (by decide +kernel) ?_)); intro K hK) | ((first | (with_reducible refine zu ?_ ?_ <;> intro hg) | with_reducible intro hg) <;> (first | (exfalso; simp at hg; done) | (have hg' := hg; (try simp only [hcs, beq_iff_eq, ge_iff_le, gt_iff_lt] at hg'); (try simp only [hg]))))) <;> (try simp (disch := omega) only [go_sem, wn]) <;> (repeat' with_reducible refine And.intro ?_ ?_) <;> (try (with_reducible refine hK _ ?_; clear hK K)))
| omega)
  (refine zF rfl ?_ ?_ ?_ ?_; (iterate 3 (focus ((try simp (disch := omega) only [go_sem, wn, t00]) <;> (try omega) <;> fail))); (try simp (disch := omega) only [go_sem, wn, t00, I, B, S, zj]))
end Go.Proofs.YtainmipdnjcbkaaGreatDoor
namespace Go.Proofs.YtainmipdnjcbkaaGreatDoor
set_option linter.unusedVariables false
set_option linter.unusedSimpArgs false
open Go Go.RowKit
set_option maxRecDepth 100000
set_option linter.unusedSimpArgs false
structure TLoop (t : ATree) (i : Nat) (m : List (List UInt8 × Int)) : Prop where
  le : i ≤ t.nodes.length
  ok : ∀ j, j < i → nodeA t j ∧ statB t (nd t j).stat ∧ ownB t (nd t j).stat ∧ upB t j
  cnt : ∀ p, p ≠ [] → mval m p = (kidsN t p i : Nat)
end Go.Proofs.YtainmipdnjcbkaaGreatDoor
namespace Go.Proofs.YtainmipdnjcbkaaGreatDoor
set_option linter.unusedVariables false
set_option linter.unusedSimpArgs false
open Go Go.RowKit
set_option maxRecDepth 100000
set_option linter.unusedSimpArgs false
end Go.Proofs.YtainmipdnjcbkaaGreatDoor
namespace Go.Proofs.YtainmipdnjcbkaaGreatDoor
set_option linter.unusedVariables false
set_option linter.unusedSimpArgs false
open Go Go.RowKit
set_option maxRecDepth 100000
set_option linter.unusedSimpArgs false
theorem copyT_c (t : ATree) (hw : t.wf) : acall Tryz.prog [] 83 [t.av] (ret t.av) := by
  obtain ⟨hz, ⟨hn, hnw⟩, ⟨hs, hsw⟩⟩ := hw
  refine zI Tryz.func83 rfl (by kernel_rfl) (by simp [Tryz.ntmps83]) ?_; simp only [Tryz.ntmps83, Tryz.results83, go_sem]
  (repeat' first
| (with_reducible refine AR.f ?_)
| refine zb (by decide) ?_
| (with_reducible refine AWP.cond rfl ?_ ?_ <;> intro hc <;> (try simp only [hcs, beq_iff_eq, ge_iff_le, gt_iff_lt] at hc))
| ((first | ((first | (with_reducible first | refine zR ?_ | refine zQ (by decide +kernel) ?_ | refine zD (by decide +kernel) ?_ | refine zE (by decide +kernel) ?_ | refine zG (by decide +kernel) ?_)); intro K hK) | ((first | (with_reducible refine zu ?_ ?_ <;> intro hg) | with_reducible intro hg) <;> (first | (exfalso; simp at hg; done) | (have hg' := hg; (try simp only [hcs, beq_iff_eq, ge_iff_le, gt_iff_lt] at hg'); (try simp only [hg]))))) <;> (try simp (disch := omega) only [go_sem, wn]) <;> (repeat' with_reducible refine And.intro ?_ ?_) <;> (try (with_reducible refine hK _ ?_; clear hK K)))
| omega)
  all_goals (refine zF rfl ?_ ?_ ?_ ?_; (iterate 3 (focus ((try simp (disch := omega) only [go_sem, wn]) <;> (try omega) <;> fail))); (try simp (disch := omega) only [go_sem, wn, I, B, S, zj]))
theorem sameTree_c (a b : ATree) (ha : a.wf) (hb : b.wf) : acall Tryz.prog [] 73 [a.av, b.av] (ret (B (decide (a = b)))) := by
  obtain ⟨hz, ⟨hn, hnw⟩, ⟨hs, hsw⟩⟩ := ha
  obtain ⟨kz, ⟨kn, knw⟩, ⟨ks, ksw⟩⟩ := hb
  refine zI Tryz.func73 rfl (by kernel_rfl) (by simp [Tryz.ntmps73]) ?_; simp only [Tryz.ntmps73, Tryz.results73, go_sem]
  (repeat' first
| (with_reducible refine AR.f ?_)
| refine zb (by decide) ?_
| (with_reducible refine AWP.cond rfl ?_ ?_ <;> intro hc <;> (try simp only [hcs, beq_iff_eq, ge_iff_le, gt_iff_lt] at hc))
| ((first | ((first | (with_reducible first | refine zR ?_ | refine zQ (by decide +kernel) ?_ | refine zD (by decide +kernel) ?_ | refine zE (by decide +kernel) ?_ | refine zG (by decide +kernel) ?_)); intro K hK) | ((first | (with_reducible refine zu ?_ ?_ <;> intro hg) | with_reducible intro hg) <;> (first | (exfalso; simp at hg; done) | (have hg' := hg; (try simp only [hcs, beq_iff_eq, ge_iff_le, gt_iff_lt] at hg'); (try simp only [hg]))))) <;> (try simp (disch := omega) only [go_sem, wn]) <;> (repeat' with_reducible refine And.intro ?_ ?_) <;> (try (with_reducible refine hK _ ?_; clear hK K)))
| omega)
  · (refine zF rfl ?_ ?_ ?_ ?_; (iterate 3 (focus ((try simp (disch := omega) only [go_sem, wn]) <;> (try omega) <;> fail))); (try simp (disch := omega) only [go_sem, wn, I, B, S, zj]))
    symm; rw [decide_eq_false_iff_not]; rintro rfl
    simp at hc
  obtain ⟨⟨e1, e2⟩, e3⟩ := hc
  refine AWP.loopS (ι := Nat) (fun k => k ≤ a.nodes.length ∧ ∀ j, j < k → a.nodes.getD j default = b.nodes.getD j default) (fun k => a.nodes.length - k) [2, 3, 32] (fun k => [(33, I k)]) 0 ?_ (by simp (disch := omega) only [go_sem, wn, true_and]) ?_
  · exact ⟨by omega, fun j hj => by omega⟩
  intro k ⟨hk, hk2⟩
  simp only [go_sem]
  (repeat' first
| (with_reducible refine AR.f ?_)
| refine zb (by decide) ?_
| (with_reducible refine AWP.cond rfl ?_ ?_ <;> intro hc <;> (try simp only [hcs, beq_iff_eq, ge_iff_le, gt_iff_lt] at hc))
| ((first | ((first | (with_reducible first | refine zR ?_ | refine zQ (by decide +kernel) ?_ | refine zD (by decide +kernel) ?_ | refine zE (by decide +kernel) ?_ | refine zG (by decide +kernel) ?_)); intro K hK) | ((first | (with_reducible refine zu ?_ ?_ <;> intro hg) | with_reducible intro hg) <;> (first | (exfalso; simp at hg; done) | (have hg' := hg; (try simp only [hcs, beq_iff_eq, ge_iff_le, gt_iff_lt] at hg'); (try simp only [hg]))))) <;> (try simp (disch := omega) only [go_sem, wn]) <;> (repeat' with_reducible refine And.intro ?_ ?_) <;> (try (with_reducible refine hK _ ?_; clear hK K)))
| omega)
  · (refine zF rfl ?_ ?_ ?_ ?_; (iterate 3 (focus ((try simp (disch := omega) only [go_sem, wn]) <;> (try omega) <;> fail))); (try simp (disch := omega) only [go_sem, wn, I, B, S, zj]))
    symm; rw [decide_eq_false_iff_not]; rintro rfl
    simp at hc
  · refine ⟨k + 1, ⟨by omega, fun j hj => ?_⟩, by omega, ?_⟩
    · by_cases e : j = k
      · subst e; exact (ANode.ext_iff _ _).2 hc
      · exact hk2 j (by omega)
    (refine SImp.same ?_; simp (disch := omega) only [go_sem, wn, Int.natCast_add])
  have hnodes : a.nodes = b.nodes := eq_of_getD (by omega) fun j hj => hk2 j (by omega)
  clear hk hk2 hc
  refine AWP.loopS (ι := Nat) (fun j => j ≤ a.sessions.length ∧ ∀ i, i < j → a.sessions.getD i default = b.sessions.getD i default) (fun j => a.sessions.length - j) [2, 3, 50] (fun j => [(51, I j)]) 0 ?_ (by simp (disch := omega) only [go_sem, wn, true_and]) ?_
  · exact ⟨by omega, fun j hj => by omega⟩
  intro j ⟨hj, hj2⟩
  simp only [go_sem]
  (repeat' first
| (with_reducible refine AR.f ?_)
| refine zb (by decide) ?_
| (with_reducible refine AWP.cond rfl ?_ ?_ <;> intro hc <;> (try simp only [hcs, beq_iff_eq, ge_iff_le, gt_iff_lt] at hc))
| ((first | ((first | (with_reducible first | refine zR ?_ | refine zQ (by decide +kernel) ?_ | refine zD (by decide +kernel) ?_ | refine zE (by decide +kernel) ?_ | refine zG (by decide +kernel) ?_)); intro K hK) | ((first | (with_reducible refine zu ?_ ?_ <;> intro hg) | with_reducible intro hg) <;> (first | (exfalso; simp at hg; done) | (have hg' := hg; (try simp only [hcs, beq_iff_eq, ge_iff_le, gt_iff_lt] at hg'); (try simp only [hg]))))) <;> (try simp (disch := omega) only [go_sem, wn]) <;> (repeat' with_reducible refine And.intro ?_ ?_) <;> (try (with_reducible refine hK _ ?_; clear hK K)))
| omega)
  · (refine zF rfl ?_ ?_ ?_ ?_; (iterate 3 (focus ((try simp (disch := omega) only [go_sem, wn]) <;> (try omega) <;> fail))); (try simp (disch := omega) only [go_sem, wn, I, B, S, zj]))
    symm; rw [decide_eq_false_iff_not]; rintro rfl
    simp at hc
  · refine ⟨j + 1, ⟨by omega, fun i hi => ?_⟩, by omega, ?_⟩
    · by_cases e : i = j
      · subst e; exact hc
      · exact hj2 i (by omega)
    (refine SImp.same ?_; simp (disch := omega) only [go_sem, wn, Int.natCast_add])
  · (refine zF rfl ?_ ?_ ?_ ?_; (iterate 3 (focus ((try simp (disch := omega) only [go_sem, wn]) <;> (try omega) <;> fail))); (try simp (disch := omega) only [go_sem, wn, I, B, S, zj]))
    symm; rw [decide_eq_true_eq, ATree.ext_iff]
    exact ⟨e1, hnodes, eq_of_getD (by omega) fun i hi => hj2 i (by omega)⟩
end Go.Proofs.YtainmipdnjcbkaaGreatDoor
namespace Go.Proofs.YtainmipdnjcbkaaGreatDoor
set_option linter.unusedVariables false
set_option linter.unusedSimpArgs false
open Go Go.RowKit
set_option maxRecDepth 100000
set_option linter.unusedSimpArgs false
def takeS (s : AServer) (x : ATxn) (safe : Bool) : AServer × Int :=
  if x.zxid ≤ lastZ s.peer.log then (default, 13) else if (appendD s.disk.files x safe).2 = 0 then (⟨s.up, (appendD s.disk.files x safe).1, ⟨s.peer.id, s.peer.epoch, s.peer.log ++ [x], s.peer.done⟩, s.tree, s.watches⟩, 0) else (default, (appendD s.disk.files x safe).2)
theorem txn_snoc (l : List ATxn) (x : ATxn) : l.map ATxn.row ++ [[.int .i64 x.zxid, .int .i64 x.op, .int .i64 x.session, .str x.path, .str x.data, .int .i64 x.version, .int .i64 x.owner]] = (l ++ [x]).map ATxn.row := by rw [List.map_append]; rfl
theorem txn_take (l : List ATxn) (x : ATxn) : List.take (l.length + 1) ((l ++ [x]).map ATxn.row) = (l ++ [x]).map ATxn.row := List.take_of_length_le (by simp)
theorem copyServer_c (s : AServer) (hw : s.wf) : acall Tryz.prog [] 26 [s.av] (ret s.av) := by
  obtain ⟨_, h1, h2, h3, h4⟩ := hw
  have hl1 := h2.2.2.1.1
  have hl2 := h4.1
  refine zI Tryz.func26 rfl (by kernel_rfl) (by simp [Tryz.ntmps26]) ?_; simp only [Tryz.ntmps26, Tryz.results26, go_sem]
  (repeat' first
| (with_reducible refine AR.f ?_)
| refine zb (by decide) ?_
| (with_reducible refine AWP.cond rfl ?_ ?_ <;> intro hc <;> (try simp only [hcs, beq_iff_eq, ge_iff_le, gt_iff_lt] at hc))
| ((first | ((first | (with_reducible first | refine zR ?_ | refine zQ (by decide +kernel) ?_ | refine zD (by decide +kernel) ?_ | refine zE (by decide +kernel) ?_ | refine zG (by decide +kernel) ?_)); intro K hK) | ((first | refine zA (ref_copied_d_c s.disk h1.1) ?_ ?_ ?_ ?_ ?_ | refine zA (copyT_c s.tree h3) ?_ ?_ ?_ ?_ ?_); (focus exact rfl); (focus exact rfl); iterate 2 (focus ((try simp (disch := omega) only [go_sem, wn]) <;> (try omega) <;> fail))) | ((first | refine zN (ref_copied_d_c s.disk h1.1) rfl ?_ ?_ | refine zN (copyT_c s.tree h3) rfl ?_ ?_ | refine zX (ref_copied_d_c s.disk h1.1) rfl ?_ ?_ | refine zY (ref_copied_d_c s.disk h1.1) ?_ ?_ | refine zX (copyT_c s.tree h3) rfl ?_ ?_ | refine zY (copyT_c s.tree h3) ?_ ?_); (focus ((try simp (disch := omega) only [go_sem, wn]) <;> (try omega) <;> fail))) | ((first | (with_reducible refine zu ?_ ?_ <;> intro hg) | with_reducible intro hg) <;> (first | (exfalso; simp at hg; done) | (have hg' := hg; (try simp only [hcs, beq_iff_eq, ge_iff_le, gt_iff_lt] at hg'); (try simp only [hg]))))) <;> (try simp (disch := omega) only [go_sem, wn]) <;> (repeat' with_reducible refine And.intro ?_ ?_) <;> (try (with_reducible refine hK _ ?_; clear hK K)))
| omega)
  all_goals (refine zF rfl ?_ ?_ ?_ ?_; (iterate 3 (focus ((try simp (disch := omega) only [go_sem, wn]) <;> (try omega) <;> fail))); (try simp (disch := omega) only [go_sem, wn, I, B, S, zj]))
theorem copyServerO_c (s : AServer) (hw : s.wf) : acall Tryz.prog [] 26 [s.av] (outs (.agg [.d (.bool s.up), .d (.sl 3 (s.disk.files.map AFile.row)), I s.peer.id, I s.peer.epoch, .osl 0 7 0 s.peer.log.length, I s.peer.done, .d (.int .i64 s.tree.zxid), .d (.sl 9 (s.tree.nodes.map ANode.row)), .d (.sl 1 (s.tree.sessions.map irow)), .osl 1 3 0 s.watches.length]) [.rows 7 (s.peer.log.map ATxn.row), .rows 3 (s.watches.map AWatch.row)]) := by
  obtain ⟨_, h1, h2, h3, h4⟩ := hw
  have hl1 := h2.2.2.1.1
  have hl2 := h4.1
  refine zI Tryz.func26 rfl (by kernel_rfl) (by simp [Tryz.ntmps26]) ?_; simp only [Tryz.ntmps26, Tryz.results26, go_sem]
  (repeat' first
| (with_reducible refine AR.f ?_)
| refine zb (by decide) ?_
| (with_reducible refine AWP.cond rfl ?_ ?_ <;> intro hc <;> (try simp only [hcs, beq_iff_eq, ge_iff_le, gt_iff_lt] at hc))
| ((first | ((first | (with_reducible first | refine zR ?_ | refine zQ (by decide +kernel) ?_ | refine zD (by decide +kernel) ?_ | refine zE (by decide +kernel) ?_ | refine zG (by decide +kernel) ?_)); intro K hK) | ((first | refine zA (ref_copied_d_c s.disk h1.1) ?_ ?_ ?_ ?_ ?_ | refine zA (copyT_c s.tree h3) ?_ ?_ ?_ ?_ ?_); (focus exact rfl); (focus exact rfl); iterate 2 (focus ((try simp (disch := omega) only [go_sem, wn]) <;> (try omega) <;> fail))) | ((first | refine zN (ref_copied_d_c s.disk h1.1) rfl ?_ ?_ | refine zN (copyT_c s.tree h3) rfl ?_ ?_ | refine zX (ref_copied_d_c s.disk h1.1) rfl ?_ ?_ | refine zY (ref_copied_d_c s.disk h1.1) ?_ ?_ | refine zX (copyT_c s.tree h3) rfl ?_ ?_ | refine zY (copyT_c s.tree h3) ?_ ?_); (focus ((try simp (disch := omega) only [go_sem, wn]) <;> (try omega) <;> fail))) | ((first | (with_reducible refine zu ?_ ?_ <;> intro hg) | with_reducible intro hg) <;> (first | (exfalso; simp at hg; done) | (have hg' := hg; (try simp only [hcs, beq_iff_eq, ge_iff_le, gt_iff_lt] at hg'); (try simp only [hg]))))) <;> (try simp (disch := omega) only [go_sem, wn]) <;> (repeat' with_reducible refine And.intro ?_ ?_) <;> (try (with_reducible refine hK _ ?_; clear hK K)))
| omega)
  all_goals (refine zO ?_ ?_; (focus ((try simp (disch := omega) only [go_sem, wn]) <;> fail)); simp (disch := omega) only [go_sem, wn]; refine AOut.of_simp ?_ (AOut.same ⟨rfl, rfl⟩); refine zV [2, 3] rfl rfl rfl rfl ?_ ?_ <;> simp (disch := omega) only [go_sem, wn, true_or, or_true])
set_option maxHeartbeats 8000000 in
theorem take_c (s : AServer) (x : ATxn) (safe : Bool) (hw : s.wf) (hx : x.wf) (hl : s.peer.log.length ≤ 1048576) : acall Tryz.prog [] 82 [s.av, x.av, B safe] (ret (.tup [(takeS s x safe).1.av, I (takeS s x safe).2])) := by
  obtain ⟨_, h1, h2, h3, h4⟩ := hw
  have hlast := last_c s.peer.log h2.2.2.1.1
  have ha := append_c s.disk x safe h1.1 h1.2 hx.2.2.2.1 hx.2.2.2.2.1
  unfold takeS
  generalize appendD s.disk.files x safe = q at ha ⊢
  obtain ⟨d2, e⟩ := q
  simp only at ha ⊢
  refine zI Tryz.func82 rfl (by kernel_rfl) (by simp [Tryz.ntmps82]) ?_; simp only [Tryz.ntmps82, Tryz.results82, go_sem]
  (repeat' first
| (with_reducible refine AR.f ?_)
| refine zb (by decide) ?_
| (with_reducible refine AWP.cond rfl ?_ ?_ <;> intro hc <;> (try simp only [hcs, beq_iff_eq, ge_iff_le, gt_iff_lt] at hc))
| ((first | ((first | refine zP ((Plan.takes [0, 2, 3, 4] (.fork 1 (Plan.takes [5, 6] .done) 5 (Plan.takes [1, 6] .done)))) (by decide +kernel) ?_ | refine zP ((Plan.takes [0, 1, 6, 7] (.forks 2 (Plan.takes [3, 4] (.forks 5 (.fork 8 (.fork 9 (Plan.takes [10, 11, 12, 13, 14, 15] .done) 10 (.fork 9 (Plan.takes [11, 12, 13, 14, 15] .done) 11 (Plan.takes [9, 12, 13, 14, 15] .done))) 10 (.fork 8 (.fork 9 (Plan.takes [11, 12, 13, 14, 15] .done) 11 (Plan.takes [9, 12, 13, 14, 15] .done)) 11 (Plan.takes [8, 9, 12, 13, 14, 15] .done))) 8 (.fork 5 (.fork 9 (Plan.takes [10, 11, 12, 13, 14, 15] .done) 10 (.fork 9 (Plan.takes [11, 12, 13, 14, 15] .done) 11 (Plan.takes [9, 12, 13, 14, 15] .done))) 10 (.fork 5 (.fork 9 (Plan.takes [11, 12, 13, 14, 15] .done) 11 (Plan.takes [9, 12, 13, 14, 15] .done)) 11 (Plan.takes [5, 9, 12, 13, 14, 15] .done))) 10 (.forks 5 (.fork 8 (.fork 9 (Plan.takes [11, 12, 13, 14, 15] .done) 11 (Plan.takes [9, 12, 13, 14, 15] .done)) 11 (Plan.takes [8, 9, 12, 13, 14, 15] .done)) 8 (.fork 5 (.fork 9 (Plan.takes [11, 12, 13, 14, 15] .done) 11 (Plan.takes [9, 12, 13, 14, 15] .done)) 11 (Plan.takes [5, 9, 12, 13, 14, 15] .done)) 11 (.fork 5 (Plan.takes [8, 9, 12, 13, 14, 15] .done) 8 (Plan.takes [5, 9, 12, 13, 14, 15] .done))))) 8 (.fork 2 (Plan.takes [3, 4] (.fork 5 (.fork 9 (Plan.takes [10, 11, 12, 13, 14, 15] .done) 10 (.fork 9 (Plan.takes [11, 12, 13, 14, 15] .done) 11 (Plan.takes [9, 12, 13, 14, 15] .done))) 10 (.fork 5 (.fork 9 (Plan.takes [11, 12, 13, 14, 15] .done) 11 (Plan.takes [9, 12, 13, 14, 15] .done)) 11 (Plan.takes [5, 9, 12, 13, 14, 15] .done)))) 10 (.fork 2 (Plan.takes [3, 4] (.fork 5 (.fork 9 (Plan.takes [11, 12, 13, 14, 15] .done) 11 (Plan.takes [9, 12, 13, 14, 15] .done)) 11 (Plan.takes [5, 9, 12, 13, 14, 15] .done))) 11 (Plan.takes [2, 3, 4, 5, 9, 12, 13, 14, 15] .done))) 10 (.forks 2 (Plan.takes [3, 4] (.forks 5 (.fork 8 (.fork 9 (Plan.takes [11, 12, 13, 14, 15] .done) 11 (Plan.takes [9, 12, 13, 14, 15] .done)) 11 (Plan.takes [8, 9, 12, 13, 14, 15] .done)) 8 (.fork 5 (.fork 9 (Plan.takes [11, 12, 13, 14, 15] .done) 11 (Plan.takes [9, 12, 13, 14, 15] .done)) 11 (Plan.takes [5, 9, 12, 13, 14, 15] .done)) 11 (.fork 5 (Plan.takes [8, 9, 12, 13, 14, 15] .done) 8 (Plan.takes [5, 9, 12, 13, 14, 15] .done)))) 8 (.fork 2 (Plan.takes [3, 4] (.fork 5 (.fork 9 (Plan.takes [11, 12, 13, 14, 15] .done) 11 (Plan.takes [9, 12, 13, 14, 15] .done)) 11 (Plan.takes [5, 9, 12, 13, 14, 15] .done))) 11 (Plan.takes [2, 3, 4, 5, 9, 12, 13, 14, 15] .done)) 11 (Plan.takes [2, 3, 4] (.fork 5 (Plan.takes [8, 9, 12, 13, 14, 15] .done) 8 (Plan.takes [5, 9, 12, 13, 14, 15] .done))))))) (by decide +kernel) ?_ | (with_reducible first | refine zR ?_ | refine zQ (by decide +kernel) ?_ | refine zD (by decide +kernel) ?_ | refine zE (by decide +kernel) ?_ | refine zG (by decide +kernel) ?_)); intro K hK) | ((first | refine zA hlast ?_ ?_ ?_ ?_ ?_ | refine zA ha ?_ ?_ ?_ ?_ ?_); (focus exact rfl); (focus exact rfl); iterate 2 (focus ((try simp (disch := omega) only [go_sem, wn, txn_snoc, txn_take]) <;> (try omega) <;> fail))) | ((first | refine zN ha rfl ?_ ?_ | refine zX hlast rfl ?_ ?_ | refine zX ha rfl ?_ ?_ | refine zY ha ?_ ?_); (focus ((try simp (disch := omega) only [go_sem, wn, txn_snoc, txn_take]) <;> (try omega) <;> fail))) | ((first | (with_reducible refine zu ?_ ?_ <;> intro hg) | with_reducible intro hg) <;> (first | (exfalso; simp at hg; done) | (have hg' := hg; (try simp only [hcs, beq_iff_eq, ge_iff_le, gt_iff_lt] at hg'); (try simp only [hg]))))) <;> (try simp (disch := omega) only [go_sem, wn, txn_snoc, txn_take]) <;> (repeat' with_reducible refine And.intro ?_ ?_) <;> (try (with_reducible refine hK _ ?_; clear hK K)))
| omega)
  all_goals first
    | (rw [if_pos (by omega)]; (refine zF rfl ?_ ?_ ?_ ?_; (iterate 3 (focus ((try simp (disch := omega) only [go_sem, wn, default]) <;> (try omega) <;> fail))); (try simp (disch := omega) only [go_sem, wn, default, I, B, S, zj])); done)
    | (rw [if_neg (by omega), if_neg (by omega)]; (refine zF rfl ?_ ?_ ?_ ?_; (iterate 3 (focus ((try simp (disch := omega) only [go_sem, wn, default]) <;> (try omega) <;> fail))); (try simp (disch := omega) only [go_sem, wn, default, I, B, S, zj])); done)
    | (rw [if_neg (by omega), if_pos (by omega)]; (refine zF rfl ?_ ?_ ?_ ?_; (iterate 3 (focus ((try simp (disch := omega) only [go_sem, wn, I, S, txn_snoc, txn_take]) <;> (try omega) <;> fail))); (try simp (disch := omega) only [go_sem, wn, I, S, txn_snoc, txn_take, I, B, S, zj])); done)
set_option maxHeartbeats 8000000 in
theorem ref_take_c (s : AServer) (x : ATxn) (safe : Bool) (hw : s.wf) (hx : x.wf) (hp : x.path.length ≤ 1048576) (hl : s.peer.log.length ≤ 1048576) : acall Tryz.prog [] 86 [s.av, x.av, B safe] (ret (.tup [(takeS s x safe).1.av, I (takeS s x safe).2])) := by
  have hcp := copyServerO_c s hw
  obtain ⟨_, h1, h2, h3, h4⟩ := hw
  have hlast := ref_last_c s.peer.log h2.2.2.1.1
  have ha := ref_append_c s.disk x safe h1.1 h1.2 hx.1 hp hx.2.2.2.2.1
  unfold takeS
  generalize appendD s.disk.files x safe = q at ha ⊢
  obtain ⟨d2, e⟩ := q
  simp only at ha ⊢
  refine zI Tryz.func86 rfl (by kernel_rfl) (by simp [Tryz.ntmps86]) ?_; simp only [Tryz.ntmps86, Tryz.results86, go_sem]
  (repeat' first
| (with_reducible refine AR.f ?_)
| refine zb (by decide) ?_
| (with_reducible refine AWP.cond rfl ?_ ?_ <;> intro hc <;> (try simp only [hcs, beq_iff_eq, ge_iff_le, gt_iff_lt] at hc))
| ((first | ((first | refine zP ((Plan.takes [0, 2, 3, 4] (.fork 1 (Plan.takes [5, 6] .done) 5 (Plan.takes [1, 6] .done)))) (by decide +kernel) ?_ | (with_reducible first | refine zR ?_ | refine zQ (by decide +kernel) ?_ | refine zD (by decide +kernel) ?_ | refine zE (by decide +kernel) ?_ | refine zG (by decide +kernel) ?_)); intro K hK) | ((first | refine zA hlast ?_ ?_ ?_ ?_ ?_ | refine zA ha ?_ ?_ ?_ ?_ ?_); (focus exact rfl); (focus exact rfl); iterate 2 (focus ((try simp (disch := omega) only [go_sem, wn, txn_snoc, txn_take]) <;> (try omega) <;> fail))) | ((first | refine zN ha rfl ?_ ?_ | refine zN hcp rfl ?_ ?_ | refine zX hlast rfl ?_ ?_ | refine zX ha rfl ?_ ?_ | refine zY ha ?_ ?_ | refine zY hcp ?_ ?_); (focus ((try simp (disch := omega) only [go_sem, wn, txn_snoc, txn_take]) <;> (try omega) <;> fail))) | ((first | (with_reducible refine zu ?_ ?_ <;> intro hg) | with_reducible intro hg) <;> (first | (exfalso; simp at hg; done) | (have hg' := hg; (try simp only [hcs, beq_iff_eq, ge_iff_le, gt_iff_lt] at hg'); (try simp only [hg]))))) <;> (try simp (disch := omega) only [go_sem, wn, txn_snoc, txn_take]) <;> (repeat' with_reducible refine And.intro ?_ ?_) <;> (try (with_reducible refine hK _ ?_; clear hK K)))
| omega)
  all_goals first
    | (rw [if_pos (by omega)]; (refine zF rfl ?_ ?_ ?_ ?_; (iterate 3 (focus ((try simp (disch := omega) only [go_sem, wn, default]) <;> (try omega) <;> fail))); (try simp (disch := omega) only [go_sem, wn, default, I, B, S, zj])); done)
    | (rw [if_neg (by omega), if_neg (by omega)]; (refine zF rfl ?_ ?_ ?_ ?_; (iterate 3 (focus ((try simp (disch := omega) only [go_sem, wn, default]) <;> (try omega) <;> fail))); (try simp (disch := omega) only [go_sem, wn, default, I, B, S, zj])); done)
    | (rw [if_neg (by omega), if_pos (by omega)]; (refine zF rfl ?_ ?_ ?_ ?_; (iterate 3 (focus ((try simp (disch := omega) only [go_sem, wn, I, S, txn_snoc, txn_take]) <;> (try omega) <;> fail))); (try simp (disch := omega) only [go_sem, wn, I, S, txn_snoc, txn_take, I, B, S, zj])); done)
theorem boots_c : acall Tryz.prog [] 24 [] (ret (B true)) := by
  have hr := recover_c ⟨[]⟩ (by decide) (fun f hf => by cases hf)
  have hd := read_c ⟨[]⟩ [101, 112, 111, 99, 104] (by decide) (fun f hf => by cases hf)
  have e1 : recoverD [] = ([], ⟨[⟨[108, 111, 103], [], []⟩]⟩, 0) := by decide +kernel
  have e2 : readD [] [101, 112, 111, 99, 104] = ([], 7) := by decide +kernel
  simp only [e1] at hr
  simp only [e2] at hd
  refine zI Tryz.func24 rfl (by kernel_rfl) (by simp [Tryz.ntmps24]) ?_; simp only [Tryz.ntmps24, Tryz.results24, go_sem]
  (repeat' first
| (with_reducible refine AR.f ?_)
| refine zb (by decide) ?_
| (with_reducible refine AWP.cond rfl ?_ ?_ <;> intro hc <;> (try simp only [hcs, beq_iff_eq, ge_iff_le, gt_iff_lt] at hc))
| (refine zh fun Kk hKk => (zi tabOk Tryz.func15 rfl (by kernel_rfl) (by simp [Tryz.ntmps15]) ?_); simp only [Tryz.ntmps15, Tryz.results15, List.toList_toArray, apar, List.length_nil, List.length_cons, Nat.reduceAdd, List.length_append, List.length_set, go_sem])
| (refine zh fun Kk hKk => (zi tabOk Tryz.func22 rfl (by kernel_rfl) (by simp [Tryz.ntmps22]) ?_); simp only [Tryz.ntmps22, Tryz.results22, List.toList_toArray, apar, List.length_nil, List.length_cons, Nat.reduceAdd, List.length_append, List.length_set, go_sem])
| ((first | ((first | refine zP ((Plan.takes [1, 2, 3, 4] (.fork 0 (Plan.takes [5, 6, 7, 8] .done) 5 (Plan.takes [0, 6, 7, 8] .done)))) (by decide +kernel) ?_ | (with_reducible first | refine zR ?_ | refine zQ (by decide +kernel) ?_ | refine zD (by decide +kernel) ?_ | refine zE (by decide +kernel) ?_ | refine zG (by decide +kernel) ?_)); intro K hK) | ((first | refine zA hd ?_ ?_ ?_ ?_ ?_ | refine zA new_c ?_ ?_ ?_ ?_ ?_); (focus exact rfl); (focus exact rfl); iterate 2 (focus ((try simp (disch := omega) only [go_sem, wn]) <;> (try omega) <;> fail))) | ((first | refine zN hr rfl ?_ ?_ | refine zN new_c rfl ?_ ?_ | refine zY hr ?_ ?_ | refine zX hd rfl ?_ ?_ | refine zX new_c rfl ?_ ?_ | refine zY new_c ?_ ?_); (focus ((try simp (disch := omega) only [go_sem, wn]) <;> (try omega) <;> fail))) | (refine zw (v := ?_) hKk (by first | exact .inl rfl | exact .inr rfl) ?_ ?_ ?_; rotate_left; (focus ((try simp (disch := omega) only [go_sem, wn]) <;> (try omega) <;> fail)); (focus ((try simp (disch := omega) only [go_sem, wn]) <;> (first | done | exact rfl))); clear hKk Kk) | ((first | (with_reducible refine zu ?_ ?_ <;> intro hg) | with_reducible intro hg) <;> (first | (exfalso; simp at hg; done) | (have hg' := hg; (try simp only [hcs, beq_iff_eq, ge_iff_le, gt_iff_lt] at hg'); (try simp only [hg]))))) <;> (try simp (disch := omega) only [go_sem, wn]) <;> (repeat' with_reducible refine And.intro ?_ ?_) <;> (try (with_reducible refine hK _ ?_; clear hK K)))
| omega)
  all_goals (refine zF rfl ?_ ?_ ?_ ?_; (iterate 3 (focus ((try simp (disch := omega) only [go_sem, wn]) <;> (try omega) <;> fail))); (try simp (disch := omega) only [go_sem, wn, I, B, S, zj]))
end Go.Proofs.YtainmipdnjcbkaaGreatDoor
namespace Go.Proofs.YtainmipdnjcbkaaGreatDoor
set_option linter.unusedVariables false
set_option linter.unusedSimpArgs false
open Go Go.RowKit
set_option maxRecDepth 100000
theorem same_watches_c (a b : List AWatch) (h : a.length * 32 ≤ 140737488351232) (h2 : b.length * 32 ≤ 140737488351232) : acall Tryz.prog [] 74 [.d (.sl 3 (a.map AWatch.row)), .d (.sl 3 (b.map AWatch.row))] (ret (B (decide (a = b)))) := by
  refine zI Tryz.func74 rfl (by kernel_rfl) (by simp [Tryz.ntmps74]) ?_; simp only [Tryz.ntmps74, Tryz.results74, go_sem]
  (repeat' first
| (with_reducible refine AR.f ?_)
| refine zb (by decide) ?_
| (with_reducible refine AWP.cond rfl ?_ ?_ <;> intro hc <;> (try simp only [hcs, beq_iff_eq, ge_iff_le, gt_iff_lt] at hc))
| ((first | ((first | (with_reducible first | refine zR ?_ | refine zQ (by decide +kernel) ?_ | refine zD (by decide +kernel) ?_ | refine zE (by decide +kernel) ?_ | refine zG (by decide +kernel) ?_)); intro K hK) | ((first | (with_reducible refine zu ?_ ?_ <;> intro hg) | with_reducible intro hg) <;> (first | (exfalso; simp at hg; done) | (have hg' := hg; (try simp only [hcs, beq_iff_eq, ge_iff_le, gt_iff_lt] at hg'); (try simp only [hg]))))) <;> (try simp (disch := omega) only [go_sem, wn]) <;> (repeat' with_reducible refine And.intro ?_ ?_) <;> (try (with_reducible refine hK _ ?_; clear hK K)))
| omega)
  · (refine zF rfl ?_ ?_ ?_ ?_; (iterate 3 (focus ((try simp (disch := omega) only [go_sem, wn]) <;> (try omega) <;> fail))); (try simp (disch := omega) only [go_sem, wn, I, B, S, zj]))
    symm; rw [decide_eq_false_iff_not]; intro e; subst e; simp at hc
  have h3 := hc
  refine AWP.loopS (ι := Nat) (fun k => k ≤ a.length ∧ ∀ j, j < k → a.getD j default = b.getD j default) (fun k => a.length - k) [0, 1, 12] (fun k => [(13, I k)]) 0 ?_ (by simp (disch := omega) only [go_sem, wn, true_and]) ?_
  · exact ⟨by omega, by omega⟩
  intro k ⟨hk, hk2⟩
  simp only [go_sem]
  (repeat' first
| (with_reducible refine AR.f ?_)
| refine zb (by decide) ?_
| (with_reducible refine AWP.cond rfl ?_ ?_ <;> intro hc <;> (try simp only [hcs, beq_iff_eq, ge_iff_le, gt_iff_lt] at hc))
| ((first | ((first | (with_reducible first | refine zR ?_ | refine zQ (by decide +kernel) ?_ | refine zD (by decide +kernel) ?_ | refine zE (by decide +kernel) ?_ | refine zG (by decide +kernel) ?_)); intro K hK) | ((first | (with_reducible refine zu ?_ ?_ <;> intro hg) | with_reducible intro hg) <;> (first | (exfalso; simp at hg; done) | (have hg' := hg; (try simp only [hcs, beq_iff_eq, ge_iff_le, gt_iff_lt] at hg'); (try simp only [hg]))))) <;> (try simp (disch := omega) only [go_sem, wn, AWatch.rgetD]) <;> (repeat' with_reducible refine And.intro ?_ ?_) <;> (try (with_reducible refine hK _ ?_; clear hK K)))
| omega)
  · (refine zF rfl ?_ ?_ ?_ ?_; (iterate 3 (focus ((try simp (disch := omega) only [go_sem, wn]) <;> (try omega) <;> fail))); (try simp (disch := omega) only [go_sem, wn, I, B, S, zj]))
    symm; rw [decide_eq_false_iff_not]; intro e; subst e; simp at hc
  · refine ⟨k + 1, ⟨by omega, fun j hj => ?_⟩, by omega, ?_⟩
    · by_cases e : j = k
      · subst e; exact hc
      · exact hk2 j (by omega)
    (refine SImp.same ?_; simp (disch := omega) only [go_sem, wn, Int.natCast_add])
  · (refine zF rfl ?_ ?_ ?_ ?_; (iterate 3 (focus ((try simp (disch := omega) only [go_sem, wn]) <;> (try omega) <;> fail))); (try simp (disch := omega) only [go_sem, wn, I, B, S, zj]))
    symm; rw [decide_eq_true_eq]
    exact eq_of_getD (by omega) fun j hj => hk2 j (by omega)
end Go.Proofs.YtainmipdnjcbkaaGreatDoor
namespace Go.Proofs.YtainmipdnjcbkaaGreatDoor
set_option linter.unusedVariables false
set_option linter.unusedSimpArgs false
open Go Go.RowKit
set_option maxRecDepth 100000
set_option linter.unusedSimpArgs false
def lenS (s : AServer) : Prop := s.disk.files.length * 48 ≤ 140737488351232 ∧ s.peer.log.length * 72 ≤ 140737488351232 ∧ s.tree.wf ∧ s.watches.length * 32 ≤ 140737488351232
theorem samePeer_c (a b : APeer) (h1 : a.log.length * 72 ≤ 140737488351232) (h2 : b.log.length * 72 ≤ 140737488351232) : acall Tryz.prog [] 72 [a.av, b.av] (ret (B (decide (a = b)))) := by
  have hs := sameLog_c a.log b.log h1 h2
  refine zI Tryz.func72 rfl (by kernel_rfl) (by simp [Tryz.ntmps72]) ?_; simp only [Tryz.ntmps72, Tryz.results72, go_sem]
  (repeat' first
| (with_reducible refine AR.f ?_)
| refine zb (by decide) ?_
| (with_reducible refine AWP.cond rfl ?_ ?_ <;> intro hc <;> (try simp only [hcs, beq_iff_eq, ge_iff_le, gt_iff_lt] at hc))
| ((first | ((first | (with_reducible first | refine zR ?_ | refine zQ (by decide +kernel) ?_ | refine zD (by decide +kernel) ?_ | refine zE (by decide +kernel) ?_ | refine zG (by decide +kernel) ?_)); intro K hK) | ((first | refine zA hs ?_ ?_ ?_ ?_ ?_); (focus exact rfl); (focus exact rfl); iterate 2 (focus ((try simp (disch := omega) only [go_sem, wn]) <;> (try omega) <;> fail))) | ((first | refine zX hs rfl ?_ ?_); (focus ((try simp (disch := omega) only [go_sem, wn]) <;> (try omega) <;> fail))) | ((first | (with_reducible refine zu ?_ ?_ <;> intro hg) | with_reducible intro hg) <;> (first | (exfalso; simp at hg; done) | (have hg' := hg; (try simp only [hcs, beq_iff_eq, ge_iff_le, gt_iff_lt] at hg'); (try simp only [hg]))))) <;> (try simp (disch := omega) only [go_sem, wn]) <;> (repeat' with_reducible refine And.intro ?_ ?_) <;> (try (with_reducible refine hK _ ?_; clear hK K)))
| omega)
  all_goals (refine zF rfl ?_ ?_ ?_ ?_; (iterate 3 (focus ((try simp (disch := omega) only [go_sem, wn, APeer.ext_iff]) <;> (try omega) <;> fail))); (try simp (disch := omega) only [go_sem, wn, APeer.ext_iff, I, B, S, zj]))
  all_goals (try simp_all)
theorem sameServer_c (a : AServer) (h : lenS a) : acall Tryz.prog [] 20 [a.av, a.av] (ret (B true)) := by
  have hd := (same_disk_c a.disk a.disk h.1 h.1).re (congrArg B (decide_eq_true rfl))
  have hp := (samePeer_c a.peer a.peer h.2.1 h.2.1).re (congrArg B (decide_eq_true rfl))
  have ht := (sameTree_c a.tree a.tree h.2.2.1 h.2.2.1).re (congrArg B (decide_eq_true rfl))
  have hw := (same_watches_c a.watches a.watches h.2.2.2 h.2.2.2).re (congrArg B (decide_eq_true rfl))
  refine zI Tryz.func20 rfl (by kernel_rfl) (by simp [Tryz.ntmps20]) ?_; simp only [Tryz.ntmps20, Tryz.results20, go_sem]
  (repeat' first
| (with_reducible refine AR.f ?_)
| refine zb (by decide) ?_
| (with_reducible refine AWP.cond rfl ?_ ?_ <;> intro hc <;> (try simp only [hcs, beq_iff_eq, ge_iff_le, gt_iff_lt] at hc))
| ((first | ((first | (with_reducible first | refine zR ?_ | refine zQ (by decide +kernel) ?_ | refine zD (by decide +kernel) ?_ | refine zE (by decide +kernel) ?_ | refine zG (by decide +kernel) ?_)); intro K hK) | ((first | refine zA hd ?_ ?_ ?_ ?_ ?_ | refine zA hp ?_ ?_ ?_ ?_ ?_ | refine zA ht ?_ ?_ ?_ ?_ ?_ | refine zA hw ?_ ?_ ?_ ?_ ?_); (focus exact rfl); (focus exact rfl); iterate 2 (focus ((try simp (disch := omega) only [go_sem, wn]) <;> (try omega) <;> fail))) | ((first | refine zX hd rfl ?_ ?_ | refine zX hp rfl ?_ ?_ | refine zX ht rfl ?_ ?_ | refine zX hw rfl ?_ ?_); (focus ((try simp (disch := omega) only [go_sem, wn]) <;> (try omega) <;> fail))) | ((first | (with_reducible refine zu ?_ ?_ <;> intro hg) | with_reducible intro hg) <;> (first | (exfalso; simp at hg; done) | (have hg' := hg; (try simp only [hcs, beq_iff_eq, ge_iff_le, gt_iff_lt] at hg'); (try simp only [hg]))))) <;> (try simp (disch := omega) only [go_sem, wn]) <;> (repeat' with_reducible refine And.intro ?_ ?_) <;> (try (with_reducible refine hK _ ?_; clear hK K)))
| omega)
  all_goals (refine zF rfl ?_ ?_ ?_ ?_; (iterate 3 (focus ((try simp (disch := omega) only [go_sem, wn]) <;> (try omega) <;> fail))); (try simp (disch := omega) only [go_sem, wn, I, B, S, zj]))
end Go.Proofs.YtainmipdnjcbkaaGreatDoor
namespace Go.Proofs.YtainmipdnjcbkaaGreatDoor
set_option linter.unusedVariables false
set_option linter.unusedSimpArgs false
open Go Go.RowKit
set_option maxRecDepth 100000
set_option linter.unusedSimpArgs false
def lacksT (t : ATree) (x : ATxn) (there : Int) : Int :=
  if there = 0 then 8 else if ¬ (getT t (splitP x.path).1.1).2 = 0 then (getT t (splitP x.path).1.1).2 else if ¬ (getT t (splitP x.path).1.1).1.stat.owner = 0 then 11
  else if ¬ x.owner = 0 ∧ ¬ x.owner = x.session then 12 else if 400 ≤ t.nodes.length then 6 else 0
def wrongT (t : ATree) (x : ATxn) : Int :=
  if goodTr t = false then 3 else if ¬ goodT x = 0 then goodT x else if x.zxid ≤ t.zxid then 13
  else if x.op = 1 then (if x.session ∈ t.sessions then 8 else 0)
  else if ¬ x.session ∈ t.sessions then 12
  else if x.op = 3 then lacksT t x (getT t x.path).2
  else if x.op = 4 then (if (getT t x.path).2 = 0 ∧ 0 < (getT t x.path).1.stat.kids then 10 else (getT t x.path).2)
  else if x.op = 5 then (if (getT t x.path).2 = 0 ∧ ¬ x.version = (getT t x.path).1.stat.version + 1 then 9 else (getT t x.path).2)
  else 0
def bigN (n : ANode) : Bool := decide (2147483647 < n.stat.cversion)
end Go.Proofs.YtainmipdnjcbkaaGreatDoor
namespace Go.Proofs.YtainmipdnjcbkaaGreatDoor
set_option linter.unusedVariables false
set_option linter.unusedSimpArgs false
open Go Go.RowKit
set_option maxRecDepth 100000
set_option linter.unusedSimpArgs false
def pathsN (ns : List ANode) : List (List UInt8) := ns.map ANode.path
def dirP (p : List UInt8) : List UInt8 := (splitP p).1.1
def kidF (more z : Int) (n : ANode) : ANode := ⟨n.path, n.data, ⟨n.stat.czxid, n.stat.mzxid, z, n.stat.version, IntKind.i64.wrap (n.stat.cversion + 1), n.stat.owner, IntKind.i64.wrap (n.stat.kids + more)⟩⟩
def kidN (ns : List ANode) (p : List UInt8) (more z : Int) : List ANode := if dirP p ∈ pathsN ns then ns.set (place (pathsN ns) (dirP p)) (kidF more z (ns.getD (place (pathsN ns) (dirP p)) default)) else ns
def delN (ns : List ANode) (p : List UInt8) (z : Int) : List ANode := kidN (ns.eraseIdx (place (pathsN ns) p)) p (-1) z
def mkN (x : ATxn) : ANode := ⟨x.path, x.data, ⟨x.zxid, x.zxid, x.zxid, 0, 0, x.owner, 0⟩⟩
def addN (ns : List ANode) (x : ATxn) : List ANode := kidN (ns.insertIdx (place (pathsN ns) x.path) (mkN x)) x.path 1 x.zxid
def setF (x : ATxn) (n : ANode) : ANode := ⟨n.path, x.data, ⟨n.stat.czxid, x.zxid, n.stat.pzxid, x.version, n.stat.cversion, n.stat.owner, n.stat.kids⟩⟩
def setN (ns : List ANode) (x : ATxn) : List ANode := ns.set (place (pathsN ns) x.path) (setF x (ns.getD (place (pathsN ns) x.path) default))
def goneE (p : List UInt8) : List AEvent := [⟨2, p⟩, ⟨4, dirP p⟩]
def closeN (t : ATree) (s z : Int) : Nat → List ANode × List AEvent
  | 0 => (t.nodes, [])
  | k + 1 => if (t.nodes.getD k default).stat.owner = s then (delN (closeN t s z k).1 (t.nodes.getD k default).path z, (closeN t s z k).2 ++ goneE (t.nodes.getD k default).path) else closeN t s z k
def doneT (t : ATree) (x : ATxn) : ATree × List AEvent :=
  if x.op = 1 then (⟨x.zxid, t.nodes, t.sessions.insertIdx (placeI t.sessions x.session) x.session⟩, [])
  else if x.op = 2 then (⟨x.zxid, (closeN t x.session x.zxid t.nodes.length).1, t.sessions.eraseIdx (placeI t.sessions x.session)⟩, (closeN t x.session x.zxid t.nodes.length).2)
  else if x.op = 3 then (⟨x.zxid, addN t.nodes x, t.sessions⟩, [⟨1, x.path⟩, ⟨4, dirP x.path⟩])
  else if x.op = 4 then (⟨x.zxid, delN t.nodes x.path x.zxid, t.sessions⟩, goneE x.path)
  else (⟨x.zxid, setN t.nodes x, t.sessions⟩, [⟨3, x.path⟩])
def applyT (t : ATree) (x : ATxn) : ATree × List AEvent × Int :=
  if ¬ wrongT t x = 0 then (default, [], wrongT t x) else if (doneT t x).1.nodes.any bigN = true then (default, [], 6) else ((doneT t x).1, (doneT t x).2, 0)
end Go.Proofs.YtainmipdnjcbkaaGreatDoor
namespace Go.Proofs.YtainmipdnjcbkaaGreatDoor
set_option linter.unusedVariables false
set_option linter.unusedSimpArgs false
open Go Go.RowKit
set_option maxRecDepth 100000
set_option linter.unusedSimpArgs false
structure CloseOk (t : ATree) (s : Int) (k : Nat) (ns : List ANode) (es : List AEvent) : Prop where
  rises : Rises (pathsN ns)
  rest : ∀ j, k ≤ j → j < t.nodes.length → (nd t j).path ∈ pathsN ns
  dirs : ∀ j, j < t.nodes.length → (nd t j).stat.owner = s → dirP (nd t j).path ∈ pathsN ns
  len : ns.length ≤ t.nodes.length
  elen : es.length ≤ 2 * k
end Go.Proofs.YtainmipdnjcbkaaGreatDoor
namespace Go.Proofs.YtainmipdnjcbkaaGreatDoor
set_option linter.unusedVariables false
set_option linter.unusedSimpArgs false
open Go Go.RowKit
set_option maxRecDepth 100000
set_option linter.unusedSimpArgs false
end Go.Proofs.YtainmipdnjcbkaaGreatDoor
namespace Go.Proofs.YtainmipdnjcbkaaGreatDoor
set_option linter.unusedVariables false
set_option linter.unusedSimpArgs false
open Go Go.RowKit
set_option maxRecDepth 100000
set_option linter.unusedSimpArgs false
end Go.Proofs.YtainmipdnjcbkaaGreatDoor
namespace Go.Proofs.YtainmipdnjcbkaaGreatDoor
set_option linter.unusedVariables false
set_option linter.unusedSimpArgs false
open Go Go.RowKit
set_option maxRecDepth 100000
set_option linter.unusedSimpArgs false
end Go.Proofs.YtainmipdnjcbkaaGreatDoor
namespace Go.Proofs.YtainmipdnjcbkaaGreatDoor
set_option linter.unusedVariables false
set_option linter.unusedSimpArgs false
open Go Go.RowKit
set_option maxRecDepth 100000
set_option linter.unusedSimpArgs false
end Go.Proofs.YtainmipdnjcbkaaGreatDoor
namespace Go.Proofs.YtainmipdnjcbkaaGreatDoor
set_option linter.unusedVariables false
set_option linter.unusedSimpArgs false
open Go Go.RowKit
set_option maxRecDepth 100000
set_option linter.unusedSimpArgs false
end Go.Proofs.YtainmipdnjcbkaaGreatDoor
namespace Go.Proofs.YtainmipdnjcbkaaGreatDoor
set_option linter.unusedVariables false
set_option linter.unusedSimpArgs false
open Go Go.RowKit
set_option maxRecDepth 100000
set_option linter.unusedSimpArgs false
end Go.Proofs.YtainmipdnjcbkaaGreatDoor
namespace Go.Proofs.YtainmipdnjcbkaaGreatDoor
set_option linter.unusedVariables false
set_option linter.unusedSimpArgs false
open Go Go.RowKit
set_option maxRecDepth 100000
set_option linter.unusedSimpArgs false
end Go.Proofs.YtainmipdnjcbkaaGreatDoor
namespace Go.Proofs.YtainmipdnjcbkaaGreatDoor
set_option linter.unusedVariables false
set_option linter.unusedSimpArgs false
open Go Go.RowKit
set_option maxRecDepth 100000
set_option linter.unusedSimpArgs false
def okT (t : ATree) : Prop := t.wf ∧ ∀ n, n ∈ t.nodes → n.path.length ≤ 1048576
end Go.Proofs.YtainmipdnjcbkaaGreatDoor
namespace Go.Proofs.YtainmipdnjcbkaaGreatDoor
set_option linter.unusedVariables false
set_option linter.unusedSimpArgs false
open Go
theorem SImp.tail (k n : Nat) {np nt : Nat} {env : List (Nat × AV)} {hp : List ABlk} {sz : Nat} {rs : List (List DV)} (hk : hp[k]? = some (.rows sz rs)) :
    SImp { np := np, nt := nt, env := env, hp := hp } { np := np, nt := nt, env := env, hp := hp.set k (.rows sz (rs.take n)) } := by
  intro E ρ a w h
  have hl := h.heap.len
  simp only at hl
  have hkl : k < hp.length := (List.getElem?_eq_some_iff.1 hk).1
  obtain ⟨p, hkp⟩ : ∃ p, ρ[k]? = some p := ⟨ρ[k]'(by omega), List.getElem?_eq_getElem (by omega)⟩
  cases p with
  | none =>
    rcases h.heap.nil k _ hk hkp with e | ⟨sz', e⟩
    · cases e
    · injection e with e1 e2
      subst e2
      have e3 : hp.set k (.rows sz (List.take n [])) = hp := by
        apply List.ext_getElem?
        intro j
        rw [List.getElem?_set]
        split
        · rename_i e; subst e; rw [hk]; first | rfl | simp | (rw [if_pos hkl]; simp)
        · rfl
      rw [e3]
      exact ⟨ρ, h⟩
  | some bm =>
    obtain ⟨b, m⟩ := bm
    have hst := HStep.redo (x' := .rows sz (rs.take n)) h.heap hk (by simp) (by simp) hkp (by simp) fun us ty fz hw hm ⟨h1, h2, h3, h4⟩ => by
      refine ⟨h1, fun r hr => h2 r (List.mem_of_mem_take hr), Nat.le_trans (Nat.mul_le_mul_right _ (by rw [List.length_take]; omega)) h3, fun i r hi j c u hj hu => ?_⟩
      rw [List.getElem?_take] at hi
      split at hi
      · exact h4 i r hi j c u hj hu
      · cases hi
    exact ⟨_, h.step hst⟩
theorem killOne_ok {E : Ent} {ρ : List (Option (Nat × Nat))} {hp : List ABlk} {w : World} (h : RepH E ρ hp w) (hpre : ∀ (k : Nat) (p : Option (Nat × Nat)), E.ρ0[k]? = some p → ρ[k]? = some p) {k : Nat}
    (h0 : ∀ j, j < E.ρ0.length → j ≠ k ∧ ∃ z, hp[j]? = some z ∧ z ≠ .dead) : ∀ (b m sz : Nat) (rs : List (List DV)), hp[k]? = some (.rows sz rs) → ρ[k]? = some (some (b, m)) → okB E ρ (hp.set k .dead) w b := by
  intro b m sz rs hx hb
  obtain ⟨q1, us, ty, fz, q2, _⟩ := h.blk k _ b m hx hb (by simp)
  have hnl : ¬ Live ρ (hp.set k .dead) b := by
    intro ⟨j, x, m', hx', hd, hj⟩
    rcases zs hx' with ⟨_, e, _⟩ | ⟨hne, h2⟩
    · exact hd e
    · exact hne (h.inj j k x _ b m' m h2 hx hd (by simp) hj hb)
  rcases q1 with q1 | q1
  · obtain ⟨k', m', hk'⟩ := E.hL b q1
    have hlt : k' < E.ρ0.length := (List.getElem?_eq_some_iff.1 hk').1
    obtain ⟨hne, z, hz, hzd⟩ := h0 k' hlt
    exact absurd (h.inj k' k z _ b m' m hz hx hzd (by simp) (hpre _ _ hk') hb) hne
  · exact ⟨.inr q1, lt_of_heap q2, hnl⟩
end Go.Proofs.YtainmipdnjcbkaaGreatDoor
namespace Go.Proofs.YtainmipdnjcbkaaGreatDoor
set_option linter.unusedVariables false
set_option linter.unusedSimpArgs false
open Go Go.RowKit
set_option maxRecDepth 100000
set_option linter.unusedSimpArgs false
end Go.Proofs.YtainmipdnjcbkaaGreatDoor
namespace Go.Proofs.YtainmipdnjcbkaaGreatDoor
set_option linter.unusedVariables false
set_option linter.unusedSimpArgs false
open Go Go.RowKit
set_option maxRecDepth 100000
set_option linter.unusedSimpArgs false
structure CSt where
  t : ATree
  w : List AWatch
  n : List ANote
end Go.Proofs.YtainmipdnjcbkaaGreatDoor
namespace Go.Proofs.YtainmipdnjcbkaaGreatDoor
set_option linter.unusedVariables false
set_option linter.unusedSimpArgs false
open Go Go.RowKit
set_option maxRecDepth 100000
set_option linter.unusedSimpArgs false
def playT (t : ATree) : List ATxn → Option ATree
  | [] => some t
  | x :: r => if (applyT t x).2.2 = 0 then playT (applyT t x).1 r else none
structure UpOk (s : AServer) (e : Option (List UInt8)) (a : Nat) : Prop where
  up : s.up = true
  disk : s.disk.files = mkD e (encs (s.peer.log.take a)) (encs (s.peer.log.drop a))
  le : a ≤ s.peer.log.length
  log : logOk s.peer.log
  small : (encs s.peer.log).length ≤ 1048576
  elen : ∀ x, e = some x → x.length ≤ 1048576
  d0 : 0 ≤ s.peer.done
  dl : s.peer.done ≤ s.peer.log.length
  tree : playT t00 (s.peer.log.take s.peer.done.toNat) = some s.tree
  play : ∃ v, playT t00 s.peer.log = some v
theorem split_encs (l : List ATxn) (a : Nat) : encs (l.take a) ++ encs (l.drop a) = encs l := by rw [← encs_app, List.take_append_drop]
theorem UpOk.okD {s : AServer} {e : Option (List UInt8)} {a : Nat} (h : UpOk s e a) : okD e (encs (s.peer.log.take a)) (encs (s.peer.log.drop a)) :=
  ⟨h.elen, by rw [← List.length_append, split_encs]; exact h.small⟩
theorem UpOk.good {s : AServer} {e : Option (List UInt8)} {a : Nat} (h : UpOk s e a) : goodD s.disk.files = true := by rw [h.disk]; exact mk_good h.okD
structure DownOk (s : AServer) (e : Option (List UInt8)) (l : List ATxn) : Prop where
  up : s.up = false
  disk : ∃ c, s.disk.files = mkD e c [] ∧ c.length ≤ 1048576 ∧ (scanT c).1 = l
  elen : ∀ x, e = some x → x.length ≤ 1048576
  log : s.peer.log = []
  done : s.peer.done = 0
  ep : s.peer.epoch = 0
  tree : s.tree = t00
  watches : s.watches = []
  play : ∃ v, playT t00 l = some v
theorem DownOk.logOk {s : AServer} {e : Option (List UInt8)} {l : List ATxn} (h : DownOk s e l) : logOk l := by
  obtain ⟨c, _, _, h3⟩ := h.disk
  rw [← h3]; exact (scanT_ok c).1
theorem DownOk.good {s : AServer} {e : Option (List UInt8)} {l : List ATxn} (h : DownOk s e l) : goodD s.disk.files = true := by
  obtain ⟨c, h1, h2, _⟩ := h.disk
  rw [h1]; exact mk_good ⟨h.elen, by simpa using h2⟩
end Go.Proofs.YtainmipdnjcbkaaGreatDoor
namespace Go.Proofs.YtainmipdnjcbkaaGreatDoor
set_option linter.unusedVariables false
set_option linter.unusedSimpArgs false
open Go Go.RowKit
set_option maxRecDepth 100000
set_option linter.unusedSimpArgs false
theorem getD_some {s : List UInt8} {k : Nat} {c : UInt8} (h : s[k]? = some c) : k < s.length ∧ s.getD k 0 = c := by
  rw [List.getD_eq_getElem?_getD, h]
  exact ⟨(List.getElem?_eq_some_iff.1 h).1, rfl⟩
end Go.Proofs.YtainmipdnjcbkaaGreatDoor
namespace Go.Proofs.YtainmipdnjcbkaaGreatDoor
set_option linter.unusedVariables false
set_option linter.unusedSimpArgs false
open Go Go.RowKit
set_option maxRecDepth 100000
set_option linter.unusedSimpArgs false
def ztext (z : Int) : List UInt8 := Lib.decDigits (z / 2147483648).toNat ++ (46 :: Lib.decDigits (z % 2147483648).toNat)
theorem dgt_small {u : Nat} (h : u < 10) : Lib.decDigits u = [UInt8.ofNat (48 + u)] := by rw [Lib.decDigits, dif_pos h]
theorem dgt_big {u : Nat} (h : ¬ u < 10) : Lib.decDigits u = Lib.decDigits (u / 10) ++ [UInt8.ofNat (48 + u % 10)] := by rw [Lib.decDigits, dif_neg h]
theorem dgt_len (u : Nat) : ∀ k, u < 10 ^ (k + 1) → (Lib.decDigits u).length ≤ k + 1 := by
  induction u using Nat.strongRecOn with
  | _ u ih =>
    intro k hk
    by_cases h : u < 10
    · rw [dgt_small h]; simp
    · rw [dgt_big h, List.length_append, List.length_singleton]
      rcases k with _ | k
      · simp at hk; omega
      · have := ih (u / 10) (by omega) k (by rw [Nat.pow_succ] at hk; omega)
        omega
theorem ztext_len {z : Int} (h : goodZ z) : (ztext z).length ≤ 21 := by
  unfold goodZ at h
  have h1 := dgt_len (z / 2147483648).toNat 9 (by omega)
  have h2 := dgt_len (z % 2147483648).toNat 9 (by omega)
  unfold ztext
  rw [List.length_append, List.length_cons]; omega
end Go.Proofs.YtainmipdnjcbkaaGreatDoor
namespace Go.Proofs.YtainmipdnjcbkaaGreatDoor
set_option linter.unusedVariables false
set_option linter.unusedSimpArgs false
open Go Go.RowKit
set_option maxRecDepth 100000
set_option linter.unusedSimpArgs false
def rememberD (l : List AFile) (ep : Int) : ADisk × Int :=
  if (mkZ ep 0).2 ≠ 0 then (default, (mkZ ep 0).2) else
  if (writeD (if (removeD l epN).2 = 0 then (removeD l epN).1.files else l) epN (ztext (mkZ ep 0).1)).2 ≠ 0 then (default, (writeD (if (removeD l epN).2 = 0 then (removeD l epN).1.files else l) epN (ztext (mkZ ep 0).1)).2) else
  changeD (writeD (if (removeD l epN).2 = 0 then (removeD l epN).1.files else l) epN (ztext (mkZ ep 0).1)).1.files epN syncF
def commonZ : List ATxn → List ATxn → Nat
  | x :: a, y :: b => if x.zxid = y.zxid then commonZ a b + 1 else 0
  | _, _ => 0
def takesS (s : AServer) : List ATxn → AServer × Int
  | [] => (s, 0)
  | x :: r => if (takeS s x true).2 = 0 then takesS (takeS s x true).1 r else (default, (takeS s x true).2)
def backZ (l : List ATxn) (k : Nat) : Int := if 0 < k then (l.getD (k - 1) default).zxid else -1
def followS (s : AServer) (l : List ATxn) (ep : Int) : AServer × Int :=
  if (commonZ l s.peer.log : Int) < s.peer.done then (default, 13) else
  if (keepD s.disk.files (backZ l (commonZ l s.peer.log))).2 ≠ 0 then (default, (keepD s.disk.files (backZ l (commonZ l s.peer.log))).2) else
  if (rememberD (keepD s.disk.files (backZ l (commonZ l s.peer.log))).1.files ep).2 ≠ 0 then (default, (rememberD (keepD s.disk.files (backZ l (commonZ l s.peer.log))).1.files ep).2) else
  takesS ⟨s.up, (rememberD (keepD s.disk.files (backZ l (commonZ l s.peer.log))).1.files ep).1, ⟨s.peer.id, ep, s.peer.log.take (commonZ l s.peer.log), s.peer.done⟩, s.tree, s.watches⟩ (l.drop (commonZ l s.peer.log))
theorem commonZ_le : ∀ (a b : List ATxn), commonZ a b ≤ a.length ∧ commonZ a b ≤ b.length
  | [], _ => ⟨Nat.zero_le _, Nat.zero_le _⟩
  | _ :: _, [] => ⟨Nat.zero_le _, Nat.zero_le _⟩
  | x :: a, y :: b => by
    have := commonZ_le a b
    unfold commonZ
    split
    · simp only [List.length_cons]; omega
    · exact ⟨Nat.zero_le _, Nat.zero_le _⟩
end Go.Proofs.YtainmipdnjcbkaaGreatDoor
namespace Go.Proofs.YtainmipdnjcbkaaGreatDoor
open Go Go.Shelf
def laysItoa_ren : Go.Shelf.Ren := ⟨fun | 171 => 121 | 243 => 188 | 246 => 237 | 283 => 267 | 284 => 268 | 285 => 269 | 286 => 270 | 129 => 281 | 317 => 280 | 318 => 282 | 319 => 283 | 320 => 284 | 337 => 288 | 338 => 289 | n => n, fun | 3 => 3 | 9 => 9 | 2 => 2 | 4 => 4 | 171 => 277 | 0 => 0 | 53 => 278 | 37 => 181 | 5 => 5 | 173 => 281 | 212 => 287 | 51 => 256 | 20 => 20 | 213 => 288 | 46 => 167 | 232 => 298 | 233 => 299 | n => n, fun | 17 => 1 | 18 => 4 | 19 => 5 | n => n⟩
theorem laysItoa : Go.Proofs.LaysM.n171 Tryz.prog laysItoa_ren := {
  mixed := by kernel_rfl
  f129 := Tryz.func281.trans (congrArg some (by kernel_rfl))
  f171 := Tryz.func121.trans (congrArg some (by kernel_rfl))
  f243 := Tryz.func188.trans (congrArg some (by kernel_rfl))
  f246 := Tryz.func237.trans (congrArg some (by kernel_rfl))
  f283 := Tryz.func267.trans (congrArg some (by kernel_rfl))
  f284 := Tryz.func268.trans (congrArg some (by kernel_rfl))
  f285 := Tryz.func269.trans (congrArg some (by kernel_rfl))
  f286 := Tryz.func270.trans (congrArg some (by kernel_rfl))
  f317 := Tryz.func280.trans (congrArg some (by kernel_rfl))
  f318 := Tryz.func282.trans (congrArg some (by kernel_rfl))
  f319 := Tryz.func283.trans (congrArg some (by kernel_rfl))
  f320 := Tryz.func284.trans (congrArg some (by kernel_rfl))
  f337 := Tryz.func288.trans (congrArg some (by kernel_rfl))
  f338 := Tryz.func289.trans (congrArg some (by kernel_rfl))
  t0 := Tryz.underlying0
  a0 := Tryz.isAgg0
  z0 := Tryz.sizeOf0
  v0 := Tryz.zeroValue0
  t2 := Tryz.underlying2
  a2 := Tryz.isAgg2
  z2 := Tryz.sizeOf2
  v2 := Tryz.zeroValue2
  t3 := Tryz.underlying3
  a3 := Tryz.isAgg3
  z3 := Tryz.sizeOf3
  v3 := Tryz.zeroValue3
  t4 := Tryz.underlying4
  a4 := Tryz.isAgg4
  z4 := Tryz.sizeOf4
  v4 := Tryz.zeroValue4
  t5 := Tryz.underlying5
  a5 := Tryz.isAgg5
  z5 := Tryz.sizeOf5
  v5 := Tryz.zeroValue5
  t9 := Tryz.underlying9
  a9 := Tryz.isAgg9
  z9 := Tryz.sizeOf9
  v9 := Tryz.zeroValue9
  t20 := Tryz.underlying20
  a20 := Tryz.isAgg20
  z20 := Tryz.sizeOf20
  v20 := Tryz.zeroValue20
  t37 := Tryz.underlying181
  a37 := Tryz.isAgg181
  z37 := Tryz.sizeOf181
  v37 := Tryz.zeroValue181
  t46 := Tryz.underlying167
  a46 := Tryz.isAgg167
  z46 := Tryz.sizeOf167
  v46 := Tryz.zeroValue167
  t51 := Tryz.underlying256
  a51 := Tryz.isAgg256
  z51 := Tryz.sizeOf256
  v51 := Tryz.zeroValue256
  t53 := Tryz.underlying278
  a53 := Tryz.isAgg278
  z53 := Tryz.sizeOf278
  v53 := Tryz.zeroValue278
  t171 := Tryz.underlying277
  a171 := Tryz.isAgg277
  z171 := Tryz.sizeOf277
  v171 := Tryz.zeroValue277
  t173 := Tryz.underlying281
  a173 := Tryz.isAgg281
  z173 := Tryz.sizeOf281
  v173 := Tryz.zeroValue281
  t212 := Tryz.underlying287
  a212 := Tryz.isAgg287
  z212 := Tryz.sizeOf287
  v212 := Tryz.zeroValue287
  t213 := Tryz.underlying288
  a213 := Tryz.isAgg288
  z213 := Tryz.sizeOf288
  t232 := Tryz.underlying298
  a232 := Tryz.isAgg298
  z232 := Tryz.sizeOf298
  v232 := Tryz.zeroValue298
  t233 := Tryz.underlying299
  a233 := Tryz.isAgg299
  z233 := Tryz.sizeOf299
  v233 := Tryz.zeroValue299
  g17 := by kernel_rfl
  g18 := by kernel_rfl
  g19 := by kernel_rfl
  i0 := by kernel_rfl
  i2 := by kernel_rfl
  i3 := by kernel_rfl
  i4 := by kernel_rfl
  i5 := by kernel_rfl
  i9 := by kernel_rfl
  i20 := by kernel_rfl
  i37 := by kernel_rfl
  i46 := by kernel_rfl
  i51 := by kernel_rfl
  i53 := by kernel_rfl
  i171 := by kernel_rfl
  i173 := by kernel_rfl
  i212 := by kernel_rfl
  i232 := by kernel_rfl
  i233 := by kernel_rfl
  m17 := by kernel_rfl
  m18 := by kernel_rfl
  m19 := by kernel_rfl }
end Go.Proofs.YtainmipdnjcbkaaGreatDoor
