/- A part of what StoreTakes leans on: texts of this claim, one behind the other. No condition. -/
import Derived.Test.YtmpfhalheaeibaaDoorStoreTakesK9
namespace Go.Proofs.YtmpfhalheaeibaaDoor
set_option linter.unusedVariables false
set_option linter.unusedSimpArgs false
open Go Go.RowKit
set_option maxRecDepth 100000
def logN : List UInt8 := [108, 111, 103]
theorem logN_ok : okS logN := by unfold okS; decide
theorem write_files_wf {l : List AFile} {key s : List UInt8} (hk : okS key) (hw : ∀ f, f ∈ l → f.wf) : ∀ f, f ∈ (writeD l key s).1.files → f.wf := by
  intro f hf
  unfold writeD at hf
  split at hf
  · cases hf
  · split at hf
    · cases hf
    · split at hf
      · split at hf
        · cases hf
        · obtain ⟨g1, g2, g3, g4⟩ := file_wf hw (place (l.map AFile.name) key)
          rcases List.mem_or_eq_of_mem_set hf with h | h
          · exact hw f h
          · subst h
            exact ⟨g1, g3, by show okS _; unfold okS; rw [List.length_append]; omega⟩
      · split at hf
        · cases hf
        · split at hf
          · cases hf
          · rename_i h1
            have hf' : f ∈ l.insertIdx (place (l.map AFile.name) key) ⟨key, [], s⟩ := hf
            rw [List.mem_insertIdx place_le'] at hf'
            rcases hf' with h | h
            · subst h; exact ⟨hk, by show okS []; unfold okS; decide, by show okS s; unfold okS; omega⟩
            · exact hw f h
def appendD (l : List AFile) (t : ATxn) (safe : Bool) : ADisk × Int :=
  if goodT t ≠ 0 then (default, goodT t)
  else if (writeD l logN (encT t).1).2 ≠ 0 ∨ safe = false then writeD l logN (encT t).1 else changeD (writeD l logN (encT t).1).1.files logN syncF
theorem append_wf {l : List AFile} {t : ATxn} {safe : Bool} : (appendD l t safe).1.files.length * 48 ≤ 140737488351232 := by
  unfold appendD; split
  · exact (by decide : ([] : List AFile).length * 48 ≤ 140737488351232)
  · split
    · exact write_wf
    · exact change_wf write_wf
theorem encT_ok {t : ATxn} (h : goodT t = 0) : okS (encT t).1 ∧ (encT t).2 = 0 := by
  obtain ⟨s1, s2⟩ := goodT_small h
  unfold encT; rw [if_pos h]
  refine ⟨?_, rfl⟩
  unfold okS encB
  simp only [List.length_append, headB_len, beB_len]; omega
theorem encT_no {t : ATxn} (h : goodT t ≠ 0) : encT t = ([], goodT t) := by unfold encT; rw [if_neg h]
theorem append_c (d : ADisk) (t : ATxn) (safe : Bool) (h : d.files.length * 48 ≤ 140737488351232) (hw : ∀ f, f ∈ d.files → f.wf) (hp : okS t.path) (hd : okS t.data) : acall Tryd.prog [] 14 [d.av, t.av, B safe] (ret (.tup [(appendD d.files t safe).1.av, I (appendD d.files t safe).2])) := by
  by_cases hg : goodT t = 0
  case neg =>
    have he := encode_c t hp hd
    rw [encT_no hg] at he
    unfold appendD
    rw [if_pos hg]
    refine acall_of tabOk Tryd.func14 rfl (by kernel_rfl) (by simp [Tryd.ntmps14]) ?_; simp only [Tryd.ntmps14, Tryd.results14, List.toList_toArray, apar, List.length_nil, List.length_cons, Nat.reduceAdd]
    (repeat' first
  | (with_reducible refine AR.f ?_)
  | refine blkA_x (by decide) ?_
  | (with_reducible refine AWP.cond rfl ?_ ?_ <;> intro hc <;> (try simp only [hcs, beq_iff_eq, ge_iff_le, gt_iff_lt] at hc))
  | ((first | ((first | (with_reducible first | refine zR ?_ | refine zQ (by decide +kernel) ?_ | refine zD (by decide +kernel) ?_ | refine zE (by decide +kernel) ?_ | refine zG (by decide +kernel) ?_)); intro K hK) | ((first | refine zA he ?_ ?_ ?_ ?_ ?_); (focus exact rfl); (focus exact rfl); iterate 2 (focus ((try simp (disch := omega) only [go_sem, wrap_n]) <;> (try omega) <;> fail))) | ((first | refine zN he rfl ?_ ?_); (focus ((try simp (disch := omega) only [go_sem, wrap_n]) <;> (try omega) <;> fail))) | (first | ((first | refine zX he rfl ?_ ?_ | refine acallH_anyx he ?_ ?_); (focus ((try simp (disch := omega) only [go_sem, wrap_n]) <;> (try omega) <;> fail)))) | ((first | (with_reducible refine aunder_i ?_ ?_ <;> intro hg) | with_reducible intro hg) <;> (first | (exfalso; simp at hg; done) | (have hg' := hg; (try simp only [hcs, beq_iff_eq, ge_iff_le, gt_iff_lt] at hg'); (try simp only [hg]))))) <;> (try simp (disch := omega) only [go_sem, wrap_n]) <;> (repeat' with_reducible refine And.intro ?_ ?_) <;> (try (with_reducible refine hK _ ?_; clear hK K)))
  | omega)
    all_goals first | (exfalso; omega) | skip
    (refine zF rfl ?_ ?_ ?_ ?_; (iterate 3 (focus ((try simp (disch := omega) only [go_sem, wrap_n, default]) <;> (try omega) <;> fail))); (try simp (disch := omega) only [go_sem, wrap_n, default, I, B, S, inj, List.cons.injEq, and_true, true_and, and_self]))
  obtain ⟨e1, e2⟩ := encT_ok hg
  have he := encode_c t hp hd
  rw [e2] at he
  unfold appendD
  rw [if_neg (fun h => h hg)]
  have hs := sync_c (writeD d.files logN (encT t).1).1 logN write_wf (write_files_wf logN_ok hw)
  refine acall_of tabOk Tryd.func14 rfl (by kernel_rfl) (by simp [Tryd.ntmps14]) ?_; simp only [Tryd.ntmps14, Tryd.results14, List.toList_toArray, apar, List.length_nil, List.length_cons, Nat.reduceAdd]
  (repeat' first
| (with_reducible refine AR.f ?_)
| refine blkA_x (by decide) ?_
| (with_reducible refine AWP.cond rfl ?_ ?_ <;> intro hc <;> (try simp only [hcs, beq_iff_eq, ge_iff_le, gt_iff_lt] at hc))
| ((first | ((first | (with_reducible first | refine zR ?_ | refine zQ (by decide +kernel) ?_ | refine zD (by decide +kernel) ?_ | refine zE (by decide +kernel) ?_ | refine zG (by decide +kernel) ?_)); intro K hK) | ((first | refine zA he ?_ ?_ ?_ ?_ ?_ | refine zA (write_c d logN (encT t).1 e1 logN_ok h hw) ?_ ?_ ?_ ?_ ?_ | refine zA hs ?_ ?_ ?_ ?_ ?_); (focus exact rfl); (focus exact rfl); iterate 2 (focus ((try simp (disch := omega) only [go_sem, wrap_n, logN]) <;> (try omega) <;> fail))) | ((first | refine zN he rfl ?_ ?_ | refine zN (write_c d logN (encT t).1 e1 logN_ok h hw) rfl ?_ ?_ | refine zN hs rfl ?_ ?_); (focus ((try simp (disch := omega) only [go_sem, wrap_n, logN]) <;> (try omega) <;> fail))) | (first | ((first | refine zX he rfl ?_ ?_ | refine acallH_anyx he ?_ ?_); (focus ((try simp (disch := omega) only [go_sem, wrap_n, logN]) <;> (try omega) <;> fail))) | ((first | refine zX (write_c d logN (encT t).1 e1 logN_ok h hw) rfl ?_ ?_ | refine acallH_anyx (write_c d logN (encT t).1 e1 logN_ok h hw) ?_ ?_); (focus ((try simp (disch := omega) only [go_sem, wrap_n, logN]) <;> (try omega) <;> fail))) | ((first | refine zX hs rfl ?_ ?_ | refine acallH_anyx hs ?_ ?_); (focus ((try simp (disch := omega) only [go_sem, wrap_n, logN]) <;> (try omega) <;> fail)))) | ((first | (with_reducible refine aunder_i ?_ ?_ <;> intro hg) | with_reducible intro hg) <;> (first | (exfalso; simp at hg; done) | (have hg' := hg; (try simp only [hcs, beq_iff_eq, ge_iff_le, gt_iff_lt] at hg'); (try simp only [hg]))))) <;> (try simp (disch := omega) only [go_sem, wrap_n, logN]) <;> (repeat' with_reducible refine And.intro ?_ ?_) <;> (try (with_reducible refine hK _ ?_; clear hK K)))
| omega)
  · have hc' : (writeD d.files logN (encT t).1).2 ≠ 0 ∨ safe = false := hc
    rw [if_pos hc']; (refine zF rfl ?_ ?_ ?_ ?_; (iterate 3 (focus ((try simp (disch := omega) only [go_sem, wrap_n, logN]) <;> (try omega) <;> fail))); (try simp (disch := omega) only [go_sem, wrap_n, logN, I, B, S, inj, List.cons.injEq, and_true, true_and, and_self]))
  · have hc' : ¬ ((writeD d.files logN (encT t).1).2 ≠ 0 ∨ safe = false) := fun h => by rcases h with h | h; exact h hc.1; rw [hc.2] at h; cases h
    rw [if_neg hc']; (refine zF rfl ?_ ?_ ?_ ?_; (iterate 3 (focus ((try simp (disch := omega) only [go_sem, wrap_n, logN]) <;> (try omega) <;> fail))); (try simp (disch := omega) only [go_sem, wrap_n, logN, I, B, S, inj, List.cons.injEq, and_true, true_and, and_self]))
theorem ref_append_c (d : ADisk) (t : ATxn) (safe : Bool) (h : d.files.length * 48 ≤ 140737488351232) (hw : ∀ f, f ∈ d.files → f.wf) (hz : okI t.zxid) (hp : t.path.length ≤ 1048576) (hd : okS t.data) : acall Tryd.prog [] 16 [d.av, t.av, B safe] (ret (.tup [(appendD d.files t safe).1.av, I (appendD d.files t safe).2])) := by
  by_cases hg : goodT t = 0
  case neg =>
    have he := ref_encode_c t hz hp hd
    rw [encT_no hg] at he
    unfold appendD
    rw [if_pos hg]
    refine acall_of tabOk Tryd.func16 rfl (by kernel_rfl) (by simp [Tryd.ntmps16]) ?_; simp only [Tryd.ntmps16, Tryd.results16, List.toList_toArray, apar, List.length_nil, List.length_cons, Nat.reduceAdd]
    (repeat' first
  | (with_reducible refine AR.f ?_)
  | refine blkA_x (by decide) ?_
  | (with_reducible refine AWP.cond rfl ?_ ?_ <;> intro hc <;> (try simp only [hcs, beq_iff_eq, ge_iff_le, gt_iff_lt] at hc))
  | ((first | ((first | (with_reducible first | refine zR ?_ | refine zQ (by decide +kernel) ?_ | refine zD (by decide +kernel) ?_ | refine zE (by decide +kernel) ?_ | refine zG (by decide +kernel) ?_)); intro K hK) | ((first | refine zA he ?_ ?_ ?_ ?_ ?_); (focus exact rfl); (focus exact rfl); iterate 2 (focus ((try simp (disch := omega) only [go_sem, wrap_n]) <;> (try omega) <;> fail))) | ((first | refine zN he rfl ?_ ?_); (focus ((try simp (disch := omega) only [go_sem, wrap_n]) <;> (try omega) <;> fail))) | (first | ((first | refine zX he rfl ?_ ?_ | refine acallH_anyx he ?_ ?_); (focus ((try simp (disch := omega) only [go_sem, wrap_n]) <;> (try omega) <;> fail)))) | ((first | (with_reducible refine aunder_i ?_ ?_ <;> intro hg) | with_reducible intro hg) <;> (first | (exfalso; simp at hg; done) | (have hg' := hg; (try simp only [hcs, beq_iff_eq, ge_iff_le, gt_iff_lt] at hg'); (try simp only [hg]))))) <;> (try simp (disch := omega) only [go_sem, wrap_n]) <;> (repeat' with_reducible refine And.intro ?_ ?_) <;> (try (with_reducible refine hK _ ?_; clear hK K)))
  | omega)
    all_goals first | (exfalso; omega) | skip
    (refine zF rfl ?_ ?_ ?_ ?_; (iterate 3 (focus ((try simp (disch := omega) only [go_sem, wrap_n, default]) <;> (try omega) <;> fail))); (try simp (disch := omega) only [go_sem, wrap_n, default, I, B, S, inj, List.cons.injEq, and_true, true_and, and_self]))
  obtain ⟨e1, e2⟩ := encT_ok hg
  have he := ref_encode_c t hz hp hd
  rw [e2] at he
  unfold appendD
  rw [if_neg (fun h => h hg)]
  have hs := ref_sync_c (writeD d.files logN (encT t).1).1 logN write_wf (write_files_wf logN_ok hw)
  refine acall_of tabOk Tryd.func16 rfl (by kernel_rfl) (by simp [Tryd.ntmps16]) ?_; simp only [Tryd.ntmps16, Tryd.results16, List.toList_toArray, apar, List.length_nil, List.length_cons, Nat.reduceAdd]
  (repeat' first
| (with_reducible refine AR.f ?_)
| refine blkA_x (by decide) ?_
| (with_reducible refine AWP.cond rfl ?_ ?_ <;> intro hc <;> (try simp only [hcs, beq_iff_eq, ge_iff_le, gt_iff_lt] at hc))
| ((first | ((first | (with_reducible first | refine zR ?_ | refine zQ (by decide +kernel) ?_ | refine zD (by decide +kernel) ?_ | refine zE (by decide +kernel) ?_ | refine zG (by decide +kernel) ?_)); intro K hK) | ((first | refine zA he ?_ ?_ ?_ ?_ ?_ | refine zA (ref_write_c d logN (encT t).1 e1 logN_ok h hw) ?_ ?_ ?_ ?_ ?_ | refine zA hs ?_ ?_ ?_ ?_ ?_); (focus exact rfl); (focus exact rfl); iterate 2 (focus ((try simp (disch := omega) only [go_sem, wrap_n, logN]) <;> (try omega) <;> fail))) | ((first | refine zN he rfl ?_ ?_ | refine zN (ref_write_c d logN (encT t).1 e1 logN_ok h hw) rfl ?_ ?_ | refine zN hs rfl ?_ ?_); (focus ((try simp (disch := omega) only [go_sem, wrap_n, logN]) <;> (try omega) <;> fail))) | (first | ((first | refine zX he rfl ?_ ?_ | refine acallH_anyx he ?_ ?_); (focus ((try simp (disch := omega) only [go_sem, wrap_n, logN]) <;> (try omega) <;> fail))) | ((first | refine zX (ref_write_c d logN (encT t).1 e1 logN_ok h hw) rfl ?_ ?_ | refine acallH_anyx (ref_write_c d logN (encT t).1 e1 logN_ok h hw) ?_ ?_); (focus ((try simp (disch := omega) only [go_sem, wrap_n, logN]) <;> (try omega) <;> fail))) | ((first | refine zX hs rfl ?_ ?_ | refine acallH_anyx hs ?_ ?_); (focus ((try simp (disch := omega) only [go_sem, wrap_n, logN]) <;> (try omega) <;> fail)))) | ((first | (with_reducible refine aunder_i ?_ ?_ <;> intro hg) | with_reducible intro hg) <;> (first | (exfalso; simp at hg; done) | (have hg' := hg; (try simp only [hcs, beq_iff_eq, ge_iff_le, gt_iff_lt] at hg'); (try simp only [hg]))))) <;> (try simp (disch := omega) only [go_sem, wrap_n, logN]) <;> (repeat' with_reducible refine And.intro ?_ ?_) <;> (try (with_reducible refine hK _ ?_; clear hK K)))
| omega)
  · have hc' : (writeD d.files logN (encT t).1).2 ≠ 0 ∨ safe = false := hc
    rw [if_pos hc']; (refine zF rfl ?_ ?_ ?_ ?_; (iterate 3 (focus ((try simp (disch := omega) only [go_sem, wrap_n, logN]) <;> (try omega) <;> fail))); (try simp (disch := omega) only [go_sem, wrap_n, logN, I, B, S, inj, List.cons.injEq, and_true, true_and, and_self]))
  · have hc' : ¬ ((writeD d.files logN (encT t).1).2 ≠ 0 ∨ safe = false) := fun h => by rcases h with h | h; exact h hc.1; rw [hc.2] at h; cases h
    rw [if_neg hc']; (refine zF rfl ?_ ?_ ?_ ?_; (iterate 3 (focus ((try simp (disch := omega) only [go_sem, wrap_n, logN]) <;> (try omega) <;> fail))); (try simp (disch := omega) only [go_sem, wrap_n, logN, I, B, S, inj, List.cons.injEq, and_true, true_and, and_self]))
end Go.Proofs.YtmpfhalheaeibaaDoor
namespace Go.Proofs.YtmpfhalheaeibaaDoor
set_option linter.unusedVariables false
set_option linter.unusedSimpArgs false
open Go Go.RowKit
set_option maxRecDepth 100000
theorem numN_fold (l : List UInt8) : ∀ a : Nat, l.foldl (fun v (x : UInt8) => v * 256 + x.toNat) a = a * 256 ^ l.length + numN l := by
  induction l with
  | nil => intro a; simp [numN]
  | cons x l ih =>
    intro a
    unfold numN
    rw [List.foldl_cons, List.foldl_cons, ih, ih, List.length_cons, Nat.pow_succ]
    have : (a * 256 + x.toNat) * 256 ^ l.length = a * (256 ^ l.length * 256) + x.toNat * 256 ^ l.length := by rw [Nat.add_mul, Nat.mul_assoc, Nat.mul_comm 256 (256 ^ l.length)]
    rw [this, Nat.zero_mul, Nat.zero_add, Nat.add_assoc]
theorem numN_cons (x : UInt8) (l : List UInt8) : numN (x :: l) = x.toNat * 256 ^ l.length + numN l := by
  unfold numN
  rw [List.foldl_cons, numN_fold, Nat.zero_mul, Nat.zero_add]; rfl
theorem numN_bound : ∀ l : List UInt8, numN l < 256 ^ l.length
  | [] => by simp [numN]
  | x :: l => by
    have h := numN_bound l
    have hx := x.toNat_lt
    rw [numN_cons, List.length_cons, Nat.pow_succ]
    have : x.toNat * 256 ^ l.length ≤ 255 * 256 ^ l.length := Nat.mul_le_mul_right _ (by omega)
    omega
theorem pow8 (n : Nat) : (2 : Int) ^ (8 * n) = ((256 ^ n : Nat) : Int) := by
  rw [Int.pow_mul]; simp
theorem beB_numN : ∀ (l : List UInt8) (k : Int), beB l.length ((numN l : Int) + (256 ^ l.length : Nat) * k) = l
  | [], _ => rfl
  | x :: l, k => by
    have hb := numN_bound l
    have hx := x.toNat_lt
    rw [List.length_cons, beB]
    have e : ((numN (x :: l) : Nat) : Int) + ((256 ^ (l.length + 1) : Nat) : Int) * k = (numN l : Int) + ((256 ^ l.length : Nat) : Int) * (x.toNat + 256 * k) := by
      rw [numN_cons, Nat.pow_succ, Int.natCast_add, Int.natCast_mul, Int.natCast_mul, Int.mul_add, Int.mul_comm (x.toNat : Int), Int.mul_assoc]
      generalize ((256 ^ l.length : Nat) : Int) * _ = a
      simp only [Int.cast_ofNat_Int] at *
      omega
    rw [e, beB_numN l _]
    congr 1
    unfold byteAt
    rw [pow8, Int.add_mul_ediv_left _ _ (by have : 0 < 256 ^ l.length := Nat.pow_pos (by decide)
                                            omega), Int.ediv_eq_zero_of_lt (by omega) (by omega), Int.zero_add]
    rw [show ((x.toNat : Int) + 256 * k) % 256 = x.toNat from by omega, Int.toNat_natCast, UInt8.ofNat_toNat]
theorem beB_N (l : List UInt8) (n : Nat) (h : l.length = n) : beB n (numN l : Nat) = l := by
  subst h
  have := beB_numN l 0
  rwa [Int.mul_zero, Int.add_zero] at this
theorem numW_N (l : List UInt8) : ∃ k : Int, numW l = (numN l : Int) + 18446744073709551616 * k := by
  generalize hn : l.length = n
  induction n generalizing l with
  | zero => rw [List.length_eq_zero_iff.1 hn]; exact ⟨0, rfl⟩
  | succ n ih =>
    have e : l = l.take (n + 1) := by rw [← hn, List.take_length]
    obtain ⟨k, hk⟩ := ih (l.take n) (by rw [List.length_take]; omega)
    have h1 := numW_snoc l n (by omega)
    have h2 := numN_snoc l n (by omega)
    rw [← e] at h1 h2
    rw [h1, h2, hk, wrap_i64e]
    refine ⟨(((numN (l.take n) : Int) + 18446744073709551616 * k) * 256 + (l.getD n 0).toNat - (numN (l.take n) * 256 + (l.getD n 0).toNat : Nat) - 18446744073709551616 * ((((numN (l.take n) : Int) + 18446744073709551616 * k) * 256 + (l.getD n 0).toNat + 9223372036854775808) / 18446744073709551616)) / 18446744073709551616, ?_⟩
    omega
theorem beB_W (l : List UInt8) (h : l.length = 8) : beB 8 (numW l) = l := by
  obtain ⟨k, hk⟩ := numW_N l
  have := beB_numN l k
  rw [h] at this
  rw [hk]; exact this
theorem byteAt_one (x : UInt8) : byteAt 0 (x.toNat : Int) = x := by
  have h := x.toNat_lt
  unfold byteAt
  simp only [Nat.mul_zero, Int.pow_zero, Int.ediv_one]
  rw [show ((x.toNat : Int)) % 256 = x.toNat from by omega, Int.toNat_natCast, UInt8.ofNat_toNat]
theorem body_back {b : List UInt8} (h : bodyOk b) : bodyB (bodyT b) = b := by
  unfold bodyOk at h
  have l1 : (b.take 8).length = 8 := by rw [List.length_take]; omega
  have l2 : ((b.drop 9).take 4).length = 4 := by rw [List.length_take, List.length_drop]; omega
  have l3 : ((b.drop 13).take 4).length = 4 := by rw [List.length_take, List.length_drop]; omega
  have l4 : ((b.drop 17).take 4).length = 4 := by rw [List.length_take, List.length_drop]; omega
  have l5 : ((b.drop 22).take (bP b)).length = bP b := by rw [List.length_take, List.length_drop]; omega
  have l6 : ((b.drop (22 + bP b)).take 2).length = 2 := by rw [List.length_take, List.length_drop]; omega
  have l7 : (b.drop (24 + bP b)).length = bD b := by rw [List.length_drop]; omega
  unfold bodyB b7 b6 b5 bodyT
  simp only [l5, l7]
  rw [beB_W _ l1, beB_N _ 4 l2, beB_N _ 4 l3, beB_N _ 4 l4, byteAt_one]
  rw [show ((bP b : Nat) : Int) = ((b.getD 21 0).toNat : Int) from rfl, byteAt_one]
  rw [show bD b = numN ((b.drop (22 + bP b)).take 2) from rfl, beB_N _ 2 l6]
  have one (k : Nat) (hk : k < b.length) : [b.getD k 0] = (b.drop k).take 1 := by
    rw [List.drop_eq_getElem_cons hk, List.getD_eq_getElem?_getD, List.getElem?_eq_getElem hk]; rfl
  rw [one 8 (by omega), one 21 (by omega)]
  have j (m n k : Nat) (hk : m + n = k) : b.take m ++ (b.drop m).take n = b.take k := by subst hk; exact List.take_add.symm
  rw [j 8 1 9 rfl, j 9 4 13 rfl, j 13 4 17 rfl, j 17 4 21 rfl, j 21 1 22 rfl, j 22 (bP b) (22 + bP b) rfl, j (22 + bP b) 2 (24 + bP b) (by omega), List.take_append_drop]
theorem decT_yes {s : List UInt8} (h : (decT s).2.2 = 0) : ¬ noHead s ∧ ¬ noRoom s ∧ ¬ noSum s ∧ bodyOk (sB s) ∧ goodT (bodyT (sB s)) = 0 := by
  by_cases h1 : noHead s
  · rw [decT_a h1] at h; cases h
  by_cases h2 : noRoom s
  · rw [decT_b h1 h2] at h; cases h
  by_cases h3 : noSum s
  · rw [decT_c h1 h2 h3] at h; cases h
  by_cases h4 : bodyOk (sB s)
  case neg => rw [decT_d h1 h2 h3 h4] at h; cases h
  by_cases h5 : goodT (bodyT (sB s)) = 0
  · exact ⟨h1, h2, h3, h4, h5⟩
  · rw [decT_e h1 h2 h3 h4 h5] at h; exact absurd h h5
theorem enc_back {s : List UInt8} (h : (decT s).2.2 = 0) : encT (decT s).1 = (s.take (sN s + 7), 0) := by
  obtain ⟨h1, h2, h3, h4, h5⟩ := decT_yes h
  rw [decT_f h1 h2 h3 h4 h5]
  unfold noHead at h1
  unfold noRoom at h2
  unfold noSum at h3
  have h3' : numN ((s.drop (sN s + 3)).take 4) = sumN (s.take (sN s + 3)) := Classical.byContradiction h3
  have h84 : s.getD 0 0 = 84 := Classical.byContradiction fun e => h1 (.inr e)
  have hl : ((bodyB (bodyT (sB s))).length : Int) = (sN s : Nat) := by
    rw [body_back h4]; unfold sB; rw [List.length_take, List.length_drop]; omega
  have l2 : ((s.drop 1).take 2).length = 2 := by rw [List.length_take, List.length_drop]; omega
  have l4 : ((s.drop (sN s + 3)).take 4).length = 4 := by rw [List.length_take, List.length_drop]; omega
  have one : [(84 : UInt8)] = s.take 1 := by
    rw [← h84, List.getD_eq_getElem?_getD, List.getElem?_eq_getElem (by omega)]
    rcases s with _ | ⟨x, s⟩
    · simp at h1
    · rfl
  have j (m n k : Nat) (hk : m + n = k) : s.take m ++ (s.drop m).take n = s.take k := by subst hk; exact List.take_add.symm
  have hh : headB (bodyT (sB s)) = s.take (sN s + 3) := by
    unfold headB
    rw [hl, body_back h4, one, show sN s = numN ((s.drop 1).take 2) from rfl, beB_N _ 2 l2, j 1 2 3 rfl]
    exact j 3 _ _ (by rw [Nat.add_comm]; rfl)
  unfold encT
  rw [if_pos h5]
  unfold encB
  rw [hh, ← h3', beB_N _ 4 l4, j (sN s + 3) 4 (sN s + 7) rfl]
def encs (l : List ATxn) : List UInt8 := (l.map fun t => (encT t).1).flatten
theorem encs_snoc (l : List ATxn) (t : ATxn) : encs (l ++ [t]) = encs l ++ (encT t).1 := by unfold encs; simp
def logOk (l : List ATxn) : Prop := (∀ k, k + 1 < l.length → (l.getD k default).zxid < (l.getD (k + 1) default).zxid) ∧ ∀ t, t ∈ l → goodT t = 0
theorem logOk_nil : logOk [] := ⟨fun k h => by simp at h, fun t h => by cases h⟩
theorem logOk_snoc {l : List ATxn} {t : ATxn} (h : logOk l) (hz : 0 < l.length → lastZ l < t.zxid) (ht : goodT t = 0) : logOk (l ++ [t]) := by
  have g1 : ∀ j, j < l.length → (l ++ [t]).getD j default = l.getD j default := fun j hj => by
    rw [List.getD_eq_getElem?_getD, List.getElem?_append_left hj, List.getD_eq_getElem?_getD]
  have g2 : (l ++ [t]).getD l.length default = t := by simp [List.getD_eq_getElem?_getD]
  refine ⟨fun k hk => ?_, fun x hx => ?_⟩
  · rw [List.length_append, List.length_singleton] at hk
    rw [g1 k (by omega)]
    by_cases e : k + 1 = l.length
    · rw [e, g2]
      have := hz (by omega)
      rw [lastZ_pos (by omega), show l.length - 1 = k from by omega] at this
      exact this
    · rw [g1 _ (by omega)]; exact h.1 k (by omega)
  · rcases List.mem_append.1 hx with h1 | h1
    · exact h.2 x h1
    · rw [List.mem_singleton.1 h1]; exact ht
theorem scanG_ok (s : List UInt8) : ∀ (f at_ : Nat) (l : List ATxn), logOk l → encs l = s.take at_ → at_ ≤ s.length → logOk (scanG s f at_ l).1 ∧ encs (scanG s f at_ l).1 = s.take (scanG s f at_ l).2 ∧ (scanG s f at_ l).2 ≤ s.length
  | 0, at_, l, h1, h2, h3 => ⟨h1, h2, h3⟩
  | f + 1, at_, l, h1, h2, h3 => by
    by_cases hc : (decT (s.drop at_)).2.2 ≠ 0 ∨ (0 < l.length ∧ (decT (s.drop at_)).1.zxid ≤ lastZ l)
    · rw [scanG_stop hc]; exact ⟨h1, h2, h3⟩
    · have hz : (decT (s.drop at_)).2.2 = 0 := Classical.byContradiction fun h => hc (.inl h)
      have hr : ¬ (0 < l.length ∧ (decT (s.drop at_)).1.zxid ≤ lastZ l) := fun h => hc (.inr h)
      rcases decT_cases (s.drop at_) with ⟨c, _⟩ | ⟨_, c2, c3, _, c5⟩
      · exact absurd hz c
      rw [scanG_next hz hr c2]
      rw [List.length_drop] at c3
      refine scanG_ok s f _ _ (logOk_snoc h1 (fun h0 => ?_) c5) ?_ (by omega)
      · exact Int.not_le.1 fun h => hr ⟨h0, h⟩
      · rw [encs_snoc, h2, enc_back hz]; exact List.take_add.symm
theorem scanT_ok (s : List UInt8) : logOk (scanT s).1 ∧ encs (scanT s).1 = s.take (scanT s).2 ∧ (scanT s).2 ≤ s.length := scanG_ok s _ 0 [] logOk_nil rfl (Nat.zero_le _)
def keepL (l : List ATxn) (z : Int) : List ATxn := l.filter fun t => decide (t.zxid ≤ z)
theorem nm (l : List AFile) (k : Nat) : (l.map AFile.name).getD k [] = (l.getD k default).name := getD_map AFile.name l k default
theorem goodD_iff {l : List AFile} : goodD l = true ↔ l.length ≤ 16 ∧ ∀ k, k < l.length → fileK l k := by unfold goodD; rw [decide_eq_true_eq]
end Go.Proofs.YtmpfhalheaeibaaDoor
namespace Go.Proofs.YtmpfhalheaeibaaDoor
set_option linter.unusedVariables false
set_option linter.unusedSimpArgs false
open Go Go.RowKit
set_option maxRecDepth 100000
def recoverD (l : List AFile) : List ATxn × ADisk × Int :=
  if (readD l logN).2 = 7 then (if (writeD l logN []).2 = 0 then ([], (writeD l logN []).1, 0) else ([], default, (writeD l logN []).2))
  else if (readD l logN).2 = 0 then ((scanT (readD l logN).1).1, (changeD l logN (cutF (scanT (readD l logN).1).2)).1, 0)
  else ([], default, (readD l logN).2)
theorem read_len {l : List AFile} (key : List UInt8) : (readD l key).1.length ≤ 1048576 := by
  unfold readD
  split
  · decide
  · rename_i hg
    split
    · rename_i hm
      have hg' : goodD l = true := by simpa using hg
      have hp := place_lt hg' hm
      have := ((goodD_iff.1 hg').2 _ hp).1.2
      simp only [List.length_append]; exact this
    · decide
theorem read_zero {l : List AFile} {key : List UInt8} (h : (readD l key).2 = 0) : goodD l = true ∧ key ∈ l.map AFile.name ∧ (readD l key).1 = (l.getD (place (l.map AFile.name) key) default).safe ++ (l.getD (place (l.map AFile.name) key) default).tail := by
  unfold readD at h ⊢
  split at h
  · cases h
  · rename_i hg
    split at h
    · rename_i hm
      rw [if_neg hg, if_pos hm]
      exact ⟨by simpa using hg, hm, rfl⟩
    · cases h
theorem cut_ok {l : List AFile} {key : List UInt8} {n : Nat} (hg : goodD l = true) (hm : key ∈ l.map AFile.name) (hn : n ≤ ((l.getD (place (l.map AFile.name) key) default).safe ++ (l.getD (place (l.map AFile.name) key) default).tail).length) :
    changeD l key (cutF n) = (⟨l.set (place (l.map AFile.name) key) ⟨key, ((l.getD (place (l.map AFile.name) key) default).safe ++ (l.getD (place (l.map AFile.name) key) default).tail).take n, []⟩⟩, 0) := by
  have e : cutF n (l.getD (place (l.map AFile.name) key) default) = (⟨(l.getD (place (l.map AFile.name) key) default).name, ((l.getD (place (l.map AFile.name) key) default).safe ++ (l.getD (place (l.map AFile.name) key) default).tail).take n, []⟩, 0) := by
    rw [List.length_append] at hn
    unfold cutF; rw [if_neg (by omega), Int.toNat_natCast]
  rw [change_ok hg hm (by rw [e]), e]
  have := (place_found (goodD_rises hg) hm).2
  rw [nm] at this
  simp only [this]
theorem cut_scan {l : List AFile} (h : (readD l logN).2 = 0) : (changeD l logN (cutF (scanT (readD l logN).1).2)) = (⟨l.set (place (l.map AFile.name) logN) ⟨logN, encs (scanT (readD l logN).1).1, []⟩⟩, 0) := by
  obtain ⟨a, b, c⟩ := read_zero h
  obtain ⟨d1, d2, d3⟩ := scanT_ok (readD l logN).1
  rw [cut_ok a b (by rw [← c]; exact d3), ← c, ← d2]
structure RecOk (l : List AFile) (r : List AFile) (L : List ATxn) : Prop where
  good : goodD r = true
  mem : logN ∈ r.map AFile.name
  file : r.getD (place (r.map AFile.name) logN) default = ⟨logN, encs L, []⟩
  ok : logOk L
  len : (encs L).length ≤ 1048576
  cnt : L.length ≤ 1048577
  wf : (∀ f, f ∈ l → f.wf) → ∀ f, f ∈ r → f.wf
theorem rec_a {l : List AFile} (h : (readD l logN).2 = 7) (h2 : ¬ (writeD l logN []).2 = 0) : recoverD l = ([], default, (writeD l logN []).2) := by unfold recoverD; rw [if_pos h, if_neg h2]
theorem rec_b {l : List AFile} (h : (readD l logN).2 = 7) (h2 : (writeD l logN []).2 = 0) : recoverD l = ([], (writeD l logN []).1, 0) := by unfold recoverD; rw [if_pos h, if_pos h2]
theorem rec_c {l : List AFile} (h : ¬ (readD l logN).2 = 7) (h2 : ¬ (readD l logN).2 = 0) : recoverD l = ([], default, (readD l logN).2) := by unfold recoverD; rw [if_neg h, if_neg h2]
theorem rec_d {l : List AFile} (h : ¬ (readD l logN).2 = 7) (h2 : (readD l logN).2 = 0) : recoverD l = ((scanT (readD l logN).1).1, (changeD l logN (cutF (scanT (readD l logN).1).2)).1, 0) := by unfold recoverD; rw [if_neg h, if_pos h2]
set_option maxHeartbeats 2000000 in
theorem recover_c (d : ADisk) (h : d.files.length * 48 ≤ 140737488351232) (hw : ∀ f, f ∈ d.files → f.wf) : acall Tryd.prog [] 21 [d.av] (ret (.tup [.d (.sl 7 ((recoverD d.files).1.map ATxn.row)), (recoverD d.files).2.1.av, I (recoverD d.files).2.2])) := by
  have hr := read_c d logN h hw
  have hs := scan_c _ (read_len (l := d.files) logN)
  have hcut := cut_c d logN (scanT (readD d.files logN).1).2 h hw
  have hwr := write_c d logN [] (by unfold okS; decide) logN_ok h hw
  refine acall_of tabOk Tryd.func21 rfl (by kernel_rfl) (by simp [Tryd.ntmps21]) ?_; simp only [Tryd.ntmps21, Tryd.results21, List.toList_toArray, apar, List.length_nil, List.length_cons, Nat.reduceAdd]
  (repeat' first
| (with_reducible refine AR.f ?_)
| refine blkA_x (by decide) ?_
| (with_reducible refine AWP.cond rfl ?_ ?_ <;> intro hc <;> (try simp only [hcs, beq_iff_eq, ge_iff_le, gt_iff_lt] at hc))
| ((first | ((first | (with_reducible first | refine zR ?_ | refine zQ (by decide +kernel) ?_ | refine zD (by decide +kernel) ?_ | refine zE (by decide +kernel) ?_ | refine zG (by decide +kernel) ?_)); intro K hK) | ((first | refine zA hr ?_ ?_ ?_ ?_ ?_ | refine zA hwr ?_ ?_ ?_ ?_ ?_ | refine zA hs ?_ ?_ ?_ ?_ ?_ | refine zA hcut ?_ ?_ ?_ ?_ ?_); (focus exact rfl); (focus exact rfl); iterate 2 (focus ((try simp (disch := omega) only [go_sem, wrap_n, logN]) <;> (try omega) <;> fail))) | ((first | refine zN hr rfl ?_ ?_ | refine zN hwr rfl ?_ ?_ | refine zN hs rfl ?_ ?_ | refine zN hcut rfl ?_ ?_); (focus ((try simp (disch := omega) only [go_sem, wrap_n, logN]) <;> (try omega) <;> fail))) | (first | ((first | refine zX hr rfl ?_ ?_ | refine acallH_anyx hr ?_ ?_); (focus ((try simp (disch := omega) only [go_sem, wrap_n, logN]) <;> (try omega) <;> fail))) | ((first | refine zX hwr rfl ?_ ?_ | refine acallH_anyx hwr ?_ ?_); (focus ((try simp (disch := omega) only [go_sem, wrap_n, logN]) <;> (try omega) <;> fail))) | ((first | refine zX hs rfl ?_ ?_ | refine acallH_anyx hs ?_ ?_); (focus ((try simp (disch := omega) only [go_sem, wrap_n, logN]) <;> (try omega) <;> fail))) | ((first | refine zX hcut rfl ?_ ?_ | refine acallH_anyx hcut ?_ ?_); (focus ((try simp (disch := omega) only [go_sem, wrap_n, logN]) <;> (try omega) <;> fail)))) | ((first | (with_reducible refine aunder_i ?_ ?_ <;> intro hg) | with_reducible intro hg) <;> (first | (exfalso; simp at hg; done) | (have hg' := hg; (try simp only [hcs, beq_iff_eq, ge_iff_le, gt_iff_lt] at hg'); (try simp only [hg]))))) <;> (try simp (disch := omega) only [go_sem, wrap_n, logN]) <;> (repeat' with_reducible refine And.intro ?_ ?_) <;> (try (with_reducible refine hK _ ?_; clear hK K)))
| omega)
  · rw [rec_a (by assumption) (by assumption)]; (refine zF rfl ?_ ?_ ?_ ?_; (iterate 3 (focus ((try simp (disch := omega) only [go_sem, wrap_n, logN, default]) <;> (try omega) <;> fail))); (try simp (disch := omega) only [go_sem, wrap_n, logN, default, I, B, S, inj, List.cons.injEq, and_true, true_and, and_self]))
  · rw [rec_b (by assumption) (by assumption)]; (refine zF rfl ?_ ?_ ?_ ?_; (iterate 3 (focus ((try simp (disch := omega) only [go_sem, wrap_n, logN, default]) <;> (try omega) <;> fail))); (try simp (disch := omega) only [go_sem, wrap_n, logN, default, I, B, S, inj, List.cons.injEq, and_true, true_and, and_self]))
  · rw [rec_c (by assumption) (by assumption)]; (refine zF rfl ?_ ?_ ?_ ?_; (iterate 3 (focus ((try simp (disch := omega) only [go_sem, wrap_n, logN, default]) <;> (try omega) <;> fail))); (try simp (disch := omega) only [go_sem, wrap_n, logN, default, I, B, S, inj, List.cons.injEq, and_true, true_and, and_self]))
  · have e := cut_scan (l := d.files) (by assumption)
    exact absurd (congrArg Prod.snd e) hc
  · rw [rec_d (by assumption) (by assumption)]; (refine zF rfl ?_ ?_ ?_ ?_; (iterate 3 (focus ((try simp (disch := omega) only [go_sem, wrap_n, logN]) <;> (try omega) <;> fail))); (try simp (disch := omega) only [go_sem, wrap_n, logN, I, B, S, inj, List.cons.injEq, and_true, true_and, and_self]))
def keepD (l : List AFile) (z : Int) : ADisk × Int :=
  if (recoverD l).2.2 = 0 then (⟨(recoverD l).2.1.files.set (place ((recoverD l).2.1.files.map AFile.name) logN) ⟨logN, encs (keepL (recoverD l).1 z), []⟩⟩, 0) else (default, (recoverD l).2.2)
end Go.Proofs.YtmpfhalheaeibaaDoor
namespace Go.Proofs.YtmpfhalheaeibaaDoor
set_option linter.unusedVariables false
set_option linter.unusedSimpArgs false
open Go Go.RowKit
set_option maxRecDepth 100000
set_option linter.unusedSimpArgs false
end Go.Proofs.YtmpfhalheaeibaaDoor
namespace Go.Proofs.YtmpfhalheaeibaaDoor
set_option linter.unusedVariables false
set_option linter.unusedSimpArgs false
open Go Go.RowKit
set_option maxRecDepth 100000
set_option linter.unusedSimpArgs false
end Go.Proofs.YtmpfhalheaeibaaDoor
namespace Go.Proofs.YtmpfhalheaeibaaDoor
set_option linter.unusedVariables false
set_option linter.unusedSimpArgs false
open Go Go.RowKit
set_option maxRecDepth 100000
set_option linter.unusedSimpArgs false
def joinL : List (List UInt8) → List UInt8
  | [] => []
  | p :: ps => 47 :: (p ++ joinL ps)
def pathOf (ps : List (List UInt8)) : List UInt8 := if ps = [] then [47] else joinL ps
def stepsOf (s : List UInt8) : List (List UInt8) := if s = [47] then [] else splitB (s.drop 1)
def splitP (s : List UInt8) : (List UInt8 × List UInt8) × Int := if goodP s = true then (if stepsOf s = [] then (([], []), 7) else ((pathOf ((stepsOf s).take ((stepsOf s).length - 1)), (stepsOf s).getD ((stepsOf s).length - 1) []), 0)) else (([], []), 2)
end Go.Proofs.YtmpfhalheaeibaaDoor
namespace Go.Proofs.YtmpfhalheaeibaaDoor
set_option linter.unusedVariables false
set_option linter.unusedSimpArgs false
open Go Go.RowKit
set_option maxRecDepth 100000
set_option linter.unusedSimpArgs false
def pathsT (t : ATree) : List (List UInt8) := t.nodes.map ANode.path
def nd (t : ATree) (k : Nat) : ANode := t.nodes.getD k default
def sessOk (l : List Int) (k : Nat) : Prop := 1 ≤ l.getD k default ∧ l.getD k default ≤ 2147483647 ∧ (0 < k → l.getD (k - 1) default < l.getD k default)
instance (l : List Int) (k : Nat) : Decidable (sessOk l k) := by unfold sessOk; infer_instance
def nodeA (t : ATree) (k : Nat) : Prop := goodP (nd t k).path = true ∧ (nd t k).data.length ≤ 256 ∧ (0 < k → (nd t (k - 1)).path < (nd t k).path)
instance (t : ATree) (k : Nat) : Decidable (nodeA t k) := by unfold nodeA; infer_instance
def statB (t : ATree) (s : AStat) : Prop := 0 ≤ s.version ∧ s.version ≤ 2147483647 ∧ 0 ≤ s.cversion ∧ s.cversion ≤ 2147483647 ∧ 0 ≤ s.czxid ∧ s.czxid ≤ s.mzxid ∧ s.czxid ≤ s.pzxid ∧ s.mzxid ≤ t.zxid ∧ s.pzxid ≤ t.zxid
instance (t : ATree) (s : AStat) : Decidable (statB t s) := by unfold statB; infer_instance
def ownB (t : ATree) (s : AStat) : Prop := s.owner ≠ 0 → s.owner ∈ t.sessions ∧ s.kids = 0
instance (t : ATree) (s : AStat) : Decidable (ownB t s) := by unfold ownB; infer_instance
def dirT (t : ATree) (k : Nat) : List UInt8 := (splitP (nd t k).path).1.1
def kidsN (t : ATree) (p : List UInt8) (n : Nat) : Nat := ((List.range n).filter fun j => decide (dirT t j = p)).length
def upB (t : ATree) (k : Nat) : Prop := k = 0 ∨ dirT t k ∈ pathsT t
instance (t : ATree) (k : Nat) : Decidable (upB t k) := by unfold upB; infer_instance
def headOk (t : ATree) : Prop := 1 ≤ t.nodes.length ∧ t.nodes.length ≤ 400 ∧ (nd t 0).path = [47] ∧ (nd t 0).stat.owner = 0 ∧ goodZ t.zxid
instance (t : ATree) : Decidable (headOk t) := by unfold headOk; infer_instance
def t00 : ATree := ⟨0, [⟨[47], [], ⟨0, 0, 0, 0, 0, 0, 0⟩⟩], []⟩
theorem new_c : acall Tryd.prog [] 39 [] (ret t00.av) := by
  refine acall_of tabOk Tryd.func39 rfl (by kernel_rfl) (by simp [Tryd.ntmps39]) ?_; simp only [Tryd.ntmps39, Tryd.results39, List.toList_toArray, apar, List.length_nil, List.length_cons, Nat.reduceAdd]
  (repeat' first
| (with_reducible refine AR.f ?_)
| refine blkA_x (by decide) ?_
| (with_reducible refine AWP.cond rfl ?_ ?_ <;> intro hc <;> (try simp only [hcs, beq_iff_eq, ge_iff_le, gt_iff_lt] at hc))
| ((first | ((first | (with_reducible first | refine zR ?_ | refine zQ (by decide +kernel) ?_ | refine zD (by decide +kernel) ?_ | refine zE (by decide +kernel) ?_ | refine zG (by decide +kernel) ?_)); intro K hK) | ((first | (with_reducible refine aunder_i ?_ ?_ <;> intro hg) | with_reducible intro hg) <;> (first | (exfalso; simp at hg; done) | (have hg' := hg; (try simp only [hcs, beq_iff_eq, ge_iff_le, gt_iff_lt] at hg'); (try simp only [hg]))))) <;> (try simp (disch := omega) only [go_sem, wrap_n]) <;> (repeat' with_reducible refine And.intro ?_ ?_) <;> (try (with_reducible refine hK _ ?_; clear hK K)))
| omega)
  (refine zF rfl ?_ ?_ ?_ ?_; (iterate 3 (focus ((try simp (disch := omega) only [go_sem, wrap_n, t00]) <;> (try omega) <;> fail))); (try simp (disch := omega) only [go_sem, wrap_n, t00, I, B, S, inj, List.cons.injEq, and_true, true_and, and_self]))
theorem ref_new_c : acall Tryd.prog [] 31 [] (ret t00.av) := by
  refine acall_of tabOk Tryd.func31 rfl (by kernel_rfl) (by simp [Tryd.ntmps31]) ?_; simp only [Tryd.ntmps31, Tryd.results31, List.toList_toArray, apar, List.length_nil, List.length_cons, Nat.reduceAdd]
  (repeat' first
| (with_reducible refine AR.f ?_)
| refine blkA_x (by decide) ?_
| (with_reducible refine AWP.cond rfl ?_ ?_ <;> intro hc <;> (try simp only [hcs, beq_iff_eq, ge_iff_le, gt_iff_lt] at hc))
| ((first | ((first | (with_reducible first | refine zR ?_ | refine zQ (by decide +kernel) ?_ | refine zD (by decide +kernel) ?_ | refine zE (by decide +kernel) ?_ | refine zG (by decide +kernel) ?_)); intro K hK) | ((first | (with_reducible refine aunder_i ?_ ?_ <;> intro hg) | with_reducible intro hg) <;> (first | (exfalso; simp at hg; done) | (have hg' := hg; (try simp only [hcs, beq_iff_eq, ge_iff_le, gt_iff_lt] at hg'); (try simp only [hg]))))) <;> (try simp (disch := omega) only [go_sem, wrap_n]) <;> (repeat' with_reducible refine And.intro ?_ ?_) <;> (try (with_reducible refine hK _ ?_; clear hK K)))
| omega)
  (refine zF rfl ?_ ?_ ?_ ?_; (iterate 3 (focus ((try simp (disch := omega) only [go_sem, wrap_n, t00]) <;> (try omega) <;> fail))); (try simp (disch := omega) only [go_sem, wrap_n, t00, I, B, S, inj, List.cons.injEq, and_true, true_and, and_self]))
end Go.Proofs.YtmpfhalheaeibaaDoor
namespace Go.Proofs.YtmpfhalheaeibaaDoor
set_option linter.unusedVariables false
set_option linter.unusedSimpArgs false
open Go Go.RowKit
set_option maxRecDepth 100000
set_option linter.unusedSimpArgs false
structure TLoop (t : ATree) (i : Nat) (m : List (List UInt8 × Int)) : Prop where
  le : i ≤ t.nodes.length
  ok : ∀ j, j < i → nodeA t j ∧ statB t (nd t j).stat ∧ ownB t (nd t j).stat ∧ upB t j
  cnt : ∀ p, p ≠ [] → mval m p = (kidsN t p i : Nat)
end Go.Proofs.YtmpfhalheaeibaaDoor
namespace Go.Proofs.YtmpfhalheaeibaaDoor
set_option linter.unusedVariables false
set_option linter.unusedSimpArgs false
open Go Go.RowKit
set_option maxRecDepth 100000
set_option linter.unusedSimpArgs false
end Go.Proofs.YtmpfhalheaeibaaDoor
namespace Go.Proofs.YtmpfhalheaeibaaDoor
set_option linter.unusedVariables false
set_option linter.unusedSimpArgs false
open Go Go.RowKit
set_option maxRecDepth 100000
set_option linter.unusedSimpArgs false
theorem copyT_c (t : ATree) (hw : t.wf) : acall Tryd.prog [] 27 [t.av] (ret t.av) := by
  obtain ⟨hz, ⟨hn, hnw⟩, ⟨hs, hsw⟩⟩ := hw
  refine acall_of tabOk Tryd.func27 rfl (by kernel_rfl) (by simp [Tryd.ntmps27]) ?_; simp only [Tryd.ntmps27, Tryd.results27, List.toList_toArray, apar, List.length_nil, List.length_cons, Nat.reduceAdd]
  (repeat' first
| (with_reducible refine AR.f ?_)
| refine blkA_x (by decide) ?_
| (with_reducible refine AWP.cond rfl ?_ ?_ <;> intro hc <;> (try simp only [hcs, beq_iff_eq, ge_iff_le, gt_iff_lt] at hc))
| ((first | ((first | (with_reducible first | refine zR ?_ | refine zQ (by decide +kernel) ?_ | refine zD (by decide +kernel) ?_ | refine zE (by decide +kernel) ?_ | refine zG (by decide +kernel) ?_)); intro K hK) | ((first | (with_reducible refine aunder_i ?_ ?_ <;> intro hg) | with_reducible intro hg) <;> (first | (exfalso; simp at hg; done) | (have hg' := hg; (try simp only [hcs, beq_iff_eq, ge_iff_le, gt_iff_lt] at hg'); (try simp only [hg]))))) <;> (try simp (disch := omega) only [go_sem, wrap_n]) <;> (repeat' with_reducible refine And.intro ?_ ?_) <;> (try (with_reducible refine hK _ ?_; clear hK K)))
| omega)
  all_goals (refine zF rfl ?_ ?_ ?_ ?_; (iterate 3 (focus ((try simp (disch := omega) only [go_sem, wrap_n]) <;> (try omega) <;> fail))); (try simp (disch := omega) only [go_sem, wrap_n, I, B, S, inj, List.cons.injEq, and_true, true_and, and_self]))
theorem sameTree_c (a b : ATree) (ha : a.wf) (hb : b.wf) : acall Tryd.prog [] 32 [a.av, b.av] (ret (B (decide (a = b)))) := by
  obtain ⟨hz, ⟨hn, hnw⟩, ⟨hs, hsw⟩⟩ := ha
  obtain ⟨kz, ⟨kn, knw⟩, ⟨ks, ksw⟩⟩ := hb
  refine acall_of tabOk Tryd.func32 rfl (by kernel_rfl) (by simp [Tryd.ntmps32]) ?_; simp only [Tryd.ntmps32, Tryd.results32, List.toList_toArray, apar, List.length_nil, List.length_cons, Nat.reduceAdd]
  (repeat' first
| (with_reducible refine AR.f ?_)
| refine blkA_x (by decide) ?_
| (with_reducible refine AWP.cond rfl ?_ ?_ <;> intro hc <;> (try simp only [hcs, beq_iff_eq, ge_iff_le, gt_iff_lt] at hc))
| ((first | ((first | (with_reducible first | refine zR ?_ | refine zQ (by decide +kernel) ?_ | refine zD (by decide +kernel) ?_ | refine zE (by decide +kernel) ?_ | refine zG (by decide +kernel) ?_)); intro K hK) | ((first | (with_reducible refine aunder_i ?_ ?_ <;> intro hg) | with_reducible intro hg) <;> (first | (exfalso; simp at hg; done) | (have hg' := hg; (try simp only [hcs, beq_iff_eq, ge_iff_le, gt_iff_lt] at hg'); (try simp only [hg]))))) <;> (try simp (disch := omega) only [go_sem, wrap_n]) <;> (repeat' with_reducible refine And.intro ?_ ?_) <;> (try (with_reducible refine hK _ ?_; clear hK K)))
| omega)
  · (refine zF rfl ?_ ?_ ?_ ?_; (iterate 3 (focus ((try simp (disch := omega) only [go_sem, wrap_n]) <;> (try omega) <;> fail))); (try simp (disch := omega) only [go_sem, wrap_n, I, B, S, inj, List.cons.injEq, and_true, true_and, and_self]))
    symm; rw [decide_eq_false_iff_not]; rintro rfl
    simp at hc
  obtain ⟨⟨e1, e2⟩, e3⟩ := hc
  refine AWP.loopS (ι := Nat) (fun k => k ≤ a.nodes.length ∧ ∀ j, j < k → a.nodes.getD j default = b.nodes.getD j default) (fun k => a.nodes.length - k) [2, 3, 32] (fun k => [(33, I k)]) 0 ?_ (by simp (disch := omega) only [go_sem, wrap_n, true_and]) ?_
  · exact ⟨by omega, fun j hj => by omega⟩
  intro k ⟨hk, hk2⟩
  simp only [go_sem]
  (repeat' first
| (with_reducible refine AR.f ?_)
| refine blkA_x (by decide) ?_
| (with_reducible refine AWP.cond rfl ?_ ?_ <;> intro hc <;> (try simp only [hcs, beq_iff_eq, ge_iff_le, gt_iff_lt] at hc))
| ((first | ((first | (with_reducible first | refine zR ?_ | refine zQ (by decide +kernel) ?_ | refine zD (by decide +kernel) ?_ | refine zE (by decide +kernel) ?_ | refine zG (by decide +kernel) ?_)); intro K hK) | ((first | (with_reducible refine aunder_i ?_ ?_ <;> intro hg) | with_reducible intro hg) <;> (first | (exfalso; simp at hg; done) | (have hg' := hg; (try simp only [hcs, beq_iff_eq, ge_iff_le, gt_iff_lt] at hg'); (try simp only [hg]))))) <;> (try simp (disch := omega) only [go_sem, wrap_n]) <;> (repeat' with_reducible refine And.intro ?_ ?_) <;> (try (with_reducible refine hK _ ?_; clear hK K)))
| omega)
  · (refine zF rfl ?_ ?_ ?_ ?_; (iterate 3 (focus ((try simp (disch := omega) only [go_sem, wrap_n]) <;> (try omega) <;> fail))); (try simp (disch := omega) only [go_sem, wrap_n, I, B, S, inj, List.cons.injEq, and_true, true_and, and_self]))
    symm; rw [decide_eq_false_iff_not]; rintro rfl
    simp at hc
  · refine ⟨k + 1, ⟨by omega, fun j hj => ?_⟩, by omega, ?_⟩
    · by_cases e : j = k
      · subst e; exact (ANode.ext_iff _ _).2 hc
      · exact hk2 j (by omega)
    (refine SImp.same ?_; simp (disch := omega) only [go_sem, wrap_n, Int.natCast_add])
  have hnodes : a.nodes = b.nodes := eq_of_getD (by omega) fun j hj => hk2 j (by omega)
  clear hk hk2 hc
  refine AWP.loopS (ι := Nat) (fun j => j ≤ a.sessions.length ∧ ∀ i, i < j → a.sessions.getD i default = b.sessions.getD i default) (fun j => a.sessions.length - j) [2, 3, 50] (fun j => [(51, I j)]) 0 ?_ (by simp (disch := omega) only [go_sem, wrap_n, true_and]) ?_
  · exact ⟨by omega, fun j hj => by omega⟩
  intro j ⟨hj, hj2⟩
  simp only [go_sem]
  (repeat' first
| (with_reducible refine AR.f ?_)
| refine blkA_x (by decide) ?_
| (with_reducible refine AWP.cond rfl ?_ ?_ <;> intro hc <;> (try simp only [hcs, beq_iff_eq, ge_iff_le, gt_iff_lt] at hc))
| ((first | ((first | (with_reducible first | refine zR ?_ | refine zQ (by decide +kernel) ?_ | refine zD (by decide +kernel) ?_ | refine zE (by decide +kernel) ?_ | refine zG (by decide +kernel) ?_)); intro K hK) | ((first | (with_reducible refine aunder_i ?_ ?_ <;> intro hg) | with_reducible intro hg) <;> (first | (exfalso; simp at hg; done) | (have hg' := hg; (try simp only [hcs, beq_iff_eq, ge_iff_le, gt_iff_lt] at hg'); (try simp only [hg]))))) <;> (try simp (disch := omega) only [go_sem, wrap_n]) <;> (repeat' with_reducible refine And.intro ?_ ?_) <;> (try (with_reducible refine hK _ ?_; clear hK K)))
| omega)
  · (refine zF rfl ?_ ?_ ?_ ?_; (iterate 3 (focus ((try simp (disch := omega) only [go_sem, wrap_n]) <;> (try omega) <;> fail))); (try simp (disch := omega) only [go_sem, wrap_n, I, B, S, inj, List.cons.injEq, and_true, true_and, and_self]))
    symm; rw [decide_eq_false_iff_not]; rintro rfl
    simp at hc
  · refine ⟨j + 1, ⟨by omega, fun i hi => ?_⟩, by omega, ?_⟩
    · by_cases e : i = j
      · subst e; exact hc
      · exact hj2 i (by omega)
    (refine SImp.same ?_; simp (disch := omega) only [go_sem, wrap_n, Int.natCast_add])
  · (refine zF rfl ?_ ?_ ?_ ?_; (iterate 3 (focus ((try simp (disch := omega) only [go_sem, wrap_n]) <;> (try omega) <;> fail))); (try simp (disch := omega) only [go_sem, wrap_n, I, B, S, inj, List.cons.injEq, and_true, true_and, and_self]))
    symm; rw [decide_eq_true_eq, ATree.ext_iff]
    exact ⟨e1, hnodes, eq_of_getD (by omega) fun i hi => hj2 i (by omega)⟩
theorem t00_wf : t00.wf := by
  refine ⟨by unfold okI t00; decide, ⟨by decide, fun y hy => ?_⟩, ⟨by decide, fun y hy => by cases hy⟩⟩
  rw [List.mem_singleton.1 hy]
  unfold ANode.wf AStat.wf okS okI; decide
end Go.Proofs.YtmpfhalheaeibaaDoor
namespace Go.Proofs.YtmpfhalheaeibaaDoor
set_option linter.unusedVariables false
set_option linter.unusedSimpArgs false
open Go Go.RowKit
set_option maxRecDepth 100000
set_option linter.unusedSimpArgs false
def takeS (s : AServer) (x : ATxn) (safe : Bool) : AServer × Int :=
  if x.zxid ≤ lastZ s.peer.log then (default, 13) else if (appendD s.disk.files x safe).2 = 0 then (⟨s.up, (appendD s.disk.files x safe).1, ⟨s.peer.id, s.peer.epoch, s.peer.log ++ [x], s.peer.done⟩, s.tree, s.watches⟩, 0) else (default, (appendD s.disk.files x safe).2)
def crashS (s : AServer) (keep : Int) : AServer × Int :=
  if (crashD s.disk.files keep).2 = 0 then (⟨false, (crashD s.disk.files keep).1, ⟨s.peer.id, 0, [], 0⟩, t00, []⟩, 0) else (default, (crashD s.disk.files keep).2)
theorem txn_snoc (l : List ATxn) (x : ATxn) : l.map ATxn.row ++ [[.int .i64 x.zxid, .int .i64 x.op, .int .i64 x.session, .str x.path, .str x.data, .int .i64 x.version, .int .i64 x.owner]] = (l ++ [x]).map ATxn.row := by rw [List.map_append]; rfl
theorem txn_take (l : List ATxn) (x : ATxn) : List.take (l.length + 1) ((l ++ [x]).map ATxn.row) = (l ++ [x]).map ATxn.row := List.take_of_length_le (by simp)
theorem copyServer_c (s : AServer) (hw : s.wf) : acall Tryd.prog [] 57 [s.av] (ret s.av) := by
  obtain ⟨_, h1, h2, h3, h4⟩ := hw
  have hl1 := h2.2.2.1.1
  have hl2 := h4.1
  refine acall_of tabOk Tryd.func57 rfl (by kernel_rfl) (by simp [Tryd.ntmps57]) ?_; simp only [Tryd.ntmps57, Tryd.results57, List.toList_toArray, apar, List.length_nil, List.length_cons, Nat.reduceAdd]
  (repeat' first
| (with_reducible refine AR.f ?_)
| refine blkA_x (by decide) ?_
| (with_reducible refine AWP.cond rfl ?_ ?_ <;> intro hc <;> (try simp only [hcs, beq_iff_eq, ge_iff_le, gt_iff_lt] at hc))
| ((first | ((first | (with_reducible first | refine zR ?_ | refine zQ (by decide +kernel) ?_ | refine zD (by decide +kernel) ?_ | refine zE (by decide +kernel) ?_ | refine zG (by decide +kernel) ?_)); intro K hK) | ((first | refine zA (ref_copied_d_c s.disk h1.1) ?_ ?_ ?_ ?_ ?_ | refine zA (copyT_c s.tree h3) ?_ ?_ ?_ ?_ ?_); (focus exact rfl); (focus exact rfl); iterate 2 (focus ((try simp (disch := omega) only [go_sem, wrap_n]) <;> (try omega) <;> fail))) | ((first | refine zN (ref_copied_d_c s.disk h1.1) rfl ?_ ?_ | refine zN (copyT_c s.tree h3) rfl ?_ ?_); (focus ((try simp (disch := omega) only [go_sem, wrap_n]) <;> (try omega) <;> fail))) | (first | ((first | refine zX (ref_copied_d_c s.disk h1.1) rfl ?_ ?_ | refine acallH_anyx (ref_copied_d_c s.disk h1.1) ?_ ?_); (focus ((try simp (disch := omega) only [go_sem, wrap_n]) <;> (try omega) <;> fail))) | ((first | refine zX (copyT_c s.tree h3) rfl ?_ ?_ | refine acallH_anyx (copyT_c s.tree h3) ?_ ?_); (focus ((try simp (disch := omega) only [go_sem, wrap_n]) <;> (try omega) <;> fail)))) | ((first | (with_reducible refine aunder_i ?_ ?_ <;> intro hg) | with_reducible intro hg) <;> (first | (exfalso; simp at hg; done) | (have hg' := hg; (try simp only [hcs, beq_iff_eq, ge_iff_le, gt_iff_lt] at hg'); (try simp only [hg]))))) <;> (try simp (disch := omega) only [go_sem, wrap_n]) <;> (repeat' with_reducible refine And.intro ?_ ?_) <;> (try (with_reducible refine hK _ ?_; clear hK K)))
| omega)
  all_goals (refine zF rfl ?_ ?_ ?_ ?_; (iterate 3 (focus ((try simp (disch := omega) only [go_sem, wrap_n]) <;> (try omega) <;> fail))); (try simp (disch := omega) only [go_sem, wrap_n, I, B, S, inj, List.cons.injEq, and_true, true_and, and_self]))
theorem copyServerO_c (s : AServer) (hw : s.wf) : acall Tryd.prog [] 57 [s.av] (outs (.agg [.d (.bool s.up), .d (.sl 3 (s.disk.files.map AFile.row)), I s.peer.id, I s.peer.epoch, .osl 0 7 0 s.peer.log.length, I s.peer.done, .d (.int .i64 s.tree.zxid), .d (.sl 9 (s.tree.nodes.map ANode.row)), .d (.sl 1 (s.tree.sessions.map irow)), .osl 1 3 0 s.watches.length]) [.rows 7 (s.peer.log.map ATxn.row), .rows 3 (s.watches.map AWatch.row)]) := by
  obtain ⟨_, h1, h2, h3, h4⟩ := hw
  have hl1 := h2.2.2.1.1
  have hl2 := h4.1
  refine acall_of tabOk Tryd.func57 rfl (by kernel_rfl) (by simp [Tryd.ntmps57]) ?_; simp only [Tryd.ntmps57, Tryd.results57, List.toList_toArray, apar, List.length_nil, List.length_cons, Nat.reduceAdd]
  (repeat' first
| (with_reducible refine AR.f ?_)
| refine blkA_x (by decide) ?_
| (with_reducible refine AWP.cond rfl ?_ ?_ <;> intro hc <;> (try simp only [hcs, beq_iff_eq, ge_iff_le, gt_iff_lt] at hc))
| ((first | ((first | (with_reducible first | refine zR ?_ | refine zQ (by decide +kernel) ?_ | refine zD (by decide +kernel) ?_ | refine zE (by decide +kernel) ?_ | refine zG (by decide +kernel) ?_)); intro K hK) | ((first | refine zA (ref_copied_d_c s.disk h1.1) ?_ ?_ ?_ ?_ ?_ | refine zA (copyT_c s.tree h3) ?_ ?_ ?_ ?_ ?_); (focus exact rfl); (focus exact rfl); iterate 2 (focus ((try simp (disch := omega) only [go_sem, wrap_n]) <;> (try omega) <;> fail))) | ((first | refine zN (ref_copied_d_c s.disk h1.1) rfl ?_ ?_ | refine zN (copyT_c s.tree h3) rfl ?_ ?_); (focus ((try simp (disch := omega) only [go_sem, wrap_n]) <;> (try omega) <;> fail))) | (first | ((first | refine zX (ref_copied_d_c s.disk h1.1) rfl ?_ ?_ | refine acallH_anyx (ref_copied_d_c s.disk h1.1) ?_ ?_); (focus ((try simp (disch := omega) only [go_sem, wrap_n]) <;> (try omega) <;> fail))) | ((first | refine zX (copyT_c s.tree h3) rfl ?_ ?_ | refine acallH_anyx (copyT_c s.tree h3) ?_ ?_); (focus ((try simp (disch := omega) only [go_sem, wrap_n]) <;> (try omega) <;> fail)))) | ((first | (with_reducible refine aunder_i ?_ ?_ <;> intro hg) | with_reducible intro hg) <;> (first | (exfalso; simp at hg; done) | (have hg' := hg; (try simp only [hcs, beq_iff_eq, ge_iff_le, gt_iff_lt] at hg'); (try simp only [hg]))))) <;> (try simp (disch := omega) only [go_sem, wrap_n]) <;> (repeat' with_reducible refine And.intro ?_ ?_) <;> (try (with_reducible refine hK _ ?_; clear hK K)))
| omega)
  all_goals (refine aend_out (by first | exact .inl rfl | exact .inr rfl) ?_ ?_; (focus ((try simp (disch := omega) only [go_sem, wrap_n]) <;> fail)); simp (disch := omega) only [go_sem, wrap_n, true_and]; refine AOut.of_simp ?_ (AOut.same ⟨rfl, rfl⟩); refine SImp.frame [2, 3] rfl (by intro k hk; first | (simp at hk <;> (simp; omega)) | (simp only [List.mem_cons, List.not_mem_nil, or_false] at hk; simp only [List.length_cons, List.length_nil]; omega)) (by decide) (fun k hk => by first | omega | (rcases k with _ | _ | _ | _ | _ | _ | _ | _ | k <;> first | rfl | omega)) ?_ ?_ <;> simp (disch := omega) only [go_sem, wrap_n, true_or, or_true, true_and])
set_option maxHeartbeats 8000000 in
theorem take_c (s : AServer) (x : ATxn) (safe : Bool) (hw : s.wf) (hx : x.wf) (hl : s.peer.log.length ≤ 1048576) : acall Tryd.prog [] 56 [s.av, x.av, B safe] (ret (.tup [(takeS s x safe).1.av, I (takeS s x safe).2])) := by
  obtain ⟨_, h1, h2, h3, h4⟩ := hw
  have hlast := last_c s.peer.log h2.2.2.1.1
  have ha := append_c s.disk x safe h1.1 h1.2 hx.2.2.2.1 hx.2.2.2.2.1
  unfold takeS
  generalize appendD s.disk.files x safe = q at ha ⊢
  obtain ⟨d2, e⟩ := q
  simp only at ha ⊢
  refine acall_of tabOk Tryd.func56 rfl (by kernel_rfl) (by simp [Tryd.ntmps56]) ?_; simp only [Tryd.ntmps56, Tryd.results56, List.toList_toArray, apar, List.length_nil, List.length_cons, Nat.reduceAdd]
  (repeat' first
| (with_reducible refine AR.f ?_)
| refine blkA_x (by decide) ?_
| (with_reducible refine AWP.cond rfl ?_ ?_ <;> intro hc <;> (try simp only [hcs, beq_iff_eq, ge_iff_le, gt_iff_lt] at hc))
| ((first | ((first | refine zP ((Plan.takes [0, 2, 3, 4] (.fork 1 (Plan.takes [5, 6] .done) 5 (Plan.takes [1, 6] .done)))) (by decide +kernel) ?_ | refine zP ((Plan.takes [0, 1, 6, 7] (.forks 2 (Plan.takes [3, 4] (.forks 5 (.fork 8 (.fork 9 (Plan.takes [10, 11, 12, 13, 14, 15] .done) 10 (.fork 9 (Plan.takes [11, 12, 13, 14, 15] .done) 11 (Plan.takes [9, 12, 13, 14, 15] .done))) 10 (.fork 8 (.fork 9 (Plan.takes [11, 12, 13, 14, 15] .done) 11 (Plan.takes [9, 12, 13, 14, 15] .done)) 11 (Plan.takes [8, 9, 12, 13, 14, 15] .done))) 8 (.fork 5 (.fork 9 (Plan.takes [10, 11, 12, 13, 14, 15] .done) 10 (.fork 9 (Plan.takes [11, 12, 13, 14, 15] .done) 11 (Plan.takes [9, 12, 13, 14, 15] .done))) 10 (.fork 5 (.fork 9 (Plan.takes [11, 12, 13, 14, 15] .done) 11 (Plan.takes [9, 12, 13, 14, 15] .done)) 11 (Plan.takes [5, 9, 12, 13, 14, 15] .done))) 10 (.forks 5 (.fork 8 (.fork 9 (Plan.takes [11, 12, 13, 14, 15] .done) 11 (Plan.takes [9, 12, 13, 14, 15] .done)) 11 (Plan.takes [8, 9, 12, 13, 14, 15] .done)) 8 (.fork 5 (.fork 9 (Plan.takes [11, 12, 13, 14, 15] .done) 11 (Plan.takes [9, 12, 13, 14, 15] .done)) 11 (Plan.takes [5, 9, 12, 13, 14, 15] .done)) 11 (.fork 5 (Plan.takes [8, 9, 12, 13, 14, 15] .done) 8 (Plan.takes [5, 9, 12, 13, 14, 15] .done))))) 8 (.fork 2 (Plan.takes [3, 4] (.fork 5 (.fork 9 (Plan.takes [10, 11, 12, 13, 14, 15] .done) 10 (.fork 9 (Plan.takes [11, 12, 13, 14, 15] .done) 11 (Plan.takes [9, 12, 13, 14, 15] .done))) 10 (.fork 5 (.fork 9 (Plan.takes [11, 12, 13, 14, 15] .done) 11 (Plan.takes [9, 12, 13, 14, 15] .done)) 11 (Plan.takes [5, 9, 12, 13, 14, 15] .done)))) 10 (.fork 2 (Plan.takes [3, 4] (.fork 5 (.fork 9 (Plan.takes [11, 12, 13, 14, 15] .done) 11 (Plan.takes [9, 12, 13, 14, 15] .done)) 11 (Plan.takes [5, 9, 12, 13, 14, 15] .done))) 11 (Plan.takes [2, 3, 4, 5, 9, 12, 13, 14, 15] .done))) 10 (.forks 2 (Plan.takes [3, 4] (.forks 5 (.fork 8 (.fork 9 (Plan.takes [11, 12, 13, 14, 15] .done) 11 (Plan.takes [9, 12, 13, 14, 15] .done)) 11 (Plan.takes [8, 9, 12, 13, 14, 15] .done)) 8 (.fork 5 (.fork 9 (Plan.takes [11, 12, 13, 14, 15] .done) 11 (Plan.takes [9, 12, 13, 14, 15] .done)) 11 (Plan.takes [5, 9, 12, 13, 14, 15] .done)) 11 (.fork 5 (Plan.takes [8, 9, 12, 13, 14, 15] .done) 8 (Plan.takes [5, 9, 12, 13, 14, 15] .done)))) 8 (.fork 2 (Plan.takes [3, 4] (.fork 5 (.fork 9 (Plan.takes [11, 12, 13, 14, 15] .done) 11 (Plan.takes [9, 12, 13, 14, 15] .done)) 11 (Plan.takes [5, 9, 12, 13, 14, 15] .done))) 11 (Plan.takes [2, 3, 4, 5, 9, 12, 13, 14, 15] .done)) 11 (Plan.takes [2, 3, 4] (.fork 5 (Plan.takes [8, 9, 12, 13, 14, 15] .done) 8 (Plan.takes [5, 9, 12, 13, 14, 15] .done))))))) (by decide +kernel) ?_ | (with_reducible first | refine zR ?_ | refine zQ (by decide +kernel) ?_ | refine zD (by decide +kernel) ?_ | refine zE (by decide +kernel) ?_ | refine zG (by decide +kernel) ?_)); intro K hK) | ((first | refine zA hlast ?_ ?_ ?_ ?_ ?_ | refine zA ha ?_ ?_ ?_ ?_ ?_); (focus exact rfl); (focus exact rfl); iterate 2 (focus ((try simp (disch := omega) only [go_sem, wrap_n, txn_snoc, txn_take]) <;> (try omega) <;> fail))) | ((first | refine zN hlast rfl ?_ ?_ | refine zN ha rfl ?_ ?_); (focus ((try simp (disch := omega) only [go_sem, wrap_n, txn_snoc, txn_take]) <;> (try omega) <;> fail))) | (first | ((first | refine zX hlast rfl ?_ ?_ | refine acallH_anyx hlast ?_ ?_); (focus ((try simp (disch := omega) only [go_sem, wrap_n, txn_snoc, txn_take]) <;> (try omega) <;> fail))) | ((first | refine zX ha rfl ?_ ?_ | refine acallH_anyx ha ?_ ?_); (focus ((try simp (disch := omega) only [go_sem, wrap_n, txn_snoc, txn_take]) <;> (try omega) <;> fail)))) | ((first | (with_reducible refine aunder_i ?_ ?_ <;> intro hg) | with_reducible intro hg) <;> (first | (exfalso; simp at hg; done) | (have hg' := hg; (try simp only [hcs, beq_iff_eq, ge_iff_le, gt_iff_lt] at hg'); (try simp only [hg]))))) <;> (try simp (disch := omega) only [go_sem, wrap_n, txn_snoc, txn_take]) <;> (repeat' with_reducible refine And.intro ?_ ?_) <;> (try (with_reducible refine hK _ ?_; clear hK K)))
| omega)
  all_goals first
    | (rw [if_pos (by omega)]; (refine zF rfl ?_ ?_ ?_ ?_; (iterate 3 (focus ((try simp (disch := omega) only [go_sem, wrap_n, default]) <;> (try omega) <;> fail))); (try simp (disch := omega) only [go_sem, wrap_n, default, I, B, S, inj, List.cons.injEq, and_true, true_and, and_self])); done)
    | (rw [if_neg (by omega), if_neg (by omega)]; (refine zF rfl ?_ ?_ ?_ ?_; (iterate 3 (focus ((try simp (disch := omega) only [go_sem, wrap_n, default]) <;> (try omega) <;> fail))); (try simp (disch := omega) only [go_sem, wrap_n, default, I, B, S, inj, List.cons.injEq, and_true, true_and, and_self])); done)
    | (rw [if_neg (by omega), if_pos (by omega)]; (refine zF rfl ?_ ?_ ?_ ?_; (iterate 3 (focus ((try simp (disch := omega) only [go_sem, wrap_n, I, S, txn_snoc, txn_take]) <;> (try omega) <;> fail))); (try simp (disch := omega) only [go_sem, wrap_n, I, S, txn_snoc, txn_take, I, B, S, inj, List.cons.injEq, and_true, true_and, and_self])); done)
set_option maxHeartbeats 8000000 in
theorem ref_take_c (s : AServer) (x : ATxn) (safe : Bool) (hw : s.wf) (hx : x.wf) (hp : x.path.length ≤ 1048576) (hl : s.peer.log.length ≤ 1048576) : acall Tryd.prog [] 58 [s.av, x.av, B safe] (ret (.tup [(takeS s x safe).1.av, I (takeS s x safe).2])) := by
  have hcp := copyServerO_c s hw
  obtain ⟨_, h1, h2, h3, h4⟩ := hw
  have hlast := ref_last_c s.peer.log h2.2.2.1.1
  have ha := ref_append_c s.disk x safe h1.1 h1.2 hx.1 hp hx.2.2.2.2.1
  unfold takeS
  generalize appendD s.disk.files x safe = q at ha ⊢
  obtain ⟨d2, e⟩ := q
  simp only at ha ⊢
  refine acall_of tabOk Tryd.func58 rfl (by kernel_rfl) (by simp [Tryd.ntmps58]) ?_; simp only [Tryd.ntmps58, Tryd.results58, List.toList_toArray, apar, List.length_nil, List.length_cons, Nat.reduceAdd]
  (repeat' first
| (with_reducible refine AR.f ?_)
| refine blkA_x (by decide) ?_
| (with_reducible refine AWP.cond rfl ?_ ?_ <;> intro hc <;> (try simp only [hcs, beq_iff_eq, ge_iff_le, gt_iff_lt] at hc))
| ((first | ((first | refine zP ((Plan.takes [0, 2, 3, 4] (.fork 1 (Plan.takes [5, 6] .done) 5 (Plan.takes [1, 6] .done)))) (by decide +kernel) ?_ | (with_reducible first | refine zR ?_ | refine zQ (by decide +kernel) ?_ | refine zD (by decide +kernel) ?_ | refine zE (by decide +kernel) ?_ | refine zG (by decide +kernel) ?_)); intro K hK) | ((first | refine zA hlast ?_ ?_ ?_ ?_ ?_ | refine zA ha ?_ ?_ ?_ ?_ ?_ | refine zA hcp ?_ ?_ ?_ ?_ ?_); (focus exact rfl); (focus exact rfl); iterate 2 (focus ((try simp (disch := omega) only [go_sem, wrap_n, txn_snoc, txn_take]) <;> (try omega) <;> fail))) | ((first | refine zN hlast rfl ?_ ?_ | refine zN ha rfl ?_ ?_ | refine zN hcp rfl ?_ ?_); (focus ((try simp (disch := omega) only [go_sem, wrap_n, txn_snoc, txn_take]) <;> (try omega) <;> fail))) | (first | ((first | refine zX hlast rfl ?_ ?_ | refine acallH_anyx hlast ?_ ?_); (focus ((try simp (disch := omega) only [go_sem, wrap_n, txn_snoc, txn_take]) <;> (try omega) <;> fail))) | ((first | refine zX ha rfl ?_ ?_ | refine acallH_anyx ha ?_ ?_); (focus ((try simp (disch := omega) only [go_sem, wrap_n, txn_snoc, txn_take]) <;> (try omega) <;> fail))) | ((first | refine zX hcp rfl ?_ ?_ | refine acallH_anyx hcp ?_ ?_); (focus ((try simp (disch := omega) only [go_sem, wrap_n, txn_snoc, txn_take]) <;> (try omega) <;> fail)))) | ((first | (with_reducible refine aunder_i ?_ ?_ <;> intro hg) | with_reducible intro hg) <;> (first | (exfalso; simp at hg; done) | (have hg' := hg; (try simp only [hcs, beq_iff_eq, ge_iff_le, gt_iff_lt] at hg'); (try simp only [hg]))))) <;> (try simp (disch := omega) only [go_sem, wrap_n, txn_snoc, txn_take]) <;> (repeat' with_reducible refine And.intro ?_ ?_) <;> (try (with_reducible refine hK _ ?_; clear hK K)))
| omega)
  all_goals first
    | (rw [if_pos (by omega)]; (refine zF rfl ?_ ?_ ?_ ?_; (iterate 3 (focus ((try simp (disch := omega) only [go_sem, wrap_n, default]) <;> (try omega) <;> fail))); (try simp (disch := omega) only [go_sem, wrap_n, default, I, B, S, inj, List.cons.injEq, and_true, true_and, and_self])); done)
    | (rw [if_neg (by omega), if_neg (by omega)]; (refine zF rfl ?_ ?_ ?_ ?_; (iterate 3 (focus ((try simp (disch := omega) only [go_sem, wrap_n, default]) <;> (try omega) <;> fail))); (try simp (disch := omega) only [go_sem, wrap_n, default, I, B, S, inj, List.cons.injEq, and_true, true_and, and_self])); done)
    | (rw [if_neg (by omega), if_pos (by omega)]; (refine zF rfl ?_ ?_ ?_ ?_; (iterate 3 (focus ((try simp (disch := omega) only [go_sem, wrap_n, I, S, txn_snoc, txn_take]) <;> (try omega) <;> fail))); (try simp (disch := omega) only [go_sem, wrap_n, I, S, txn_snoc, txn_take, I, B, S, inj, List.cons.injEq, and_true, true_and, and_self])); done)
set_option maxHeartbeats 8000000 in
theorem scrash_c (s : AServer) (keep : Int) (hw : s.wf) : acall Tryd.prog [] 59 [s.av, I keep] (ret (.tup [(crashS s keep).1.av, I (crashS s keep).2])) := by
  obtain ⟨_, h1, h2, h3, h4⟩ := hw
  have ha := crash_c s.disk keep h1.1 h1.2
  unfold crashS
  generalize crashD s.disk.files keep = q at ha ⊢
  obtain ⟨d2, e⟩ := q
  simp only at ha ⊢
  refine acall_of tabOk Tryd.func59 rfl (by kernel_rfl) (by simp [Tryd.ntmps59]) ?_; simp only [Tryd.ntmps59, Tryd.results59, List.toList_toArray, apar, List.length_nil, List.length_cons, Nat.reduceAdd]
  (repeat' first
| (with_reducible refine AR.f ?_)
| refine blkA_x (by decide) ?_
| (with_reducible refine AWP.cond rfl ?_ ?_ <;> intro hc <;> (try simp only [hcs, beq_iff_eq, ge_iff_le, gt_iff_lt] at hc))
| ((first | ((first | refine zP ((Plan.takes [1, 2] (.forks 0 (.fork 3 (Plan.takes [4, 5, 6, 7, 8] .done) 5 (Plan.takes [3, 4, 6, 7, 8] .done)) 3 (Plan.takes [4] (.fork 0 (Plan.takes [5, 6, 7, 8] .done) 5 (Plan.takes [0, 6, 7, 8] .done))) 5 (Plan.takes [0, 3, 4, 6, 7, 8] .done)))) (by decide +kernel) ?_ | (with_reducible first | refine zR ?_ | refine zQ (by decide +kernel) ?_ | refine zD (by decide +kernel) ?_ | refine zE (by decide +kernel) ?_ | refine zG (by decide +kernel) ?_)); intro K hK) | ((first | refine zA ha ?_ ?_ ?_ ?_ ?_ | refine zA new_c ?_ ?_ ?_ ?_ ?_); (focus exact rfl); (focus exact rfl); iterate 2 (focus ((try simp (disch := omega) only [go_sem, wrap_n]) <;> (try omega) <;> fail))) | ((first | refine zN ha rfl ?_ ?_ | refine zN new_c rfl ?_ ?_); (focus ((try simp (disch := omega) only [go_sem, wrap_n]) <;> (try omega) <;> fail))) | (first | ((first | refine zX ha rfl ?_ ?_ | refine acallH_anyx ha ?_ ?_); (focus ((try simp (disch := omega) only [go_sem, wrap_n]) <;> (try omega) <;> fail))) | ((first | refine zX new_c rfl ?_ ?_ | refine acallH_anyx new_c ?_ ?_); (focus ((try simp (disch := omega) only [go_sem, wrap_n]) <;> (try omega) <;> fail)))) | ((first | (with_reducible refine aunder_i ?_ ?_ <;> intro hg) | with_reducible intro hg) <;> (first | (exfalso; simp at hg; done) | (have hg' := hg; (try simp only [hcs, beq_iff_eq, ge_iff_le, gt_iff_lt] at hg'); (try simp only [hg]))))) <;> (try simp (disch := omega) only [go_sem, wrap_n]) <;> (repeat' with_reducible refine And.intro ?_ ?_) <;> (try (with_reducible refine hK _ ?_; clear hK K)))
| omega)
  all_goals first
    | (rw [if_neg (by omega)]; (refine zF rfl ?_ ?_ ?_ ?_; (iterate 3 (focus ((try simp (disch := omega) only [go_sem, wrap_n, default]) <;> (try omega) <;> fail))); (try simp (disch := omega) only [go_sem, wrap_n, default, I, B, S, inj, List.cons.injEq, and_true, true_and, and_self])); done)
    | (rw [if_pos (by omega)]; (refine zF rfl ?_ ?_ ?_ ?_; (iterate 3 (focus ((try simp (disch := omega) only [go_sem, wrap_n, I, S, t00]) <;> (try omega) <;> fail))); (try simp (disch := omega) only [go_sem, wrap_n, I, S, t00, I, B, S, inj, List.cons.injEq, and_true, true_and, and_self])); done)
set_option maxHeartbeats 8000000 in
theorem ref_scrash_c (s : AServer) (keep : Int) (hw : s.wf) : acall Tryd.prog [] 60 [s.av, I keep] (ret (.tup [(crashS s keep).1.av, I (crashS s keep).2])) := by
  obtain ⟨_, h1, h2, h3, h4⟩ := hw
  have ha := ref_crash_c s.disk keep h1.1 h1.2
  unfold crashS
  generalize crashD s.disk.files keep = q at ha ⊢
  obtain ⟨d2, e⟩ := q
  simp only at ha ⊢
  refine acall_of tabOk Tryd.func60 rfl (by kernel_rfl) (by simp [Tryd.ntmps60]) ?_; simp only [Tryd.ntmps60, Tryd.results60, List.toList_toArray, apar, List.length_nil, List.length_cons, Nat.reduceAdd]
  (repeat' first
| (with_reducible refine AR.f ?_)
| refine blkA_x (by decide) ?_
| (with_reducible refine AWP.cond rfl ?_ ?_ <;> intro hc <;> (try simp only [hcs, beq_iff_eq, ge_iff_le, gt_iff_lt] at hc))
| ((first | ((first | refine zP ((Plan.takes [1, 2] (.forks 0 (.fork 3 (Plan.takes [4, 5, 6, 7, 8] .done) 5 (Plan.takes [3, 4, 6, 7, 8] .done)) 3 (Plan.takes [4] (.fork 0 (Plan.takes [5, 6, 7, 8] .done) 5 (Plan.takes [0, 6, 7, 8] .done))) 5 (Plan.takes [0, 3, 4, 6, 7, 8] .done)))) (by decide +kernel) ?_ | (with_reducible first | refine zR ?_ | refine zQ (by decide +kernel) ?_ | refine zD (by decide +kernel) ?_ | refine zE (by decide +kernel) ?_ | refine zG (by decide +kernel) ?_)); intro K hK) | ((first | refine zA ha ?_ ?_ ?_ ?_ ?_ | refine zA ref_new_c ?_ ?_ ?_ ?_ ?_); (focus exact rfl); (focus exact rfl); iterate 2 (focus ((try simp (disch := omega) only [go_sem, wrap_n]) <;> (try omega) <;> fail))) | ((first | refine zN ha rfl ?_ ?_ | refine zN ref_new_c rfl ?_ ?_); (focus ((try simp (disch := omega) only [go_sem, wrap_n]) <;> (try omega) <;> fail))) | (first | ((first | refine zX ha rfl ?_ ?_ | refine acallH_anyx ha ?_ ?_); (focus ((try simp (disch := omega) only [go_sem, wrap_n]) <;> (try omega) <;> fail))) | ((first | refine zX ref_new_c rfl ?_ ?_ | refine acallH_anyx ref_new_c ?_ ?_); (focus ((try simp (disch := omega) only [go_sem, wrap_n]) <;> (try omega) <;> fail)))) | ((first | (with_reducible refine aunder_i ?_ ?_ <;> intro hg) | with_reducible intro hg) <;> (first | (exfalso; simp at hg; done) | (have hg' := hg; (try simp only [hcs, beq_iff_eq, ge_iff_le, gt_iff_lt] at hg'); (try simp only [hg]))))) <;> (try simp (disch := omega) only [go_sem, wrap_n]) <;> (repeat' with_reducible refine And.intro ?_ ?_) <;> (try (with_reducible refine hK _ ?_; clear hK K)))
| omega)
  all_goals first
    | (rw [if_neg (by omega)]; (refine zF rfl ?_ ?_ ?_ ?_; (iterate 3 (focus ((try simp (disch := omega) only [go_sem, wrap_n, default]) <;> (try omega) <;> fail))); (try simp (disch := omega) only [go_sem, wrap_n, default, I, B, S, inj, List.cons.injEq, and_true, true_and, and_self])); done)
    | (rw [if_pos (by omega)]; (refine zF rfl ?_ ?_ ?_ ?_; (iterate 3 (focus ((try simp (disch := omega) only [go_sem, wrap_n, I, S, t00]) <;> (try omega) <;> fail))); (try simp (disch := omega) only [go_sem, wrap_n, I, S, t00, I, B, S, inj, List.cons.injEq, and_true, true_and, and_self])); done)
theorem boots_c : acall Tryd.prog [] 62 [] (ret (B true)) := by
  have hr := recover_c ⟨[]⟩ (by decide) (fun f hf => by cases hf)
  have hd := read_c ⟨[]⟩ [101, 112, 111, 99, 104] (by decide) (fun f hf => by cases hf)
  have e1 : recoverD [] = ([], ⟨[⟨[108, 111, 103], [], []⟩]⟩, 0) := by decide +kernel
  have e2 : readD [] [101, 112, 111, 99, 104] = ([], 7) := by decide +kernel
  simp only [e1] at hr
  simp only [e2] at hd
  refine acall_of tabOk Tryd.func62 rfl (by kernel_rfl) (by simp [Tryd.ntmps62]) ?_; simp only [Tryd.ntmps62, Tryd.results62, List.toList_toArray, apar, List.length_nil, List.length_cons, Nat.reduceAdd]
  (repeat' first
| (with_reducible refine AR.f ?_)
| refine blkA_x (by decide) ?_
| (with_reducible refine AWP.cond rfl ?_ ?_ <;> intro hc <;> (try simp only [hcs, beq_iff_eq, ge_iff_le, gt_iff_lt] at hc))
| (refine acallHK_in fun Kk hKk => (acall_of tabOk Tryd.func122 rfl (by kernel_rfl) (by simp [Tryd.ntmps122]) ?_); simp only [Tryd.ntmps122, Tryd.results122, List.toList_toArray, apar, List.length_nil, List.length_cons, Nat.reduceAdd, List.length_append, List.length_set, go_sem])
| (refine acallHK_in fun Kk hKk => (acall_of tabOk Tryd.func160 rfl (by kernel_rfl) (by simp [Tryd.ntmps160]) ?_); simp only [Tryd.ntmps160, Tryd.results160, List.toList_toArray, apar, List.length_nil, List.length_cons, Nat.reduceAdd, List.length_append, List.length_set, go_sem])
| ((first | ((first | refine zP ((Plan.takes [1, 2, 3, 4] (.fork 0 (Plan.takes [5, 6, 7, 8] .done) 5 (Plan.takes [0, 6, 7, 8] .done)))) (by decide +kernel) ?_ | (with_reducible first | refine zR ?_ | refine zQ (by decide +kernel) ?_ | refine zD (by decide +kernel) ?_ | refine zE (by decide +kernel) ?_ | refine zG (by decide +kernel) ?_)); intro K hK) | ((first | refine zA hr ?_ ?_ ?_ ?_ ?_ | refine zA hd ?_ ?_ ?_ ?_ ?_ | refine zA new_c ?_ ?_ ?_ ?_ ?_); (focus exact rfl); (focus exact rfl); iterate 2 (focus ((try simp (disch := omega) only [go_sem, wrap_n]) <;> (try omega) <;> fail))) | ((first | refine zN hr rfl ?_ ?_ | refine zN hd rfl ?_ ?_ | refine zN new_c rfl ?_ ?_); (focus ((try simp (disch := omega) only [go_sem, wrap_n]) <;> (try omega) <;> fail))) | (first | ((first | refine zX hr rfl ?_ ?_ | refine acallH_anyx hr ?_ ?_); (focus ((try simp (disch := omega) only [go_sem, wrap_n]) <;> (try omega) <;> fail))) | ((first | refine zX hd rfl ?_ ?_ | refine acallH_anyx hd ?_ ?_); (focus ((try simp (disch := omega) only [go_sem, wrap_n]) <;> (try omega) <;> fail))) | ((first | refine zX new_c rfl ?_ ?_ | refine acallH_anyx new_c ?_ ?_); (focus ((try simp (disch := omega) only [go_sem, wrap_n]) <;> (try omega) <;> fail)))) | (refine aend_in (v := ?_) hKk (by first | exact .inl rfl | exact .inr rfl) ?_ ?_ ?_; rotate_left; (focus ((try simp (disch := omega) only [go_sem, wrap_n]) <;> (try omega) <;> fail)); (focus ((try simp (disch := omega) only [go_sem, wrap_n]) <;> (first | done | exact rfl))); clear hKk Kk) | ((first | (with_reducible refine aunder_i ?_ ?_ <;> intro hg) | with_reducible intro hg) <;> (first | (exfalso; simp at hg; done) | (have hg' := hg; (try simp only [hcs, beq_iff_eq, ge_iff_le, gt_iff_lt] at hg'); (try simp only [hg]))))) <;> (try simp (disch := omega) only [go_sem, wrap_n]) <;> (repeat' with_reducible refine And.intro ?_ ?_) <;> (try (with_reducible refine hK _ ?_; clear hK K)))
| omega)
  all_goals (refine zF rfl ?_ ?_ ?_ ?_; (iterate 3 (focus ((try simp (disch := omega) only [go_sem, wrap_n]) <;> (try omega) <;> fail))); (try simp (disch := omega) only [go_sem, wrap_n, I, B, S, inj, List.cons.injEq, and_true, true_and, and_self]))
end Go.Proofs.YtmpfhalheaeibaaDoor
namespace Go.Proofs.YtmpfhalheaeibaaDoor
set_option linter.unusedVariables false
set_option linter.unusedSimpArgs false
open Go Go.RowKit
set_option maxRecDepth 100000
theorem same_watches_c (a b : List AWatch) (h : a.length * 32 ≤ 140737488351232) (h2 : b.length * 32 ≤ 140737488351232) : acall Tryd.prog [] 121 [.d (.sl 3 (a.map AWatch.row)), .d (.sl 3 (b.map AWatch.row))] (ret (B (decide (a = b)))) := by
  refine acall_of tabOk Tryd.func121 rfl (by kernel_rfl) (by simp [Tryd.ntmps121]) ?_; simp only [Tryd.ntmps121, Tryd.results121, List.toList_toArray, apar, List.length_nil, List.length_cons, Nat.reduceAdd]
  (repeat' first
| (with_reducible refine AR.f ?_)
| refine blkA_x (by decide) ?_
| (with_reducible refine AWP.cond rfl ?_ ?_ <;> intro hc <;> (try simp only [hcs, beq_iff_eq, ge_iff_le, gt_iff_lt] at hc))
| ((first | ((first | (with_reducible first | refine zR ?_ | refine zQ (by decide +kernel) ?_ | refine zD (by decide +kernel) ?_ | refine zE (by decide +kernel) ?_ | refine zG (by decide +kernel) ?_)); intro K hK) | ((first | (with_reducible refine aunder_i ?_ ?_ <;> intro hg) | with_reducible intro hg) <;> (first | (exfalso; simp at hg; done) | (have hg' := hg; (try simp only [hcs, beq_iff_eq, ge_iff_le, gt_iff_lt] at hg'); (try simp only [hg]))))) <;> (try simp (disch := omega) only [go_sem, wrap_n]) <;> (repeat' with_reducible refine And.intro ?_ ?_) <;> (try (with_reducible refine hK _ ?_; clear hK K)))
| omega)
  · (refine zF rfl ?_ ?_ ?_ ?_; (iterate 3 (focus ((try simp (disch := omega) only [go_sem, wrap_n]) <;> (try omega) <;> fail))); (try simp (disch := omega) only [go_sem, wrap_n, I, B, S, inj, List.cons.injEq, and_true, true_and, and_self]))
    symm; rw [decide_eq_false_iff_not]; intro e; subst e; simp at hc
  have h3 := hc
  refine AWP.loopS (ι := Nat) (fun k => k ≤ a.length ∧ ∀ j, j < k → a.getD j default = b.getD j default) (fun k => a.length - k) [0, 1, 12] (fun k => [(13, I k)]) 0 ?_ (by simp (disch := omega) only [go_sem, wrap_n, true_and]) ?_
  · exact ⟨by omega, by omega⟩
  intro k ⟨hk, hk2⟩
  simp only [go_sem]
  (repeat' first
| (with_reducible refine AR.f ?_)
| refine blkA_x (by decide) ?_
| (with_reducible refine AWP.cond rfl ?_ ?_ <;> intro hc <;> (try simp only [hcs, beq_iff_eq, ge_iff_le, gt_iff_lt] at hc))
| ((first | ((first | (with_reducible first | refine zR ?_ | refine zQ (by decide +kernel) ?_ | refine zD (by decide +kernel) ?_ | refine zE (by decide +kernel) ?_ | refine zG (by decide +kernel) ?_)); intro K hK) | ((first | (with_reducible refine aunder_i ?_ ?_ <;> intro hg) | with_reducible intro hg) <;> (first | (exfalso; simp at hg; done) | (have hg' := hg; (try simp only [hcs, beq_iff_eq, ge_iff_le, gt_iff_lt] at hg'); (try simp only [hg]))))) <;> (try simp (disch := omega) only [go_sem, wrap_n, AWatch.rgetD]) <;> (repeat' with_reducible refine And.intro ?_ ?_) <;> (try (with_reducible refine hK _ ?_; clear hK K)))
| omega)
  · (refine zF rfl ?_ ?_ ?_ ?_; (iterate 3 (focus ((try simp (disch := omega) only [go_sem, wrap_n]) <;> (try omega) <;> fail))); (try simp (disch := omega) only [go_sem, wrap_n, I, B, S, inj, List.cons.injEq, and_true, true_and, and_self]))
    symm; rw [decide_eq_false_iff_not]; intro e; subst e; simp at hc
  · refine ⟨k + 1, ⟨by omega, fun j hj => ?_⟩, by omega, ?_⟩
    · by_cases e : j = k
      · subst e; exact hc
      · exact hk2 j (by omega)
    (refine SImp.same ?_; simp (disch := omega) only [go_sem, wrap_n, Int.natCast_add])
  · (refine zF rfl ?_ ?_ ?_ ?_; (iterate 3 (focus ((try simp (disch := omega) only [go_sem, wrap_n]) <;> (try omega) <;> fail))); (try simp (disch := omega) only [go_sem, wrap_n, I, B, S, inj, List.cons.injEq, and_true, true_and, and_self]))
    symm; rw [decide_eq_true_eq]
    exact eq_of_getD (by omega) fun j hj => hk2 j (by omega)
end Go.Proofs.YtmpfhalheaeibaaDoor
namespace Go.Proofs.YtmpfhalheaeibaaDoor
set_option linter.unusedVariables false
set_option linter.unusedSimpArgs false
open Go Go.RowKit
set_option maxRecDepth 100000
set_option linter.unusedSimpArgs false
def lenS (s : AServer) : Prop := s.disk.files.length * 48 ≤ 140737488351232 ∧ s.peer.log.length * 72 ≤ 140737488351232 ∧ s.tree.wf ∧ s.watches.length * 32 ≤ 140737488351232
theorem samePeer_c (a b : APeer) (h1 : a.log.length * 72 ≤ 140737488351232) (h2 : b.log.length * 72 ≤ 140737488351232) : acall Tryd.prog [] 120 [a.av, b.av] (ret (B (decide (a = b)))) := by
  have hs := sameLog_c a.log b.log h1 h2
  refine acall_of tabOk Tryd.func120 rfl (by kernel_rfl) (by simp [Tryd.ntmps120]) ?_; simp only [Tryd.ntmps120, Tryd.results120, List.toList_toArray, apar, List.length_nil, List.length_cons, Nat.reduceAdd]
  (repeat' first
| (with_reducible refine AR.f ?_)
| refine blkA_x (by decide) ?_
| (with_reducible refine AWP.cond rfl ?_ ?_ <;> intro hc <;> (try simp only [hcs, beq_iff_eq, ge_iff_le, gt_iff_lt] at hc))
| ((first | ((first | (with_reducible first | refine zR ?_ | refine zQ (by decide +kernel) ?_ | refine zD (by decide +kernel) ?_ | refine zE (by decide +kernel) ?_ | refine zG (by decide +kernel) ?_)); intro K hK) | ((first | refine zA hs ?_ ?_ ?_ ?_ ?_); (focus exact rfl); (focus exact rfl); iterate 2 (focus ((try simp (disch := omega) only [go_sem, wrap_n]) <;> (try omega) <;> fail))) | ((first | refine zN hs rfl ?_ ?_); (focus ((try simp (disch := omega) only [go_sem, wrap_n]) <;> (try omega) <;> fail))) | (first | ((first | refine zX hs rfl ?_ ?_ | refine acallH_anyx hs ?_ ?_); (focus ((try simp (disch := omega) only [go_sem, wrap_n]) <;> (try omega) <;> fail)))) | ((first | (with_reducible refine aunder_i ?_ ?_ <;> intro hg) | with_reducible intro hg) <;> (first | (exfalso; simp at hg; done) | (have hg' := hg; (try simp only [hcs, beq_iff_eq, ge_iff_le, gt_iff_lt] at hg'); (try simp only [hg]))))) <;> (try simp (disch := omega) only [go_sem, wrap_n]) <;> (repeat' with_reducible refine And.intro ?_ ?_) <;> (try (with_reducible refine hK _ ?_; clear hK K)))
| omega)
  all_goals (refine zF rfl ?_ ?_ ?_ ?_; (iterate 3 (focus ((try simp (disch := omega) only [go_sem, wrap_n, APeer.ext_iff]) <;> (try omega) <;> fail))); (try simp (disch := omega) only [go_sem, wrap_n, APeer.ext_iff, I, B, S, inj, List.cons.injEq, and_true, true_and, and_self]))
  all_goals (try simp_all)
theorem sameServer_c (a : AServer) (h : lenS a) : acall Tryd.prog [] 61 [a.av, a.av] (ret (B true)) := by
  have hd := (same_disk_c a.disk a.disk h.1 h.1).re (congrArg B (decide_eq_true rfl))
  have hp := (samePeer_c a.peer a.peer h.2.1 h.2.1).re (congrArg B (decide_eq_true rfl))
  have ht := (sameTree_c a.tree a.tree h.2.2.1 h.2.2.1).re (congrArg B (decide_eq_true rfl))
  have hw := (same_watches_c a.watches a.watches h.2.2.2 h.2.2.2).re (congrArg B (decide_eq_true rfl))
  refine acall_of tabOk Tryd.func61 rfl (by kernel_rfl) (by simp [Tryd.ntmps61]) ?_; simp only [Tryd.ntmps61, Tryd.results61, List.toList_toArray, apar, List.length_nil, List.length_cons, Nat.reduceAdd]
  (repeat' first
| (with_reducible refine AR.f ?_)
| refine blkA_x (by decide) ?_
| (with_reducible refine AWP.cond rfl ?_ ?_ <;> intro hc <;> (try simp only [hcs, beq_iff_eq, ge_iff_le, gt_iff_lt] at hc))
| ((first | ((first | (with_reducible first | refine zR ?_ | refine zQ (by decide +kernel) ?_ | refine zD (by decide +kernel) ?_ | refine zE (by decide +kernel) ?_ | refine zG (by decide +kernel) ?_)); intro K hK) | ((first | refine zA hd ?_ ?_ ?_ ?_ ?_ | refine zA hp ?_ ?_ ?_ ?_ ?_ | refine zA ht ?_ ?_ ?_ ?_ ?_ | refine zA hw ?_ ?_ ?_ ?_ ?_); (focus exact rfl); (focus exact rfl); iterate 2 (focus ((try simp (disch := omega) only [go_sem, wrap_n]) <;> (try omega) <;> fail))) | ((first | refine zN hd rfl ?_ ?_ | refine zN hp rfl ?_ ?_ | refine zN ht rfl ?_ ?_ | refine zN hw rfl ?_ ?_); (focus ((try simp (disch := omega) only [go_sem, wrap_n]) <;> (try omega) <;> fail))) | (first | ((first | refine zX hd rfl ?_ ?_ | refine acallH_anyx hd ?_ ?_); (focus ((try simp (disch := omega) only [go_sem, wrap_n]) <;> (try omega) <;> fail))) | ((first | refine zX hp rfl ?_ ?_ | refine acallH_anyx hp ?_ ?_); (focus ((try simp (disch := omega) only [go_sem, wrap_n]) <;> (try omega) <;> fail))) | ((first | refine zX ht rfl ?_ ?_ | refine acallH_anyx ht ?_ ?_); (focus ((try simp (disch := omega) only [go_sem, wrap_n]) <;> (try omega) <;> fail))) | ((first | refine zX hw rfl ?_ ?_ | refine acallH_anyx hw ?_ ?_); (focus ((try simp (disch := omega) only [go_sem, wrap_n]) <;> (try omega) <;> fail)))) | ((first | (with_reducible refine aunder_i ?_ ?_ <;> intro hg) | with_reducible intro hg) <;> (first | (exfalso; simp at hg; done) | (have hg' := hg; (try simp only [hcs, beq_iff_eq, ge_iff_le, gt_iff_lt] at hg'); (try simp only [hg]))))) <;> (try simp (disch := omega) only [go_sem, wrap_n]) <;> (repeat' with_reducible refine And.intro ?_ ?_) <;> (try (with_reducible refine hK _ ?_; clear hK K)))
| omega)
  all_goals (refine zF rfl ?_ ?_ ?_ ?_; (iterate 3 (focus ((try simp (disch := omega) only [go_sem, wrap_n]) <;> (try omega) <;> fail))); (try simp (disch := omega) only [go_sem, wrap_n, I, B, S, inj, List.cons.injEq, and_true, true_and, and_self]))
theorem default_lenS : lenS default := ⟨by decide, by decide, ⟨by unfold okI; decide, ⟨by decide, fun _ h => by cases h⟩, by decide, fun _ h => by cases h⟩, by decide⟩
theorem take_lenS {s : AServer} {x : ATxn} {safe : Bool} (hw : s.wf) (hl : s.peer.log.length ≤ 1048576) : lenS (takeS s x safe).1 := by
  obtain ⟨_, h1, h2, h3, h4⟩ := hw
  unfold takeS
  split
  · exact default_lenS
  · split
    · exact ⟨append_wf, by show (s.peer.log ++ [x]).length * 72 ≤ _; rw [List.length_append, List.length_singleton]; omega, h3, h4.1⟩
    · exact default_lenS
theorem crash_lenS {s : AServer} {keep : Int} (hw : s.wf) : lenS (crashS s keep).1 := by
  obtain ⟨_, h1, h2, h3, h4⟩ := hw
  unfold crashS
  split
  · exact ⟨crash_wf h1.1, (by decide : 0 * 72 ≤ 140737488351232), t00_wf, (by decide : 0 * 32 ≤ 140737488351232)⟩
  · exact default_lenS
set_option maxHeartbeats 8000000 in
theorem storeTakes_w (s : AServer) (x : ATxn) (safe : Bool) (keep : Int) (hw : s.wf) (hx : x.wf) (hp : x.path.length ≤ 1048576) (hl : s.peer.log.length ≤ 1048576) : acall Tryd.prog [] 13 [s.av, x.av, B safe, I keep] (ret (B true)) := by
  have hcp := copyServer_c s hw
  have h1 := take_c s x safe hw hx hl
  have h2 := ref_take_c s x safe hw hx hp hl
  have h3 := scrash_c s keep hw
  have h4 := ref_scrash_c s keep hw
  have s1 := sameServer_c _ (take_lenS (x := x) (safe := safe) hw hl)
  have s2 := sameServer_c _ (crash_lenS (keep := keep) hw)
  generalize takeS s x safe = q at h1 h2 s1
  generalize crashS s keep = r at h3 h4 s2
  obtain ⟨a, e⟩ := q
  obtain ⟨b, f⟩ := r
  simp only at h1 h2 h3 h4 s1 s2
  refine acall_of tabOk Tryd.func13 rfl (by kernel_rfl) (by simp [Tryd.ntmps13]) ?_; simp only [Tryd.ntmps13, Tryd.results13, List.toList_toArray, apar, List.length_nil, List.length_cons, Nat.reduceAdd]
  (repeat' first
| (with_reducible refine AR.f ?_)
| refine blkA_x (by decide) ?_
| (with_reducible refine AWP.cond rfl ?_ ?_ <;> intro hc <;> (try simp only [hcs, beq_iff_eq, ge_iff_le, gt_iff_lt] at hc))
| ((first | ((first | refine zP ((Plan.takes [3] (.forks 0 (.forks 1 (.fork 2 (.fork 4 (Plan.takes [5, 6, 7, 8, 9, 10] .done) 8 (Plan.takes [4, 5, 6, 7, 9, 10] .done)) 8 (Plan.takes [2, 4, 5, 6, 7, 9, 10] .done)) 2 (.fork 1 (.fork 4 (Plan.takes [5, 6, 7, 8, 9, 10] .done) 8 (Plan.takes [4, 5, 6, 7, 9, 10] .done)) 8 (Plan.takes [1, 4, 5, 6, 7, 9, 10] .done)) 8 (.fork 1 (Plan.takes [2, 4, 5, 6, 7, 9, 10] .done) 2 (Plan.takes [1, 4, 5, 6, 7, 9, 10] .done))) 2 (.fork 0 (.fork 1 (.fork 4 (Plan.takes [5, 6, 7, 8, 9, 10] .done) 8 (Plan.takes [4, 5, 6, 7, 9, 10] .done)) 8 (Plan.takes [1, 4, 5, 6, 7, 9, 10] .done)) 8 (Plan.takes [0, 1, 4, 5, 6, 7, 9, 10] .done)) 8 (Plan.takes [0] (.fork 1 (Plan.takes [2, 4, 5, 6, 7, 9, 10] .done) 2 (Plan.takes [1, 4, 5, 6, 7, 9, 10] .done)))))) (by decide +kernel) ?_ | (with_reducible first | refine zR ?_ | refine zQ (by decide +kernel) ?_ | refine zD (by decide +kernel) ?_ | refine zE (by decide +kernel) ?_ | refine zG (by decide +kernel) ?_)); intro K hK) | ((first | refine zA hcp ?_ ?_ ?_ ?_ ?_ | refine zA h1 ?_ ?_ ?_ ?_ ?_ | refine zA h2 ?_ ?_ ?_ ?_ ?_ | refine zA h3 ?_ ?_ ?_ ?_ ?_ | refine zA h4 ?_ ?_ ?_ ?_ ?_ | refine zA s1 ?_ ?_ ?_ ?_ ?_ | refine zA s2 ?_ ?_ ?_ ?_ ?_ | refine zA boots_c ?_ ?_ ?_ ?_ ?_); (focus exact rfl); (focus exact rfl); iterate 2 (focus ((try simp (disch := omega) only [go_sem, wrap_n]) <;> (try omega) <;> fail))) | ((first | refine zN hcp rfl ?_ ?_ | refine zN h1 rfl ?_ ?_ | refine zN h2 rfl ?_ ?_ | refine zN h3 rfl ?_ ?_ | refine zN h4 rfl ?_ ?_ | refine zN s1 rfl ?_ ?_ | refine zN s2 rfl ?_ ?_ | refine zN boots_c rfl ?_ ?_); (focus ((try simp (disch := omega) only [go_sem, wrap_n]) <;> (try omega) <;> fail))) | (first | ((first | refine zX hcp rfl ?_ ?_ | refine acallH_anyx hcp ?_ ?_); (focus ((try simp (disch := omega) only [go_sem, wrap_n]) <;> (try omega) <;> fail))) | ((first | refine zX h1 rfl ?_ ?_ | refine acallH_anyx h1 ?_ ?_); (focus ((try simp (disch := omega) only [go_sem, wrap_n]) <;> (try omega) <;> fail))) | ((first | refine zX h2 rfl ?_ ?_ | refine acallH_anyx h2 ?_ ?_); (focus ((try simp (disch := omega) only [go_sem, wrap_n]) <;> (try omega) <;> fail))) | ((first | refine zX h3 rfl ?_ ?_ | refine acallH_anyx h3 ?_ ?_); (focus ((try simp (disch := omega) only [go_sem, wrap_n]) <;> (try omega) <;> fail))) | ((first | refine zX h4 rfl ?_ ?_ | refine acallH_anyx h4 ?_ ?_); (focus ((try simp (disch := omega) only [go_sem, wrap_n]) <;> (try omega) <;> fail))) | ((first | refine zX s1 rfl ?_ ?_ | refine acallH_anyx s1 ?_ ?_); (focus ((try simp (disch := omega) only [go_sem, wrap_n]) <;> (try omega) <;> fail))) | ((first | refine zX s2 rfl ?_ ?_ | refine acallH_anyx s2 ?_ ?_); (focus ((try simp (disch := omega) only [go_sem, wrap_n]) <;> (try omega) <;> fail))) | ((first | refine zX boots_c rfl ?_ ?_ | refine acallH_anyx boots_c ?_ ?_); (focus ((try simp (disch := omega) only [go_sem, wrap_n]) <;> (try omega) <;> fail)))) | ((first | (with_reducible refine aunder_i ?_ ?_ <;> intro hg) | with_reducible intro hg) <;> (first | (exfalso; simp at hg; done) | (have hg' := hg; (try simp only [hcs, beq_iff_eq, ge_iff_le, gt_iff_lt] at hg'); (try simp only [hg]))))) <;> (try simp (disch := omega) only [go_sem, wrap_n]) <;> (repeat' with_reducible refine And.intro ?_ ?_) <;> (try (with_reducible refine hK _ ?_; clear hK K)))
| omega)
  all_goals (refine zF rfl ?_ ?_ ?_ ?_; (iterate 3 (focus ((try simp (disch := omega) only [go_sem, wrap_n]) <;> (try omega) <;> fail))); (try simp (disch := omega) only [go_sem, wrap_n, I, B, S, inj, List.cons.injEq, and_true, true_and, and_self]))
theorem storeTakes_u (dss : List (List DV)) (h : typeds T 6 Tryd.f13.params.toList dss) (hs : ∀ cs, cs ∈ dss → ∀ c, c ∈ cs → SmallD 1048576 c) : acall Tryd.prog [] 13 (aargs T Tryd.f13.params.toList dss) (fun v _ => v = B true) := by
  rw [Tryd.params13] at h ⊢
  simp only [List.toList_toArray, typeds] at h
  obtain ⟨c0, d0, rfl, h0, c1, d1, rfl, h1, c2, d2, rfl, h2, c3, d3, rfl, h3, rfl⟩ := h
  have s0 := hs c0 (by simp)
  have s1 := hs c1 (by simp)
  have s2 := hs c2 (by simp)
  have s3 := hs c3 (by simp)
  obtain ⟨s, rfl, w_s⟩ := AServer_typed (m := 0) h0
  obtain ⟨x, rfl, w_x⟩ := ATxn_typed (m := 4) h1
  obtain ⟨safe, rfl⟩ := ty_bool (m := 5) (by simp only [T_4, ty4]) h2
  obtain ⟨keep, rfl, w_keep⟩ := ty_int (m := 5) (by simp only [T_3, ty3]) h3
  have u_s := s0
  have u_x := s1
  have u_safe := s2
  have u_keep := s3
  simp only [List.toList_toArray, aargs, aarg, TI.agg_mk, T_3, ty3, T_4, ty4, T_26, ty26, T_89, ty89]
  exact (storeTakes_w s x safe keep w_s w_x (u_x (DV.str x.path) (by simp [ATxn.row])).len (by simpa using (u_s (DV.sl 7 (s.peer.log.map ATxn.row)) (by simp [AServer.row])).rows.1)).mono fun _ _ h => h.1
end Go.Proofs.YtmpfhalheaeibaaDoor
