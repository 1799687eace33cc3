/-
  Contract: ref.FlashCopy: the same flash, in memory of the call's own.
-/
import Derived.Test.YtjhfomihlobjgaaCCopyRel
import Derived.Test.YtjhfomihlobjgaaCRegL
import Derived.Deep.RegionLaw
import Derived.Deep.AppendLies
import Derived.Deep.CutBlock
import Derived.Conc.WalkWords
namespace Go.Proofs.Ytjhfomihlobjgaa.D
open Go.RowKit
theorem take_snocP (ps : List Page) (k : Nat) (hk : k < ps.length) : ps.take (k + 1) = ps.take k ++ [ps[k]] := List.take_succ_eq_append_getElem hk
theorem news_bytes {w : World} {b o : Nat} {l : Str} (h : ∀ i (hi : i < l.length), w.cell? ⟨b, o + i, none⟩ = some (.int .u8 (l[i].toNat : Int))) : ∀ j u, (l.map byteV)[j]? = some u → w.cell? ((⟨b, o, none⟩ : Addr).add j) = some u := by
  intro j u hu
  obtain ⟨hj, hv⟩ := List.getElem?_eq_some_iff.1 hu
  rw [addr_add, h j (by simpa using hj), ← hv]; simp
/-- the blocks ahead of number n are as they were -/
def SameTo (n : Nat) (w w' : World) : Prop := ∀ b, b < n → w'.heap[b]? = w.heap[b]?
theorem SameTo.refl (n : Nat) (w : World) : SameTo n w w := fun _ _ => rfl
theorem SameTo.cell {n : Nat} {w w' : World} (h : SameTo n w w') {b o : Nat} {v : Value} (hb : b < n) (hc : w.cell? ⟨b, o, none⟩ = some v) : w'.cell? ⟨b, o, none⟩ = some v :=
  (World.cell?_of_block (w := w) (h b hb)).trans hc
theorem SameTo.free {n : Nat} {w w' : World} (h : SameTo n w w') {b o : Nat} {x : Bool} (hb : b < n) (hc : w.frozen? ⟨b, o, none⟩ = x) : w'.frozen? ⟨b, o, none⟩ = x :=
  (World.frozen?_of_block (w := w) (h b hb)).trans hc
theorem SameTo.grown {n : Nat} {w w' w2 : World} {row : Option Nat} (h : SameTo n w w') (hg : w'.grownBy w2 row) (hn : n ≤ w'.heap.size) (hr : ∀ b, row = some b → n ≤ b) : SameTo n w w2 := fun b hb =>
  (hg.block b (by omega) (fun e => by have := hr b e.symm; omega)).trans (h b hb)
theorem SameTo.alloc {n : Nat} {w w' : World} (h : SameTo n w w') (hn : n ≤ w'.heap.size) (o : Obj) : SameTo n w (w'.alloc o) := fun b hb =>
  (Below.heap_alloc w' o b (by omega)).trans (h b hb)
/-- bytes behind nothing: new bytes: one step of a region that draws -/
theorem step_bytes {ops : Array Oper} {o : Oper} {a : Act} {K : Act → World → Prop} {Q : Exit → Act → World → Prop} {E : Prop} (W : World) (hgd : o.guard = none) (s x : Operand)
    (ho : o.op = .call { callee := .builtin .append, args := #[s, x], argTypes := #[67, 67] }) (base c : Nat) (ad : Option Addr) (l : Str)
    (hs : a.eval s = .slice none 0 0) (hx : a.eval x = .slice ad l.length c) (hn : BytesAt W ad l)
    (hk : l.length ≤ 140737488355328) (hbase : base ≤ W.heap.size)
    (h : ∀ ua uc w', w'.ownsRow base 5 1 (.slice ua l.length uc) l.length (l.map byteV) → W.grownBy w' none → (∀ b, (Value.slice ua l.length uc).ownBlock = some b → W.heap.size ≤ b) → K (a.put o.dst (.slice ua l.length uc)) w') :
    if Region.wanted o (yielded ops a.tmps) = true then Oper.wp Try.prog o a W K Q else E := by
  obtain ⟨j0, hj, hw0, hw1, hw2⟩ := info_parts infoByte
  rcases Nat.eq_zero_or_pos l.length with h0 | h0
  · obtain rfl := List.eq_nil_of_length_eq_zero h0
    have hw : Region.wanted o (yielded ops a.tmps) = true := by simp [Region.wanted, hgd]
    rw [if_pos hw]
    have hr : (Builtin.append_ #[67, 67] o.type #[.slice none 0 0, .slice ad 0 c]).run Try.prog W = .ok (.slice none 0 0) W := by
      cases ad with
      | none => simp [Builtin.append_, go_sem]
      | some ad => simp [Builtin.append_, go_sem]
    unfold Oper.wp execOp
    simp only [ho, resolve, invoke, builtin, Sem.run_bind, Sem.run_pure, Result.andThen_ok, List.map_toArray, List.map_cons, List.map_nil, hs, hx, List.length_nil, hr]
    exact h _ _ _ (World.ownsRow_nil _ _ _ _) ⟨rfl, rfl, rfl, Nat.le_refl _, fun _ _ _ => rfl⟩ (fun b h => by cases h)
  · obtain ⟨b, of, rfl, hc⟩ := hn.pos h0
    refine step_append_lies W hgd s x _ ho base 5 j0 _ 1 1 Try.underlying67 hj hw0 hw1 hw2 rfl (by decide) (.slice none 0 0) 0 [] hs (World.ownsRow_nil _ _ _ _) ⟨b, of, none⟩ l.length c (l.map byteV) hx (by simp) (news_bytes hc) (by simp [Value.oneCell']) h0 (by unfold maxLen; omega) (by omega) hbase _ rfl ?_
    intro g cap w' h1 h2 h3 h4
    rw [Nat.zero_add] at h1 ⊢
    rw [List.nil_append] at h1
    refine h _ _ w' h1 h2 (fun b hb => ?_)
    cases hb
    rcases h3 with h3 | h3
    · cases h3
    · exact Nat.le_of_eq h3.symm
/-- a page more behind pages of the call's own: one step of a region that draws -/
theorem step_page {ops : Array Oper} {o : Oper} {a : Act} {K : Act → World → Prop} {Q : Exit → Act → World → Prop} {E : Prop} (W : World) (hgd : o.guard = none) (s x : Operand)
    (ho : o.op = .call { callee := .builtin .append, args := #[s, x], argTypes := #[26, 26] }) (base k B : Nat) (v u : Value) (pn : Int) (xs : List Value)
    (hs : a.eval s = v) (hx : a.eval x = .slice (some ⟨B, 0, none⟩) 1 1) (hown : W.ownsRow base 69 2 v k xs) (hb : W.heap[B]? = some (.cells #[.int .i64 pn, u] 69 (0, 0))) (hu : u.oneCell' = true)
    (hk : (k + 1) * 32 ≤ 140737488355328) (hbase : base ≤ W.heap.size)
    (h : ∀ g cap w', w'.ownsRow base 69 2 (.slice (some ⟨g, 0, none⟩) (k + 1) cap) (k + 1) (xs ++ [.int .i64 pn, u]) → W.grownBy w' v.ownBlock → (v.ownBlock = some g ∨ g = W.heap.size) → g < w'.heap.size → K (a.put o.dst (.slice (some ⟨g, 0, none⟩) (k + 1) cap)) w') :
    if Region.wanted o (yielded ops a.tmps) = true then Oper.wp Try.prog o a W K Q else E := by
  obtain ⟨j0, hj, hw0, hw1, hw2⟩ := info_parts infoPage
  exact step_append_lies W hgd s x _ ho base 69 j0 _ 2 32 Try.underlying26 hj hw0 hw1 hw2 rfl (by decide) v k xs hs hown ⟨B, 0, none⟩ 1 1 [.int .i64 pn, u] hx rfl (World.news_of_block hb) (ones (by rw [List.all_cons, List.all_cons, hu]; rfl)) (by decide) (by unfold maxLen; omega) hk hbase _ rfl h
set_option maxHeartbeats 2000000 in
set_option maxRecDepth 100000 in
theorem ref_FlashCopy (f : Flash) (a : Option Addr) (c : Nat) (w : World) (h : RowsAt w a 2 (PageR w) f.pages) (hn : f.pages.length * 32 ≤ 140737488355328)
    (hby : ∀ p ∈ f.pages, p.bytes.length ≤ 140737488355328) :
    Calls Try.prog 30 #[.agg #[.int .i64 f.most, .int .i64 f.next, .slice a f.pages.length c]] w (CopyEnd f w) := by
  have H := Lib.hid h
  have HB := Lib.hid hby
  clear h hby
  go_enter Try.func30, Try.ntmps30
  go_wp2_with fail
  go_loopg [4] f.pages.length (fun g i wr => ∃ k : Nat, ∃ vs va vc, g + k = f.pages.length ∧ i = .int .i64 k ∧ CopyRel f a c w k vs va vc wr)
  case atStart => exact ⟨0, [], none, 0, by omega, rfl, by unfold CopyRel; exact ⟨PagesOwn.mk rfl (World.ownsRow_nil _ _ _ _) (fun j p u h => by simp at h) (fun i j u u' b _ h => by simp at h), by go_grown, by go_size, by go_simp, by go_simp, by go_simp, by go_simp, fun j => by go_simp, by go_simp, by go_simp, by go_simp, fun j => by go_simp⟩⟩
  case round =>
    obtain ⟨k, vs, va, vc, hgk, rfl, hcr⟩ := hrel
    have HCR := Lib.hid hcr
    obtain ⟨hp, hbl, hsz, d2, r0, r1, r2, rz, o0, o1, o2, oz⟩ := hcr
    have HP := Lib.hid hp
    clear hp
    by_cases hlt : k < f.pages.length
    ·
      obtain ⟨b, o, rfl, hc⟩ := H.out.pos (by omega)
      obtain ⟨cs, _, ⟨hI, ba, bc, hcs, hby, hb1, hb2, hb3⟩, h3⟩ := hc k hlt
      have HT := Lib.hid (take_snocP f.pages k hlt)
      obtain ⟨p, hp⟩ : ∃ p, p = f.pages[k] := ⟨_, rfl⟩
      rw [← hp] at hcs hby hb1 hb2 hI HT
      obtain ⟨pn, pb⟩ := p
      simp only at hcs hby hb1 hb2 hI HT
      subst hcs
      have hkp := Below.keeps hbl
      have cw0 := h3 0 _ rfl
      rw [Nat.add_zero] at cw0
      have hbw : b < w.heap.size := cell_lt cw0
      have c0 := hkp _ _ cw0
      have c1 := hkp _ _ (h3 1 _ rfl)
      have HBY : Hid (∀ w', Keeps w w' → BytesAt w' ba pb) := fun w' q => BytesAt.keep hby q
      have HKP := Lib.hid hkp
      have hl1 : List.length pb ≤ 140737488351232 := hb1
      have HROW := Lib.hid (show wr.ownsRow (w.heap.size + 3) 69 2 (.slice va k vc) k (pageCells (f.pages.take k) vs) by have h := HP.out.row; rwa [List.length_take, Nat.min_eq_left (by omega)] at h)
      clear hby hkp h3 hc hp hI hb1 cw0
      have hkk : (k + 1) * 32 ≤ 140737488355328 := by omega
      have C0 := Lib.hid c0
      have C1 := Lib.hid c1
      have D2 := Lib.hid d2
      have O2 := Lib.hid o2
      have OZ := Lib.hid oz
      have S0 : SameTo (w.heap.size + 3) wr wr.drew := SameTo.refl _ _
      clear c0 c1 o2 oz r0 r1 r2 rz o0 o1 hbl
      go_upto_block 1 with (fail)
      go_cut [] (fun wx => ∃ vs' va' vc', CopyRel f (some ⟨b, o, none⟩) c w (k + 1) vs' va' vc' wx)
      case first =>
        go_wp2_with fail
        refine wp_region_L (SameTo (w.heap.size + 3) wr) 19 20 (by kernel_rfl) (by kernel_rfl) S0 (fun hHeld => ?_)
        refine wpAnyL_take (i := 0) (v := ?_) rfl (by kernel_rfl) (fun _ _ _ h => h) (Or.inl ⟨by rfl, ?_⟩) (by assumption) ?_
        rotate_left
        · intro wS hSw; go_simp <;> with_reducible rfl
        walk_nrm
        refine wpAnyL_take (i := 1) (v := ?_) rfl (by kernel_rfl) (fun _ _ _ h => h) (Or.inl ⟨by rfl, ?_⟩) (by assumption) ?_
        rotate_left
        · intro wS hSw; have q := hSw.cell (by omega) O2.out; go_simp <;> with_reducible rfl
        walk_nrm
        refine wpAnyL_take (i := 2) (v := ?_) rfl (by kernel_rfl) (fun _ _ _ h => h) (Or.inl ⟨by rfl, ?_⟩) (by assumption) ?_
        rotate_left
        · intro wS hSw; go_simp <;> with_reducible rfl
        walk_nrm
        refine wpAnyL_take (i := 3) (v := ?_) rfl (by kernel_rfl) (fun _ _ _ h => h) (Or.inl ⟨by rfl, ?_⟩) (by assumption) ?_
        rotate_left
        · intro wS hSw; have q := hSw.cell (by omega) D2.out; go_simp <;> with_reducible rfl
        walk_nrm
        refine wpAnyL_take (i := 4) (v := ?_) rfl (by kernel_rfl) (fun _ _ _ h => h) (Or.inl ⟨by rfl, ?_⟩) (by assumption) ?_
        rotate_left
        · intro wS hSw; go_simp <;> with_reducible rfl
        walk_nrm
        refine wpAnyL_take (i := 5) (v := ?_) rfl (by kernel_rfl) (fun _ _ _ h => h) (Or.inl ⟨by rfl, ?_⟩) (by assumption) ?_
        rotate_left
        · intro wS hSw; go_simp <;> with_reducible rfl
        walk_nrm
        refine wpAnyL_take (i := 6) (v := ?_) rfl (by kernel_rfl) (fun _ _ _ h => h) (Or.inl ⟨by rfl, ?_⟩) (by assumption) ?_
        rotate_left
        · intro wS hSw; go_simp <;> with_reducible rfl
        walk_nrm
        refine wpAnyL_take (i := 7) (v := ?_) rfl (by kernel_rfl) (fun _ _ _ h => h) (Or.inl ⟨by rfl, ?_⟩) (by assumption) ?_
        rotate_left
        · intro wS hSw; have q := hSw.cell (by omega) C0.out; go_simp <;> with_reducible rfl
        walk_nrm
        refine wpAnyL_take (i := 8) (v := ?_) rfl (by kernel_rfl) (fun _ _ _ h => h) (Or.inl ⟨by rfl, ?_⟩) (by assumption) ?_
        rotate_left
        · intro wS hSw; go_simp <;> with_reducible rfl
        walk_nrm
        refine wpAnyL_take (i := 9) (v := ?_) rfl (by kernel_rfl) (fun _ _ _ h => h) (Or.inl ⟨by rfl, ?_⟩) (by assumption) ?_
        rotate_left
        · intro wS hSw; have q := hSw.cell (by omega) D2.out; go_simp <;> with_reducible rfl
        walk_nrm
        refine wpAnyL_take (i := 10) (v := ?_) rfl (by kernel_rfl) (fun _ _ _ h => h) (Or.inl ⟨by rfl, ?_⟩) (by assumption) ?_
        rotate_left
        · intro wS hSw; go_simp <;> with_reducible rfl
        walk_nrm
        refine wpAnyL_take (i := 11) (v := ?_) rfl (by kernel_rfl) (fun _ _ _ h => h) (Or.inl ⟨by rfl, ?_⟩) (by assumption) ?_
        rotate_left
        · intro wS hSw; go_simp <;> with_reducible rfl
        walk_nrm
        refine wpAnyL_take (i := 12) (v := ?_) rfl (by kernel_rfl) (fun _ _ _ h => h) (Or.inl ⟨by rfl, ?_⟩) (by assumption) ?_
        rotate_left
        · intro wS hSw; go_simp <;> with_reducible rfl
        walk_nrm
        refine wpAnyL_take (i := 13) (v := ?_) rfl (by kernel_rfl) (fun _ _ _ h => h) (Or.inl ⟨by rfl, ?_⟩) (by assumption) ?_
        rotate_left
        · intro wS hSw; have q := hSw.cell (by omega) C1.out; go_simp <;> with_reducible rfl
        walk_nrm
        refine wpAnyL_step (i := 14) rfl (by kernel_rfl) (fun K hK => ?_)
        refine step_bytes _ rfl (.const (.slice none 0 0)) (.tmp 30) rfl (w.heap.size + 3) bc ba pb rfl rfl (HBY.out _ HKP.out) (by omega) hsz ?_
        intro ua uc w2 hu hg1 hnew
        have hz2 : w.heap.size + 3 ≤ w2.heap.size := Nat.le_trans hsz hg1.size
        have S1 : SameTo (w.heap.size + 3) wr w2 := S0.grown hg1 hsz (fun b h => by cases h)
        have Hb1 : Hid (Below wr.heap.size wr w2) := Below.grown (Below.refl _ _).drew hg1 (Nat.le_refl _) (fun b h => by cases h)
        have HU := Lib.hid hu
        have HN := Lib.hid hnew
        refine hK.out _ _ S1 (fun hHeld1 => ?_)
        clear hK K hu hg1 hnew S0 hHeld
        walk_nrm
        refine wpAnyL_take (i := 15) (v := ?_) rfl (by kernel_rfl) (fun _ _ _ h => h) (Or.inl ⟨by rfl, ?_⟩) (by assumption) ?_
        rotate_left
        · intro wS hSw; go_simp <;> with_reducible rfl
        walk_nrm
        refine wpAnyL_step (i := 16) rfl (by kernel_rfl) (fun K hK => ?_)
        go_simp
        have hz3 : w.heap.size + 3 ≤ (w2.alloc (.cells #[.int .i64 pn, .slice ua pb.length uc] 69)).heap.size := by simp; omega
        have S2 : SameTo (w.heap.size + 3) wr (w2.alloc (.cells #[.int .i64 pn, .slice ua pb.length uc] 69)) := S1.alloc hz2 _
        have HB2 : Hid (Below wr.heap.size wr (w2.alloc (.cells #[.int .i64 pn, .slice ua pb.length uc] 69))) := Hb1.out.alloc Hb1.out.size _
        have Hblk : Hid ((w2.alloc (.cells #[.int .i64 pn, .slice ua pb.length uc] 69)).heap[w2.heap.size]? = some (.cells #[.int .i64 pn, .slice ua pb.length uc] 69 (0, 0))) := blk_new w2 _
        have Hown : Hid ((w2.alloc (.cells #[.int .i64 pn, .slice ua pb.length uc] 69)).ownsRow (w.heap.size + 3) 69 2 (.slice va k vc) k (pageCells (f.pages.take k) vs)) := owns_below HROW.out HB2.out
        have HU2 : Hid ((w2.alloc (.cells #[.int .i64 pn, .slice ua pb.length uc] 69)).ownsRow (w.heap.size + 3) 5 1 (.slice ua pb.length uc) pb.length (pb.map byteV)) := HU.out.alloc _
        refine hK.out _ _ S2 (fun hHeld2 => ?_)
        clear hK K S1 hHeld1
        walk_nrm
        refine wpAnyL_step (i := 17) rfl (by kernel_rfl) (fun K hK => ?_)
        refine step_page _ rfl (.tmp 18) (.tmp 33) rfl (w.heap.size + 3) k w2.heap.size (.slice va k vc) (.slice ua pb.length uc) pn _ rfl rfl Hown.out Hblk.out rfl hkk hz3 ?_
        intro gp cp w3 how3 hgr3 hat3 hlt3
        have S3 : SameTo (w.heap.size + 3) wr w3 := S2.grown hgr3 hz3 (fun b h => (Hown.out.lt b h).1)
        have HR3 := Lib.hid (HCR.out.more HB2.out hlt HT how3 hgr3 HU2.out HN.out)
        refine hK.out _ _ S3 (fun hHeld3 => ?_)
        clear hK K S2 hHeld2 how3 hgr3 hat3
        walk_nrm
        refine wpAnyL_take (i := 18) (v := ?_) rfl (by kernel_rfl) (fun _ _ _ h => h) (Or.inl ⟨by rfl, ?_⟩) (by assumption) ?_
        rotate_left
        · intro wS hSw; go_simp <;> with_reducible rfl
        walk_nrm
        refine wpAnyL_last rfl (by kernel_rfl) (fun K hK => ?_)
        have q := S3.cell (by omega) O2.out
        have qz := fun j => S3.free (o := j) (by omega) (OZ.out j)
        go_simp
        refine hK.out _ _ ?_
        clear hK K
        walk_nrm
        refine wpAnyL_done (by kernel_rfl) ?_ _
        go_wp2_with fail
        go_meet
        exact ⟨_, _, _, HR3.out⟩
      case rest =>
        obtain ⟨vs', va', vc', hcr'⟩ := hcut
        go_wp2_with fail
        go_roundg (gk - 1)
        case measure => omega
        case rel => exact ⟨k + 1, vs', va', vc', by omega, by go_num, hcr'⟩
    ·
      obtain rfl : k = f.pages.length := by omega
      have HP2 : Hid (PagesOwn (w.heap.size + 3) wr (.slice va f.pages.length vc) f.pages vs) := by
        have h := HP.out
        rw [List.take_length] at h
        exact h
      clear HP
      go_wp2_with fail
      refine bodyPost_ret (v := .agg #[.int .i64 f.most, .int .i64 f.next, .slice va f.pages.length vc]) (by simp [results, Try.results30, go_sem, r0, r1, r2]) rfl ⟨_, vs, rfl, ?_, ?_⟩
      · have h3 := ((HP2.out.setCell_below (a := ⟨w.heap.size + 1, 0, none⟩) (by show w.heap.size + 1 < w.heap.size + 3; omega) (.int .i64 f.most)).setCell_below (a := ⟨w.heap.size + 1, 1, none⟩) (by show w.heap.size + 1 < w.heap.size + 3; omega) (.int .i64 f.next)).setCell_below (a := ⟨w.heap.size + 1, 2, none⟩) (by show w.heap.size + 1 < w.heap.size + 3; omega) (.slice va f.pages.length vc)
        exact (h3.world).base (by omega)
      · exact ((hbl.setCell (by show w.heap.size ≤ w.heap.size + 1; omega) _).setCell (by show w.heap.size ≤ w.heap.size + 1; omega) _).setCell (by show w.heap.size ≤ w.heap.size + 1; omega) _
end Go.Proofs.Ytjhfomihlobjgaa.D
