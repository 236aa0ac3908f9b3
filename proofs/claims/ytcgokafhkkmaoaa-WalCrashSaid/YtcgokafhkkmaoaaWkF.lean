/- Wal: Append. -/
import Derived.Test.YtcgokafhkkmaoaaWkE
namespace Go.Proofs.Ytcgokafhkkmaoaa
open Go.RowKit Go.Maps

def LogS.left (L : LogS) : Int := (L.size - 2) * 256 - L.bytes.length - L.more.length
def LogS.append (L : LogS) (b : List UInt8) : LogS × Int :=
  if L.left < 8 + b.length then (L, 42) else ({ L with more := L.more ++ Lib.beBytes 8 b.length ++ b }, 0)

set_option maxRecDepth 100000 in
theorem append_log (w : World) (g p : Nat) (S T : Nat → Prop) (L : LogS) (b : List UInt8) (v : Value) (h : LogI w g p S L) (hb : Cs w T 1 v b.length (u8s b)) (hT : ∀ k, S k → ¬ T k)
    (h1 : 0 ≤ L.size) (h2 : L.size ≤ 4096) (hB : L.bytes.length ≤ 140737488355328) (hM : L.more.length ≤ 1048576) (hb2 : b.length ≤ 140737488355328) :
    Calls Try.prog 10 #[.pointer (some ⟨g, 0, none⟩), v] w fun e w' => e = .returned (.int .i64 (L.append b).2) ∧ ∃ S', LogI w' g p S' (L.append b).1 ∧ Chg S w w' ∧ ∀ k, S' k → S k ∨ w.heap.size ≤ k := by
  have hr := area_quiet w g p L.first L.size h.reg h1 h2
  have HI := Lib.hid h
  have HBV := Lib.hid hb
  obtain ⟨bv, mv, hSg, hlt, hbk, hcs, ho, hm⟩ := h
  obtain ⟨A, cap, rfl⟩ := hcs.form
  obtain ⟨A2, cap2, rfl⟩ := ho.form
  obtain ⟨A3, cap3, rfl⟩ := hb.form
  have hc := hbk.cell
  have HCS := Lib.hid hcs
  have HO := Lib.hid ho
  have HM := Lib.hid hm
  have HLT := Lib.hid hlt
  have HBK := Lib.hid hbk
  clear hcs ho hb hm hlt
  have e1 : IntKind.i64.wrap ((L.size - 2) * 256 - L.bytes.length) = (L.size - 2) * 256 - L.bytes.length := wrap64 _ (by omega) (by omega)
  have e2 : IntKind.i64.wrap ((L.size - 2) * 256 - L.bytes.length - L.more.length) = (L.size - 2) * 256 - L.bytes.length - L.more.length := wrap64 _ (by omega) (by omega)
  have e3 : IntKind.i64.wrap (8 + (b.length : Int)) = 8 + b.length := wrap64 _ (by omega) (by omega)
  by_cases hfull : (L.size - 2) * 256 - L.bytes.length - L.more.length < 8 + (b.length : Int)
  · have ha : L.append b = (L, 42) := by unfold LogS.append LogS.left; rw [if_pos hfull]
    rw [ha]
    go_enter Try.func10, Try.ntmps10
    go_wp2_with fail
    go_quiet ((go_at_call 26; exact hr _))
    go_wp2
    go_ret
    exact ⟨rfl, S, HI.out.drewN nq, (Chg.refl _ _).drewN nq, fun _ h => .inl h⟩
  · have ha : L.append b = ({ L with more := L.more ++ Lib.beBytes 8 b.length ++ b }, 0) := by unfold LogS.append LogS.left; rw [if_neg hfull]
    rw [ha]
    go_enter Try.func10, Try.ntmps10
    go_wp2_with fail
    go_quiet ((go_at_call 26; exact hr _))
    go_wp2_with fail
    refine (append64_any (w.drewN nq) _ L.more b.length (by omega) (HO.out.drewN nq) (by omega)).mono ?_
    rintro e w1 ⟨v1, rfl, ho1, hg1, hat1⟩
    have hlm : (L.more ++ Lib.beBytes 8 b.length).length = L.more.length + 8 := by rw [List.length_append, Lib.beBytes_length]
    rw [hlm] at ho1
    have HLM := Lib.hid hlm; clear hlm
    have hng : (Value.slice A2 L.more.length cap2).ownBlock ≠ some g := fun e => (HM.out g e).2 rfl
    have hb1 := (HBK.out.drewN nq).chg hg1 hng
    have hcs1 := (HCS.out.drewN nq).chg hg1 fun _ hb => hb.2.2
    have hbv1 := (HBV.out.drewN nq).chg hg1 fun k hk hk2 => hT k (HM.out k hk2).1 hk
    have hgl : g < w.heap.size := HLT.out g hSg
    have hv1g : v1.ownBlock ≠ some g := by
      rcases hat1 with e | ⟨k, e, hk⟩
      · rw [e]; exact hng
      · rw [e]; intro e'; injection e' with e'; subst e'; exact absurd hgl (Nat.not_lt.2 hk)
    clear hc
    have hc1 := hb1.cell
    have hf1 := hb1.frozen
    have ho2 : ∀ u, Own (w1.setCell ⟨g, 7, none⟩ u) 5 1 v1 (L.more.length + 8) (u8s (L.more ++ Lib.beBytes 8 b.length)) := fun u => own_keep ho1 fun k hk => Below.heap_setCell w1 ⟨g, 7, none⟩ u k (fun e => hv1g (by rw [hk, e]))
    have HO2 := Lib.hid ho2; clear ho2
    have hbv2 : ∀ u, Cs (w1.setCell ⟨g, 7, none⟩ u) T 1 (.slice A3 b.length cap3) b.length (u8s b) := fun u =>
      hbv1.chg ((Chg.refl (fun k => k = g) w1).setIn 7 u) fun k hk hk2 => hT g hSg (hk2 ▸ hk)
    have HBV2 := Lib.hid hbv2; clear hbv2 hbv1
    have HC1 := Lib.hid hcs1; clear hcs1
    have HG1 := Lib.hid hg1; clear hg1
    obtain ⟨A4, cap4, rfl⟩ := ho1.form
    have HO1 := Lib.hid ho1; clear ho1
    go_wp2_with (at_builtin; refine wpList_app _ rfl _ _ _ rfl Try.underlying32 info_u8 rfl (by decide) (HO2.out _) rfl (HBV2.out _) rfl (u8s_one b) (by simp only [maxLen]; omega) (by omega) ?_; intro v2 w2 ho3 hg3 hnil3 hat3; clear hnil3; obtain ⟨A5, cap5, rfl⟩ := ho3.form; have hb2' := (hb1.set_ 7 (.slice A4 (L.more.length + 8) cap4)).chg hg3 hv1g; have hc2 := hb2'.cell; have hf2 := hb2'.frozen; have HO3 := Lib.hid ho3; clear ho3; have HG3 := Lib.hid hg3; clear hg3; have HAT3 := Lib.hid hat3; clear hat3)
    have hs1 := HG1.out.size
    have hs2 := HG3.out.size
    have hsz : (w1.setCell ⟨g, 7, none⟩ (.slice A4 (L.more.length + 8) cap4)).heap.size = w1.heap.size := by simp [World.setCell]
    rw [hsz] at hs2
    have hw0 : (w.drewN nq).heap.size = w.heap.size := rfl
    rw [hw0] at hs1
    have hv4 : ∀ k, (Value.slice A4 (L.more.length + 8) cap4).ownBlock = some k → (Value.slice A2 L.more.length cap2).ownBlock = some k ∨ w.heap.size ≤ k := fun k hk => by
      rcases hat1 with e | ⟨j, e, hj⟩
      · exact .inl (e ▸ hk)
      · rw [e] at hk; injection hk with hk; subst hk; exact .inr hj
    have hv5 : ∀ k, (Value.slice A5 (L.more.length + 8 + b.length) cap5).ownBlock = some k → (Value.slice A2 L.more.length cap2).ownBlock = some k ∨ w.heap.size ≤ k := fun k hk => by
      rcases HAT3.out with e | e
      · exact hv4 k (e ▸ hk)
      · rw [e, hsz] at hk; injection hk with hk; subst hk; exact .inr hs1
    have hv5g : (Value.slice A5 (L.more.length + 8 + b.length) cap5).ownBlock ≠ some g := fun e => (hv5 g e).elim hng (fun h => by omega)
    have hch1 : Chg S w w1 := (Chg.refl S w).drewN nq |>.trans HG1.out fun k hk => .inl (HM.out k hk).1
    have hch : Chg S w (w2.setCell ⟨g, 7, none⟩ (.slice A5 (L.more.length + 8 + b.length) cap5)) := by
      refine Chg.setOf ((hch1.setOf hSg 7 _).trans HG3.out fun k hk => ?_) hSg 7 _
      exact (hv4 k hk).imp (fun h => (HM.out k h).1) id
    go_ret
    refine ⟨rfl, fun k => S k ∨ (w.heap.size ≤ k ∧ k < w2.heap.size), ⟨.slice A L.bytes.length cap, .slice A5 (L.more.length + 8 + b.length) cap5, .inl hSg, ?_, ?_, ?_, ?_, ?_⟩, hch, fun k hk => hk.imp id And.left⟩
    · rintro k (hk | hk)
      · have := HLT.out k hk
        simp only [World.setCell, Array.size_modify]; omega
      · simpa [World.setCell] using hk.2
    · have := hb2'.set_ 7 (.slice A5 (L.more.length + 8 + b.length) cap5)
      simpa using this
    · have h1 : Cs (w1.setCell ⟨g, 7, none⟩ (.slice A4 (L.more.length + 8) cap4)) _ 1 (.slice A L.bytes.length cap) L.bytes.length (u8s L.bytes) := HC1.out.chg ((Chg.refl (fun k => k = g) w1).setIn 7 _) fun k hk e => hk.2.1 e
      have h2 := h1.chg HG3.out fun k hk e => (hv4 k e).elim hk.2.2 fun h => by have := HLT.out k hk.1; omega
      have h3 := h2.chg ((Chg.refl (fun k => k = g) w2).setIn 7 (.slice A5 (L.more.length + 8 + b.length) cap5)) fun k hk e => hk.2.1 e
      exact h3.sub fun k hk _ => ⟨.inl hk.1, hk.2.1, fun e => (hv5 k e).elim hk.2.2 fun h => by have := HLT.out k hk.1; omega⟩
    · have h4 := own_keep (w' := w2.setCell ⟨g, 7, none⟩ (.slice A5 (L.more.length + 8 + b.length) cap5)) HO3.out fun k hk => Below.heap_setCell w2 ⟨g, 7, none⟩ _ k (fun e => hv5g (by rw [hk, e]))
      have e1 : L.more.length + 8 + b.length = (L.more ++ Lib.beBytes 8 b.length ++ b).length := by rw [List.length_append, HLM.out]
      have e2 : u8s (L.more ++ Lib.beBytes 8 b.length) ++ u8s b = u8s (L.more ++ Lib.beBytes 8 b.length ++ b) := by simp [u8s]
      rw [e2] at h4
      rw [← e1]
      exact h4
    · intro k hk
      have hkl := own_lt HO3.out hk
      exact ⟨(hv5 k hk).imp (fun h => (HM.out k h).1) fun h => ⟨h, hkl⟩, fun e => hv5g (e ▸ hk)⟩

end Go.Proofs.Ytcgokafhkkmaoaa
