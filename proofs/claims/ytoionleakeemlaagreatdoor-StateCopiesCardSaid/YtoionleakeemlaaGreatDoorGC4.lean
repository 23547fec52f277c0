/-
  What is done to a copy of a state changes nothing of what it was made of: the law's text, step by step. No condition.
-/
import Derived.Test.YtoionleakeemlaaGreatDoorGC3
namespace Go.Proofs.YtoionleakeemlaaGreatDoor
open Go.Fw
set_option maxRecDepth 20000
set_option maxHeartbeats 4000000
attribute [local irreducible] ACalls AMoves SWP

theorem aw_c : ∀ objs, AGives Tryz.prog 8 [] objs (Bo true) := by
  have h := law25_awake_c
  rw [awake25] at h
  exact h
theorem same_c (s : State) (hs : s.sz) (objs : Objs) : AGives Tryz.prog 15 [State.a s, State.a s] objs (Bo true) := by
  have h := ref25_Same_c s s hs hs objs
  rw [(ref25_same s s).2 rfl] at h
  exact h
def ceS (s : State) : List AVal := [I s.now, nodeL s.nodes, jobL s.jobs, resizeL s.resizes, bookL s.books, usageL s.ledger, I s.nextJob, I s.nextBook]
def coS (s : State) : List AVal := [I s.now, .own 3 0 7 0 s.nodes.length, .own 4 0 20 0 s.jobs.length, .own 5 0 5 0 s.resizes.length, .own 6 0 4 0 s.books.length, .own 7 0 4 0 s.ledger.length, I s.nextJob, I s.nextBook]
def layL (s : State) (nd : List Node) (c : List Job) (rz : List Resize) (bk : List Book) (us : List Usage) : Objs := lay 48 54 38 60 62 56 58 (bxA 28 (ceS s)) (bxA 28 (ceS s)) (bxA 28 (coS s)) nd c rz bk us
def layS (s : State) : Objs := layL s s.nodes s.jobs s.resizes s.books s.ledger
theorem sameB_c (s : State) (hs : s.sz) : AGives Tryz.prog 15 [.agg (coS s), State.a s] (layS s) (Bo true) :=
  AGives.lent (same_c s hs []) (.cons _ _ _ _ (seen_lay s) (.cons _ _ _ _ sr .nil)) (.cons (State.low _ _) (.cons (State.low _ _) .nil)) (bare2_sound rfl)
def slS : List (Nat × AVal) := [(1, .ptr 0 0 8 0 0), (2, Bo false), (3, .ptr 1 0 8 0 0), (4, .ptr 2 0 8 0 0)]
def zS : Nat × AObj := bxA 28 [I 0, .lit (.slice none 0 0), .lit (.slice none 0 0), .lit (.slice none 0 0), .lit (.slice none 0 0), .lit (.slice none 0 0), I 0, I 0]
def aS (s : State) : Nat × AObj := bxA 28 (ceS s)
def bS (r : Nat) (s : State) : Nat × AObj := bxA 28 (ownC r (I s.now) (I s.nextJob) (I s.nextBook) s.nodes.length s.jobs.length s.resizes.length s.books.length s.ledger.length)
theorem copies_c (s : State) (hs0 : s.szM) : ∀ objs, AGives Tryz.prog 5 [State.a s] objs (Bo true) := by
  refine AGives.any' (.cons (State.low _ _) .nil) lx (ACalls.of_swp Tryz.func5 rfl rfl ?_)
  refine SWP.seq (SWP.of_cwp (keep := kp 12 [14]) ?_)
  conv => whnf
  refine SWP.seq (SWP.of_cwp (keep := kp 12 [14]) ?_)
  conv => whnf
  refine ACalls.use (law20_Few_c s (by exact szA) _) ?_
  conv => whnf
  refine And.intro (fun h1 => ?_) (fun h2 => ?_)
  · conv => whnf
    refine ACalls.use (aw_c _) ?_
    conv => whnf
    exact ret_seen lx sr
  · have hsz : s.sz := law20_Few_sz (by simpa using h2)
    obtain ⟨z8, z9, z10, z11, z12, z13, z14⟩ : s.nodes.length ≤ 4294967296 ∧ s.jobs.length ≤ 4294967296 ∧ (∀ y ∈ s.jobs, y.sz) ∧ s.resizes.length ≤ 4294967296 ∧ s.books.length ≤ 4294967296 ∧ s.ledger.length ≤ 4294967296 ∧ (∀ y ∈ s.ledger, y.sz) := by have h := hsz; exact h
    conv => whnf
    refine SWP.seq_mid slS (layS s) ?_ ?_
    · refine SWP.of_cwp (keep := kp 12 [29, 34, 50, 71, 96, 116, 132, 148]) ?_
      conv => whnf
      refine ACalls.use (same_c s hsz _) (forceP_iff.2 (cput_do ?_))
      conv => whnf
      (first | apply u2 | apply u3 | apply u4 | apply u3g | apply u4g | apply us); first | exact sameB_c s hsz | exact fun hg => sameB_c s hsz
      refine forceP_iff.2 (cput_do ?_)
      conv => whnf
      refine And.intro (fun h3 => Bool.noConfusion h3) (fun _ => ?_)
      conv => whnf
      refine loop_start2 (fun (nd : List Node) (i : Nat) => nd.length = s.nodes.length ∧ i ≤ s.nodes.length) (fun _ i => s.nodes.length - i) (fun _ i => slS ++ [(5, I (i : Int))]) (fun nd i => layL s nd s.jobs s.resizes s.books s.ledger) s.nodes 0 (weaker_is (.cons _ _ _ rfl (.cons _ _ _ rfl (.cons _ _ _ rfl (.cons _ _ _ rfl (.cons _ _ _ rfl .nil))))) rfl) ⟨rfl, Nat.zero_le _⟩ ?_
      rintro nd i ⟨hn, hj⟩
      conv => whnf
      refine ai (fun h1 => ?_) (fun h2 => ?_)
      · have hlt : i < nd.length := by have := of_decide_eq_true h1; omega
        conv => whnf
        refine ai gkA ?_
        refine ⟨_, evalOp_load rfl rfl rfl (elemI_at Node.zero i (by first | rfl | exact Nat.zero_add _ | omega) hlt) rfl, ?_⟩
        refine ai gkA ?_
        refine ⟨_, evalOp_store (es' := (nd.set i { nd.getD i .zero with epoch := IntKind.i64.wrap ((nd.getD i .zero).epoch + 1) }).map Node.cells) rfl rfl rfl rfl (elemI_at Node.zero i (by first | rfl | exact Nat.zero_add _ | omega) hlt) rfl rfl (set_map i _ (by first | rfl | exact Nat.zero_add _ | omega) rfl), forceO_iff.2 ?_⟩
        exact loop_next2 (nd.set i { nd.getD i .zero with epoch := IntKind.i64.wrap ((nd.getD i .zero).epoch + 1) }) (i + 1) (weaker_is (.cons _ _ _ rfl (.cons _ _ _ rfl (.cons _ _ _ rfl (.cons _ _ _ rfl (.cons _ _ _ (by exact I_eq (wr (by omega))) .nil))))) rfl) (by omega) ⟨by rw [List.length_set]; exact hn, by omega⟩
      · clear hn hj h2
        conv => whnf
        refine loop_start2 (fun (c : List Job) (i : Nat) => (c.length = s.jobs.length ∧ ∀ y ∈ c, y.sz) ∧ i ≤ s.jobs.length) (fun _ i => s.jobs.length - i) (fun _ i => slS ++ [(6, I (i : Int))]) (fun c i => layL s nd c s.resizes s.books s.ledger) s.jobs 0 (weaker_is (.cons _ _ _ rfl (.cons _ _ _ rfl (.cons _ _ _ rfl (.cons _ _ _ rfl (.cons _ _ _ rfl .nil))))) rfl) ⟨⟨rfl, z10⟩, Nat.zero_le _⟩ ?_
        rintro c i ⟨⟨hc, hcz⟩, hj⟩
        conv => whnf
        refine ai (fun h1 => ?_) (fun h2 => ?_)
        · have hi : i < s.jobs.length := by have := of_decide_eq_true h1; omega
          have hlt : i < c.length := by omega
          have hx : (c.getD i Job.zero).sz := getD_sz hcz (Job.szz _)
          conv => whnf
          refine ai gkA ?_
          refine ⟨_, evalOp_load rfl rfl rfl (jrow_at (by first | rfl | exact Nat.zero_add _ | omega) hlt) rfl, ?_⟩
          refine ai gkA ?_
          refine ⟨_, evalOp_store (es' := (jrow 8 c).set i (jcell (8 + 2 * i) { c.getD i .zero with prio := IntKind.i64.wrap ((c.getD i .zero).prio + 1) })) rfl rfl rfl rfl (jrow_at (by first | rfl | exact Nat.zero_add _ | omega) hlt) rfl rfl (set_idx (by first | rfl | exact Nat.zero_add _ | omega) rfl), forceO_iff.2 ?_⟩
          conv => whnf
          refine loop_start2 (fun (c : List Job) (k : Nat) => (c.length = s.jobs.length ∧ ∀ y ∈ c, y.sz) ∧ k ≤ ((c.getD i Job.zero).shape.alts).length) (fun c k => ((c.getD i Job.zero).shape.alts).length - k) (fun _ k => slS ++ [(6, I (i : Int)), (7, I (k : Int))]) (fun c k => layL s nd c s.resizes s.books s.ledger) (c.set i { c.getD i .zero with prio := IntKind.i64.wrap ((c.getD i .zero).prio + 1) }) 0 (weaker_is (.cons _ _ _ rfl (.cons _ _ _ rfl (.cons _ _ _ rfl (.cons _ _ _ rfl (.cons _ _ _ rfl (.cons _ _ _ rfl .nil)))))) (lay_prio hlt rfl rfl)) ⟨⟨by rw [List.length_set]; exact hc, sz_set hcz hx⟩, Nat.zero_le _⟩ ?_
          clear hlt hx
          rintro c k ⟨⟨hc, hcz⟩, hk⟩
          have hlt : i < c.length := by omega
          have hx : (c.getD i Job.zero).sz := getD_sz hcz (Job.szz _)
          obtain ⟨y3, y4, y5, y6, y7⟩ : ((c.getD i Job.zero).name).size ≤ 4294967296 ∧ ((c.getD i Job.zero).user).size ≤ 4294967296 ∧ ((c.getD i Job.zero).account).size ≤ 4294967296 ∧ ((((c.getD i Job.zero).shape).alts).length ≤ 4294967296) ∧ ((c.getD i Job.zero).after).length ≤ 4294967296 := by have h := hx; exact h
          conv => whnf
          refine ai gkA ?_
          refine ⟨_, evalOp_load rfl rfl rfl (jrow_at (by first | rfl | exact Nat.zero_add _ | omega) hlt) rfl, cres_val rfl rfl rfl ?_⟩
          conv => whnf
          refine ai (fun h3 => ?_) (fun h4 => ?_)
          · have hkl : k < ((c.getD i Job.zero).shape.alts).length := by have := of_decide_eq_true h3; omega
            conv => whnf
            refine ai gkA ?_
            refine ⟨_, evalOp_load rfl rfl rfl (jrow_at (by first | rfl | exact Nat.zero_add _ | omega) hlt) rfl, cres_val rfl rfl rfl ?_⟩
            refine co_val rfl ?_
            refine co_ifb rfl (decide_eq_true (by omega)) ?_
            refine co_val rfl ?_
            refine co_val (evalOp_load rfl rfl (row_alt hlt) (elemI_at Alt.zero k (by first | rfl | exact Nat.zero_add _ | omega) hkl) rfl) ?_
            refine co_val rfl ?_
            refine co_ifb rfl (decide_eq_true (by omega)) ?_
            refine co_val rfl ?_
            refine co_upd (evalOp_store (es' := (((c.getD i Job.zero).shape.alts).set k { ((c.getD i Job.zero).shape.alts).getD k .zero with nodes := IntKind.i64.wrap ((((c.getD i Job.zero).shape.alts).getD k .zero).nodes + 1) }).map Alt.cells) rfl rfl rfl (row_alt hlt) (elemI_at Alt.zero k (by first | rfl | exact Nat.zero_add _ | omega) hkl) rfl rfl (set_map k _ (by first | rfl | exact Nat.zero_add _ | omega) rfl)) ?_
            exact loop_next2 (c.set i { (c.getD i Job.zero) with shape := { (c.getD i Job.zero).shape with alts := (((c.getD i Job.zero).shape.alts).set k { ((c.getD i Job.zero).shape.alts).getD k .zero with nodes := IntKind.i64.wrap ((((c.getD i Job.zero).shape.alts).getD k .zero).nodes + 1) }) } }) (k + 1) (weaker_is (.cons _ _ _ rfl (.cons _ _ _ rfl (.cons _ _ _ rfl (.cons _ _ _ rfl (.cons _ _ _ rfl (.cons _ _ _ (by exact I_eq (wr (by omega))) .nil)))))) (lay_alt (y := { (c.getD i Job.zero) with shape := { (c.getD i Job.zero).shape with alts := (((c.getD i Job.zero).shape.alts).set k { ((c.getD i Job.zero).shape.alts).getD k .zero with nodes := IntKind.i64.wrap ((((c.getD i Job.zero).shape.alts).getD k .zero).nodes + 1) }) } }) hlt (by simp only [jcell, List.length_set]) rfl)) (by rw [getD_set hlt]; simp only [List.length_set]; omega) ⟨⟨by rw [List.length_set]; exact hc, sz_set hcz (by refine ⟨y3, y4, y5, ?_, ?_⟩ <;> simp only [Shape.szN, List.length_set] <;> assumption)⟩, by rw [getD_set hlt]; simp only [List.length_set]; omega⟩
          · clear hk h4
            conv => whnf
            refine loop_start2 (fun (c : List Job) (k : Nat) => (c.length = s.jobs.length ∧ ∀ y ∈ c, y.sz) ∧ k ≤ ((c.getD i Job.zero).after).length) (fun c k => ((c.getD i Job.zero).after).length - k) (fun _ k => slS ++ [(6, I (i : Int)), (8, I (k : Int))]) (fun c k => layL s nd c s.resizes s.books s.ledger) c 0 (weaker_is (.cons _ _ _ rfl (.cons _ _ _ rfl (.cons _ _ _ rfl (.cons _ _ _ rfl (.cons _ _ _ rfl (.cons _ _ _ rfl .nil)))))) rfl) ⟨⟨hc, hcz⟩, Nat.zero_le _⟩ ?_
            rintro c k ⟨⟨hc, hcz⟩, hk⟩
            have hlt : i < c.length := by omega
            have hx : (c.getD i Job.zero).sz := getD_sz hcz (Job.szz _)
            obtain ⟨y3, y4, y5, y6, y7⟩ : ((c.getD i Job.zero).name).size ≤ 4294967296 ∧ ((c.getD i Job.zero).user).size ≤ 4294967296 ∧ ((c.getD i Job.zero).account).size ≤ 4294967296 ∧ ((((c.getD i Job.zero).shape).alts).length ≤ 4294967296) ∧ ((c.getD i Job.zero).after).length ≤ 4294967296 := by have h := hx; exact h
            conv => whnf
            refine ai gkA ?_
            refine ⟨_, evalOp_load rfl rfl rfl (jrow_at (by first | rfl | exact Nat.zero_add _ | omega) hlt) rfl, cres_val rfl rfl rfl ?_⟩
            conv => whnf
            refine ai (fun h3 => ?_) (fun h4 => ?_)
            · have hkl : k < ((c.getD i Job.zero).after).length := by have := of_decide_eq_true h3; omega
              conv => whnf
              refine ai gkA ?_
              refine ⟨_, evalOp_load rfl rfl rfl (jrow_at (by first | rfl | exact Nat.zero_add _ | omega) hlt) rfl, cres_val rfl rfl rfl ?_⟩
              refine co_val rfl ?_
              refine co_ifb rfl (decide_eq_true (by omega)) ?_
              refine co_val rfl ?_
              refine co_val (evalOp_load rfl rfl (row_dep hlt) (elemI_at Dep.zero k (by first | rfl | exact Nat.zero_add _ | omega) hkl) rfl) ?_
              refine co_val rfl ?_
              refine co_ifb rfl (decide_eq_true (by omega)) ?_
              refine co_val rfl ?_
              refine co_upd (evalOp_store (es' := (((c.getD i Job.zero).after).set k { ((c.getD i Job.zero).after).getD k .zero with job := IntKind.i64.wrap ((((c.getD i Job.zero).after).getD k .zero).job + 1) }).map Dep.cells) rfl rfl rfl (row_dep hlt) (elemI_at Dep.zero k (by first | rfl | exact Nat.zero_add _ | omega) hkl) rfl rfl (set_map k _ (by first | rfl | exact Nat.zero_add _ | omega) rfl)) ?_
              exact loop_next2 (c.set i { (c.getD i Job.zero) with after := (((c.getD i Job.zero).after).set k { ((c.getD i Job.zero).after).getD k .zero with job := IntKind.i64.wrap ((((c.getD i Job.zero).after).getD k .zero).job + 1) }) }) (k + 1) (weaker_is (.cons _ _ _ rfl (.cons _ _ _ rfl (.cons _ _ _ rfl (.cons _ _ _ rfl (.cons _ _ _ rfl (.cons _ _ _ (by exact I_eq (wr (by omega))) .nil)))))) (lay_dep (y := { (c.getD i Job.zero) with after := (((c.getD i Job.zero).after).set k { ((c.getD i Job.zero).after).getD k .zero with job := IntKind.i64.wrap ((((c.getD i Job.zero).after).getD k .zero).job + 1) }) }) hlt (by simp only [jcell, List.length_set]) rfl)) (by rw [getD_set hlt]; simp only [List.length_set]; omega) ⟨⟨by rw [List.length_set]; exact hc, sz_set hcz (by refine ⟨y3, y4, y5, ?_, ?_⟩ <;> simp only [Shape.szN, List.length_set] <;> assumption)⟩, by rw [getD_set hlt]; simp only [List.length_set]; omega⟩
            · clear hk h4
              exact loop_next2 c (i + 1) (weaker_is (.cons _ _ _ rfl (.cons _ _ _ rfl (.cons _ _ _ rfl (.cons _ _ _ rfl (.cons _ _ _ (by exact I_eq (wr (by omega))) .nil))))) rfl) (by omega) ⟨⟨hc, hcz⟩, by omega⟩
        · clear hj h2
          conv => whnf
          refine loop_start2 (fun (rz : List Resize) (i : Nat) => rz.length = s.resizes.length ∧ i ≤ s.resizes.length) (fun _ i => s.resizes.length - i) (fun _ i => slS ++ [(9, I (i : Int))]) (fun rz i => layL s nd c rz s.books s.ledger) s.resizes 0 (weaker_is (.cons _ _ _ rfl (.cons _ _ _ rfl (.cons _ _ _ rfl (.cons _ _ _ rfl (.cons _ _ _ rfl .nil))))) rfl) ⟨rfl, Nat.zero_le _⟩ ?_
          rintro rz i ⟨hn, hj⟩
          conv => whnf
          refine ai (fun h1 => ?_) (fun h2 => ?_)
          · have hlt : i < rz.length := by have := of_decide_eq_true h1; omega
            conv => whnf
            refine ai gkA ?_
            refine ⟨_, evalOp_load rfl rfl rfl (elemI_at Resize.zero i (by first | rfl | exact Nat.zero_add _ | omega) hlt) rfl, ?_⟩
            refine ai gkA ?_
            refine ⟨_, evalOp_store (es' := (rz.set i { rz.getD i .zero with since := IntKind.i64.wrap ((rz.getD i .zero).since + 1) }).map Resize.cells) rfl rfl rfl rfl (elemI_at Resize.zero i (by first | rfl | exact Nat.zero_add _ | omega) hlt) rfl rfl (set_map i _ (by first | rfl | exact Nat.zero_add _ | omega) rfl), forceO_iff.2 ?_⟩
            exact loop_next2 (rz.set i { rz.getD i .zero with since := IntKind.i64.wrap ((rz.getD i .zero).since + 1) }) (i + 1) (weaker_is (.cons _ _ _ rfl (.cons _ _ _ rfl (.cons _ _ _ rfl (.cons _ _ _ rfl (.cons _ _ _ (by exact I_eq (wr (by omega))) .nil))))) rfl) (by omega) ⟨by rw [List.length_set]; exact hn, by omega⟩
          · clear hn hj h2
            conv => whnf
            refine loop_start2 (fun (bk : List Book) (i : Nat) => bk.length = s.books.length ∧ i ≤ s.books.length) (fun _ i => s.books.length - i) (fun _ i => slS ++ [(10, I (i : Int))]) (fun bk i => layL s nd c rz bk s.ledger) s.books 0 (weaker_is (.cons _ _ _ rfl (.cons _ _ _ rfl (.cons _ _ _ rfl (.cons _ _ _ rfl (.cons _ _ _ rfl .nil))))) rfl) ⟨rfl, Nat.zero_le _⟩ ?_
            rintro bk i ⟨hn, hj⟩
            conv => whnf
            refine ai (fun h1 => ?_) (fun h2 => ?_)
            · have hlt : i < bk.length := by have := of_decide_eq_true h1; omega
              conv => whnf
              refine ai gkA ?_
              refine ⟨_, evalOp_load rfl rfl rfl (elemI_at Book.zero i (by first | rfl | exact Nat.zero_add _ | omega) hlt) rfl, ?_⟩
              refine ai gkA ?_
              refine ⟨_, evalOp_store (es' := (bk.set i { bk.getD i .zero with from_ := IntKind.i64.wrap ((bk.getD i .zero).from_ + 1) }).map Book.cells) rfl rfl rfl rfl (elemI_at Book.zero i (by first | rfl | exact Nat.zero_add _ | omega) hlt) rfl rfl (set_map i _ (by first | rfl | exact Nat.zero_add _ | omega) rfl), forceO_iff.2 ?_⟩
              exact loop_next2 (bk.set i { bk.getD i .zero with from_ := IntKind.i64.wrap ((bk.getD i .zero).from_ + 1) }) (i + 1) (weaker_is (.cons _ _ _ rfl (.cons _ _ _ rfl (.cons _ _ _ rfl (.cons _ _ _ rfl (.cons _ _ _ (by exact I_eq (wr (by omega))) .nil))))) rfl) (by omega) ⟨by rw [List.length_set]; exact hn, by omega⟩
            · clear hn hj h2
              conv => whnf
              refine loop_start2 (fun (us : List Usage) (i : Nat) => us.length = s.ledger.length ∧ i ≤ s.ledger.length) (fun _ i => s.ledger.length - i) (fun _ i => slS ++ [(11, I (i : Int))]) (fun us i => layL s nd c rz bk us) s.ledger 0 (weaker_is (.cons _ _ _ rfl (.cons _ _ _ rfl (.cons _ _ _ rfl (.cons _ _ _ rfl (.cons _ _ _ rfl .nil))))) rfl) ⟨rfl, Nat.zero_le _⟩ ?_
              rintro us i ⟨hn, hj⟩
              conv => whnf
              refine ai (fun h1 => ?_) (fun h2 => ?_)
              · have hlt : i < us.length := by have := of_decide_eq_true h1; omega
                conv => whnf
                refine ai gkA ?_
                refine ⟨_, evalOp_load rfl rfl rfl (elemI_at Usage.zero i (by first | rfl | exact Nat.zero_add _ | omega) hlt) rfl, ?_⟩
                refine ai gkA ?_
                refine ⟨_, evalOp_store (es' := (us.set i { us.getD i .zero with used := IntKind.i64.wrap ((us.getD i .zero).used + 1) }).map Usage.cells) rfl rfl rfl rfl (elemI_at Usage.zero i (by first | rfl | exact Nat.zero_add _ | omega) hlt) rfl rfl (set_map i _ (by first | rfl | exact Nat.zero_add _ | omega) rfl), forceO_iff.2 ?_⟩
                exact loop_next2 (us.set i { us.getD i .zero with used := IntKind.i64.wrap ((us.getD i .zero).used + 1) }) (i + 1) (weaker_is (.cons _ _ _ rfl (.cons _ _ _ rfl (.cons _ _ _ rfl (.cons _ _ _ rfl (.cons _ _ _ (by exact I_eq (wr (by omega))) .nil))))) rfl) (by omega) ⟨by rw [List.length_set]; exact hn, by omega⟩
              · clear hn hj h2
                conv => whnf
                refine ACalls.use (same_c s hsz _) (forceP_iff.2 (cput_do ?_))
                conv => whnf
                (first | apply u2 | apply u3 | apply u4 | apply u3g | apply u4g | apply us); first | exact aw_c _ | exact fun hg => aw_c _
                refine forceP_iff.2 (cput_do ?_)
                conv => whnf
                exact ret_seen lx sr
    · refine SWP.draw (keep := kp 12 []) (by kernel_rfl) (ways2_all (by decide)) fun x hx => ?_
      simp only [ways2, List.mem_cons, List.not_mem_nil, or_false] at hx
      rcases hx with rfl | rfl | rfl | rfl | rfl | rfl
      · refine dchk (by kernel_rfl) ?_
        (first | apply u2 | apply u3 | apply u4 | apply us); exact state_Copy_c s hsz _
        (first | apply u2 | apply u3 | apply u4 | apply us); exact copy_n1 s hsz
        refine forceP_iff.2 (cput_do ?_)
        have hl : (cpO1 s).length = 8 + 2 * s.jobs.length := by simp only [cpO1, List.length_cons, nst_length]; omega
        refine cd_alloc rfl rfl rfl rfl hl rfl ?_
        refine cd_alloc (N := 8 + 2 * s.jobs.length + 1) rfl rfl rfl rfl (by rw [List.length_append, hl]; rfl) rfl ?_
        refine cd_store rfl rfl rfl rfl rfl (row_of (app_get0 hl)) rfl rfl rfl (app_set0 hl) ?_
        refine cd_store rfl rfl rfl rfl rfl (row_of (app_get1 hl)) rfl rfl rfl (app_set1 hl) ?_
        repeat ((first | refine ai rfl ?_ | refine ai (fun _ => rfl) ?_ | refine ai (fun _ => state_Copy_c s hsz _) ?_))
        exact perm_g (8 + 2 * s.jobs.length) (8 + 2 * s.jobs.length + 1) 3 State.lo State.lo rfl rfl rfl (app_get rfl) (app_get0 hl) (app_get1 hl) (app_get rfl) (app_get rfl) (app_get rfl) (app_get rfl) (app_get rfl) (fun j p h => app_get (by rw [Nat.add_comm]; exact h)) (by omega) (by omega) (by omega) (by omega) rfl rfl rfl rfl
      · refine dchk (by kernel_rfl) ?_
        (first | apply u2 | apply u3 | apply u4 | apply us); exact state_Copy_c s hsz _
        (first | apply u2 | apply u3 | apply u4 | apply us); exact copy_n1 s hsz
        refine forceP_iff.2 (cput_do ?_)
        have hl : (cpO1 s).length = 8 + 2 * s.jobs.length := by simp only [cpO1, List.length_cons, nst_length]; omega
        refine cd_alloc rfl rfl rfl rfl hl rfl ?_
        refine cd_alloc (N := 8 + 2 * s.jobs.length + 1) rfl rfl rfl rfl (by rw [List.length_append, hl]; rfl) rfl ?_
        refine cd_store rfl rfl rfl rfl rfl (row_of (app_get1 hl)) rfl rfl rfl (app_set1 hl) ?_
        refine cd_store rfl rfl rfl rfl rfl (row_of (app_get0 hl)) rfl rfl rfl (app_set0 hl) ?_
        repeat ((first | refine ai rfl ?_ | refine ai (fun _ => rfl) ?_ | refine ai (fun _ => state_Copy_c s hsz _) ?_))
        exact perm_g (8 + 2 * s.jobs.length + 1) (8 + 2 * s.jobs.length) 3 State.lo State.lo rfl rfl rfl (app_get rfl) (app_get1 hl) (app_get0 hl) (app_get rfl) (app_get rfl) (app_get rfl) (app_get rfl) (app_get rfl) (fun j p h => app_get (by rw [Nat.add_comm]; exact h)) (by omega) (by omega) (by omega) (by omega) rfl rfl rfl rfl
      · refine dchk (by kernel_rfl) ?_
        (first | apply u2 | apply u3 | apply u4 | apply us); exact state_Copy_c s hsz _
        (first | apply u2 | apply u3 | apply u4 | apply us); exact copy_n2 s hsz
        refine forceP_iff.2 (cput_do ?_)
        have hl0 : (cpO2 s).length = 9 + 2 * s.jobs.length := by simp only [cpO2, List.length_cons, nst_length]; omega
        refine cd_alloc rfl rfl rfl rfl hl0 rfl ?_
        have hl : ((cpO2 s).set 1 (aS s)).length = 9 + 2 * s.jobs.length := by rw [List.length_set]; exact hl0
        refine cd_store (objs' := (cpO2 s).set 1 (aS s) ++ [zS]) rfl rfl rfl rfl rfl rfl rfl rfl rfl rfl ?_
        refine cd_store rfl rfl rfl rfl rfl (row_of (app1_get hl)) rfl rfl rfl (app1_set hl) ?_
        repeat ((first | refine ai rfl ?_ | refine ai (fun _ => rfl) ?_ | refine ai (fun _ => state_Copy_c s hsz _) ?_))
        show Weaker _ _ (St.mk _ ((cpO2 s).set 1 (aS s) ++ [bS 4 s])) (St.mk slS (layS s))
        exact perm_g 1 (9 + 2 * s.jobs.length) 4 State.lo State.lo rfl rfl rfl rfl rfl (app1_get hl) rfl rfl rfl rfl rfl (fun j p h => app1_getl (by rw [Nat.add_comm]; exact h)) (by omega) (by omega) (by omega) (by omega) rfl rfl rfl rfl
      · refine dchk (by kernel_rfl) ?_
        (first | apply u2 | apply u3 | apply u4 | apply us); exact state_Copy_c s hsz _
        (first | apply u2 | apply u3 | apply u4 | apply us); exact copy_n2 s hsz
        refine forceP_iff.2 (cput_do ?_)
        have hl0 : (cpO2 s).length = 9 + 2 * s.jobs.length := by simp only [cpO2, List.length_cons, nst_length]; omega
        refine cd_alloc rfl rfl rfl rfl hl0 rfl ?_
        have hl : ((cpO2 s).set 1 (bS 4 s)).length = 9 + 2 * s.jobs.length := by rw [List.length_set]; exact hl0
        refine cd_store rfl rfl rfl rfl rfl (row_of (app1_get hl0)) rfl rfl rfl (app1_set hl0) ?_
        refine cd_store (objs' := (cpO2 s).set 1 (bS 4 s) ++ [aS s]) rfl rfl rfl rfl rfl rfl rfl rfl rfl rfl ?_
        repeat ((first | refine ai rfl ?_ | refine ai (fun _ => rfl) ?_ | refine ai (fun _ => state_Copy_c s hsz _) ?_))
        show Weaker _ _ (St.mk _ ((cpO2 s).set 1 (bS 4 s) ++ [aS s])) (St.mk slS (layS s))
        exact perm_g (9 + 2 * s.jobs.length) 1 4 State.lo State.lo rfl rfl rfl rfl (app1_get hl) rfl rfl rfl rfl rfl rfl (fun j p h => app1_getl (by rw [Nat.add_comm]; exact h)) (by omega) (by omega) (by omega) (by omega) rfl rfl rfl rfl
      · refine dchk (by kernel_rfl) ?_
        (first | apply u2 | apply u3 | apply u4 | apply us); exact state_Copy_c s hsz _
        (first | apply u2 | apply u3 | apply u4 | apply us); exact copy_n3 s hsz
        refine forceP_iff.2 (cput_do ?_)
        refine cd_store (objs' := (cpO3 s).set 1 (aS s)) rfl rfl rfl rfl rfl rfl rfl rfl rfl rfl ?_
        refine cd_store (objs' := ((cpO3 s).set 1 (aS s)).set 2 (bS 5 s)) rfl rfl rfl rfl rfl rfl rfl rfl rfl rfl ?_
        repeat ((first | refine ai rfl ?_ | refine ai (fun _ => rfl) ?_ | refine ai (fun _ => state_Copy_c s hsz _) ?_))
        show Weaker _ _ (St.mk _ (((cpO3 s).set 1 (aS s)).set 2 (bS 5 s))) (St.mk slS (layS s))
        exact perm_g 1 2 5 State.lo State.lo rfl rfl rfl rfl rfl rfl rfl rfl rfl rfl rfl (fun j p h => by rw [Nat.add_comm]; exact h) (by omega) (by omega) (by omega) (by omega) rfl rfl rfl rfl
      · refine dchk (by kernel_rfl) ?_
        (first | apply u2 | apply u3 | apply u4 | apply us); exact state_Copy_c s hsz _
        (first | apply u2 | apply u3 | apply u4 | apply us); exact copy_n3 s hsz
        refine forceP_iff.2 (cput_do ?_)
        refine cd_store (objs' := (cpO3 s).set 2 (aS s)) rfl rfl rfl rfl rfl rfl rfl rfl rfl rfl ?_
        refine cd_store (objs' := ((cpO3 s).set 2 (aS s)).set 1 (bS 5 s)) rfl rfl rfl rfl rfl rfl rfl rfl rfl rfl ?_
        repeat ((first | refine ai rfl ?_ | refine ai (fun _ => rfl) ?_ | refine ai (fun _ => state_Copy_c s hsz _) ?_))
        show Weaker _ _ (St.mk _ (((cpO3 s).set 2 (aS s)).set 1 (bS 5 s))) (St.mk slS (layS s))
        exact perm_g 2 1 5 State.lo State.lo rfl rfl rfl rfl rfl rfl rfl rfl rfl rfl rfl (fun j p h => by rw [Nat.add_comm]; exact h) (by omega) (by omega) (by omega) (by omega) rfl rfl rfl rfl
end Go.Proofs.YtoionleakeemlaaGreatDoor
