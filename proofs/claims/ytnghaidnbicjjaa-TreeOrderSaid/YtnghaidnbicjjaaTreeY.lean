/- tree: From, and what it hands out. -/
import Derived.Test.YtnghaidnbicjjaaTreeX
import Derived.Test.YtnghaidnbicjjaaGwTurnR
set_option linter.unusedVariables false
set_option linter.unusedSimpArgs false
set_option maxRecDepth 20000
namespace Go.Proofs.Ytnghaidnbicjjaa
open Go Gw
open Go.RowKit (Below)
attribute [local irreducible] W WO WD WF

theorem from_ok (c : Ctx) (w : World) (Own Ro : List Asn) (bt : Nat) (frm : Int) (H : St c w Own Ro) :
    Calls Try.prog 13 #[.pointer (some ⟨bt, 0, none⟩), .int .i64 frm] w (Ret fun v w' => ∃ b1 b2, v = .func (.func 38) #[] #[.pointer (some ⟨b1, 0, none⟩), .pointer (some ⟨b2, 0, none⟩)] ∧ St c w' (blk b2 3 [.int .i64 frm] :: blk b1 23 [.pointer (some ⟨bt, 0, none⟩)] :: Own) Ro) := by
  refine calls_W (args := [_, _]) Try.func13 rfl Try.ntmps13 rfl ?_
  (repeat (first | refine WO.run tabOk rfl rfl ?_ | refine WO.nil ?_ | refine WO.skip rfl rfl rfl ?_ | refine WO.pu tabOk rfl rfl rfl rfl ?_ | refine W.seq ?_ | refine W.region ?_ | refine W.block ?_ | refine W.skip ?_ | refine W.exit ?_))
  refine WO.one rfl rfl rfl (OpW.box rfl rfl rfl H ?_); intro b1 w1 H
  refine WO.one rfl rfl rfl (OpW.box rfl rfl rfl H ?_); intro b2 w2 H
  (repeat (first | refine WO.run tabOk rfl rfl ?_ | refine WO.nil ?_ | refine WO.skip rfl rfl rfl ?_ | refine WO.pu tabOk rfl rfl rfl rfl ?_ | refine W.seq ?_ | refine W.region ?_ | refine W.block ?_ | refine W.skip ?_ | refine W.exit ?_))
  refine W.ret (ret1 Try.results13 rfl ⟨_, rfl, b1, b2, rfl, ?_⟩)
  exact H

theorem seq_ok (wp w : World) (hwp : Below wp.heap.size wp w) (b1 b2 bt br h lo hi : Nat) (x : Nd) (n frm : Int) (H1 : Holds w (blk b1 23 [.pointer (some ⟨bt, 0, none⟩)])) (H2 : Holds w (blk b2 3 [.int .i64 frm])) (H3 : Holds wp (blk bt 84 [.pointer (some ⟨br, 0, none⟩), .int .i64 n])) (H4 : Holds wp (nodeA h br x)) (hb : Bt lo hi h x) (hhi : hi ≤ 1000) (hs : So (ents h x)) :
    SeqStopsK Fence.wide 1 Try.prog 38 #[.pointer (some ⟨b1, 0, none⟩), .pointer (some ⟨b2, 0, none⟩)] (fun e : En => #[.int .i64 e.1, .string e.2]) (Below wp.heap.size) (fun xs => xs = fromS frm (ents h x)) (fun pre => pre <+: fromS frm (ents h x)) (fromS frm (ents h x)).length w := by
  intro l J Jx V hW hJ hJx hY h0
  have hWp : Below wp.heap.size wp V := hwp.trans (hW.mono hwp.size)
  have hYl : Yl l (fromS frm (ents h x)).length wp J Jx := by
    refine ⟨fun s A B hs hp => hJ s A B none hs ⟨hp.like.os, hp.like.tape, hp.like.output, hp.like.size, fun k hk _ => hp.same k hk⟩ (fun r e => nomatch e), fun pre e A hA hl => hY pre e A hA hl⟩
  refine (callsIn_wide (n := 1)).2 ?_
  show Calls Try.prog 38 #[.func (.yield l) #[] #[], .pointer (some ⟨b1, 0, none⟩), .pointer (some ⟨b2, 0, none⟩)] V _
  refine calls_W (args := [_, _, _]) Try.func38 rfl Try.ntmps38 rfl ?_
  refine W.regionD [0, 3, 4] (HA [blk b1 23 [.pointer (some ⟨bt, 0, none⟩)], blk b2 3 [.int .i64 frm], blk bt 84 [.pointer (some ⟨br, 0, none⟩), .int .i64 n]]) [0, 1, 2, 3, 4, 5, 6] rfl (by kernel_rfl) (fun _ _ _ h => h) ?_
  have hA : HA [blk b1 23 [.pointer (some ⟨bt, 0, none⟩)], blk b2 3 [.int .i64 frm], blk bt 84 [.pointer (some ⟨br, 0, none⟩), .int .i64 n]] V.drew :=
    HA.cons ((H1.below hW).pure (Pure.drew V)) (HA.cons ((H2.below hW).pure (Pure.drew V)) (HA.cons ((H3.below hWp).pure (Pure.drew V)) (HA.nil _)))
  have hWd : Below wp.heap.size wp V.drew := hWp.trans ((Pure.drew V).below hWp.size)
  (repeat (first | refine WD.run tabOk rfl rfl ?_ | refine WD.hv rfl rfl rfl rfl rfl hA (HeldV.load1 tabOk rfl rfl rfl rfl (by (first | exact .head _ | exact .tail _ (.head _) | exact .tail _ (.tail _ (.head _)) | exact .tail _ (.tail _ (.tail _ (.head _))) | exact .tail _ (.tail _ (.tail _ (.tail _ (.head _)))) | exact .tail _ (.tail _ (.tail _ (.tail _ (.tail _ (.head _))))) | exact .tail _ (.tail _ (.tail _ (.tail _ (.tail _ (.tail _ (.head _)))))) | exact .tail _ (.tail _ (.tail _ (.tail _ (.tail _ (.tail _ (.tail _ (.head _))))))) | exact .tail _ (.tail _ (.tail _ (.tail _ (.tail _ (.tail _ (.tail _ (.tail _ (.head _)))))))) | exact .tail _ (.tail _ (.tail _ (.tail _ (.tail _ (.tail _ (.tail _ (.tail _ (.tail _ (.head _))))))))) | exact .tail _ (.tail _ (.tail _ (.tail _ (.tail _ (.tail _ (.tail _ (.tail _ (.tail _ (.tail _ (.head _)))))))))) | exact .tail _ (.tail _ (.tail _ (.tail _ (.tail _ (.tail _ (.tail _ (.tail _ (.tail _ (.tail _ (.tail _ (.head _))))))))))) | exact .tail _ (.tail _ (.tail _ (.tail _ (.tail _ (.tail _ (.tail _ (.tail _ (.tail _ (.tail _ (.tail _ (.tail _ (.head _)))))))))))) | exact .tail _ (.tail _ (.tail _ (.tail _ (.tail _ (.tail _ (.tail _ (.tail _ (.tail _ (.tail _ (.tail _ (.tail _ (.tail _ (.head _))))))))))))) | exact .tail _ (.tail _ (.tail _ (.tail _ (.tail _ (.tail _ (.tail _ (.tail _ (.tail _ (.tail _ (.tail _ (.tail _ (.tail _ (.tail _ (.head _)))))))))))))) | exact .tail _ (.tail _ (.tail _ (.tail _ (.tail _ (.tail _ (.tail _ (.tail _ (.tail _ (.tail _ (.tail _ (.tail _ (.tail _ (.tail _ (.tail _ (.head _))))))))))))))))) rfl) ?_ | refine WD.hv rfl rfl rfl rfl rfl hA (HeldV.loadA tabOk rfl rfl rfl rfl (by (first | exact .head _ | exact .tail _ (.head _) | exact .tail _ (.tail _ (.head _)) | exact .tail _ (.tail _ (.tail _ (.head _))) | exact .tail _ (.tail _ (.tail _ (.tail _ (.head _)))) | exact .tail _ (.tail _ (.tail _ (.tail _ (.tail _ (.head _))))) | exact .tail _ (.tail _ (.tail _ (.tail _ (.tail _ (.tail _ (.head _)))))) | exact .tail _ (.tail _ (.tail _ (.tail _ (.tail _ (.tail _ (.tail _ (.head _))))))) | exact .tail _ (.tail _ (.tail _ (.tail _ (.tail _ (.tail _ (.tail _ (.tail _ (.head _)))))))) | exact .tail _ (.tail _ (.tail _ (.tail _ (.tail _ (.tail _ (.tail _ (.tail _ (.tail _ (.head _))))))))) | exact .tail _ (.tail _ (.tail _ (.tail _ (.tail _ (.tail _ (.tail _ (.tail _ (.tail _ (.tail _ (.head _)))))))))) | exact .tail _ (.tail _ (.tail _ (.tail _ (.tail _ (.tail _ (.tail _ (.tail _ (.tail _ (.tail _ (.tail _ (.head _))))))))))) | exact .tail _ (.tail _ (.tail _ (.tail _ (.tail _ (.tail _ (.tail _ (.tail _ (.tail _ (.tail _ (.tail _ (.tail _ (.head _)))))))))))) | exact .tail _ (.tail _ (.tail _ (.tail _ (.tail _ (.tail _ (.tail _ (.tail _ (.tail _ (.tail _ (.tail _ (.tail _ (.tail _ (.head _))))))))))))) | exact .tail _ (.tail _ (.tail _ (.tail _ (.tail _ (.tail _ (.tail _ (.tail _ (.tail _ (.tail _ (.tail _ (.tail _ (.tail _ (.tail _ (.head _)))))))))))))) | exact .tail _ (.tail _ (.tail _ (.tail _ (.tail _ (.tail _ (.tail _ (.tail _ (.tail _ (.tail _ (.tail _ (.tail _ (.tail _ (.tail _ (.tail _ (.head _))))))))))))))))) rfl rfl) ?_ | refine WD.pu tabOk rfl rfl rfl rfl rfl rfl ?_))
  refine WD.one rfl rfl rfl rfl rfl (by kernel_rfl) (OpW.call rfl Try.call39 rfl (Calls.ret (each_ok hYl h br lo hi x V.drew [] H4 hb hhi hs hWd (hYl.keep _ _ _ h0 (Pure.drew V)) (by simp)) ?_))
  rintro v W2 hpost
  (repeat (first | refine WD.run tabOk rfl rfl ?_ | refine WD.nil ?_))
  (repeat (first | refine WO.run tabOk rfl rfl ?_ | refine WO.nil ?_ | refine WO.skip rfl rfl rfl ?_ | refine WO.pu tabOk rfl rfl rfl rfl ?_ | refine W.seq ?_ | refine W.region ?_ | refine W.block ?_ | refine W.skip ?_ | refine W.exit ?_))
  refine ret0n Try.results38 ?_
  rcases hpost with ⟨_, hJ2, _⟩ | ⟨_, q, hq, hJx2⟩
  · exact ⟨⟨_, rfl⟩, .inl ⟨_, rfl, by simpa using hJ2⟩⟩
  · exact ⟨⟨_, rfl⟩, .inr ⟨q, hq, by simpa using hJx2⟩⟩

theorem calls_marks {P : Program} {f : FuncId} {fn : Func} {c : Code} {args : List Value} {w : World} {R : Ending → World → Prop} {n : Nat} (hf : P.funcs[f]? = some fn) (hb : fn.body = some c) (hn : fn.ntmps = n) (hargs : Nat.ble args.length n = true)
    (h : Wj {} P n c (bodyPostM Fence.wide 0 P fn R) (enterE 0 args) w) : Calls P f args.toArray w R := by
  have hargs' : args.length ≤ n := by simpa [Nat.ble_eq] using hargs
  refine (callsIn_wide (n := 0)).1 (callsIn_of_wp_marks hf hb trivial ?_)
  refine h _ ⟨rfl, by simp [hn]; omega, fun t v hv => ?_⟩
  obtain ⟨h1, h2⟩ := enterE_get args 0 t v hv
  rw [Nat.sub_zero] at h2
  have hlt := (List.getElem?_eq_some_iff.1 h2).1
  rw [Array.getD_eq_getD_getElem?, Array.getElem?_append_left (by simpa using hlt)]
  simp [h2]
end Go.Proofs.Ytnghaidnbicjjaa
