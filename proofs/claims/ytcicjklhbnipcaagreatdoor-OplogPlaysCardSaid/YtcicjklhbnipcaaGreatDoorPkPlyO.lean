/-
  OplogPlays: whatever is done, and whenever the power fails, the disk answers, and has, what the document's does.
  Conditions: none beyond the card's own: the two listed tables lie as the program's text lays them.
-/
import Derived.Test.YtcicjklhbnipcaaGreatDoorPkPlyN
set_option maxHeartbeats 16000000
set_option maxRecDepth 1000000
set_option linter.unusedVariables false
set_option linter.unusedSimpArgs false
namespace Go.Proofs.YtcicjklhbnipcaaGreatDoor
section
open Go.Shelf
open Go.ChangeShapes Go.WideShapes Go.ChangeAt Go.RowKit
open Go.Lib hiding intOf
theorem oplogPlays_witness(os:Os){H:Type}(enc:TypeId×Value→H):
  (OpenSpec.ofChange Rows.oplogPlaysSpec).preRow enc Tryz.prog Tryz.f8 Rows.oplogPlaysRow.domain false Rows.oplogPlaysRow.laid ((laidWorldF os).forCall (fun _ _=>0) ⟨#[],#[.int .i64 0,.slice none 0 0],[]⟩).memory #[.int .i64 0,.slice none 0 0]:=by
 have hw:(DataW.whole enc Tryz.prog ((laidWorldF os).forCall (fun _ _=>0) ⟨#[],#[.int .i64 0,.slice none 0 0],[]⟩).memory Tryz.f8.params.toList (OpenSpec.ofChange Rows.oplogPlaysSpec).vars false #[Value.int .i64 0,.slice none 0 0].toList 8).map (fun x=>(x.1,x.2.1))=
   some ([.lit (.int .i64 0),.nil],[]):=by kernel_rfl
 obtain⟨⟨x1,x2,x3⟩,hx,hx1⟩:=Option.map_eq_some_iff.1 hw
 simp only[Prod.mk.injEq] at hx1
 obtain⟨rfl,rfl⟩:=hx1
 exact OpenSpec.preRow_of_cond 8 hx (by kernel_rfl) (fun k hk=>by cases hk) (by kernel_rfl) (laid_metF os _)
theorem oplogPlays_lifted(os:Os)(started:os.Started)(H:Type)(enc:TypeId×Value→H)(F:Stop.Interp):
  ReturnsInHanded {} Tryz.checked os 8 .any ((OpenSpec.ofChange Rows.oplogPlaysSpec).preRow enc Tryz.prog Tryz.f8 Rows.oplogPlaysRow.domain false Rows.oplogPlaysRow.laid) (((OpenSpec.ofChange Rows.oplogPlaysSpec).at F).post enc Tryz.prog Tryz.f8 false true false false):=by
 refine returnsInHanded_of_row (C:=Tryz.checked) (s:=OpenSpec.ofChange Rows.oplogPlaysSpec) topOwn started (by kernel_rfl) Tryz.func8
  (witness_row_atRef (enc:=enc) (C:=Tryz.checked) false (laidWorldF os) #[.int .i64 0,.slice none 0 0] rfl (by kernel_rfl) (by kernel_rfl) (by kernel_rfl) (oplogPlays_witness os enc)) ?_
 intro W base args ds gs before hval0 hW _ _ _ hL hsh _
 have hval: ∀ (j:Nat) t v,Tryz.f8.params[j]? =some t→args[j]? =some v→Value.okWide Tryz.prog W .any base t v:=hval0
 have hW':=hW
 obtain⟨p,q,hA0,hV0,rfl,_,_⟩:=hW
 have hA:DataW.TrodAll enc Tryz.prog W 0 (fun _=>true) true Tryz.f8.params.toList args.toList ds p:=hA0
 rw[Tryz.params8] at hA hval
 obtain⟨v0,vs0,d0,ds0,p0,q0,hargs,rfl,rfl,h0,r0⟩:=trodAll_cons hA
 obtain⟨v1,vs1,d1,ds1,p1,q1,rfl,rfl,rfl,h1,r1⟩:=trodAll_cons r0
 obtain⟨rfl,rfl,rfl⟩:=trodAll_nil r1
 obtain rfl:args= #[v0,v1]:=by cases args;simp_all
 obtain⟨rfl,rfl⟩:=trodVars_none hV0
 clear hA0 hval0
 obtain⟨i0,rfl⟩:=okWide_int Tryz.underlying3 (hval 0 3 v0 rfl rfl)
 obtain⟨i0',hi0,hw0⟩:=opened (R:=RInt .i64) (opens_int Tryz.underlying3) h0 rfl
 obtain rfl:i0=i0':=by simpa using hi0
 obtain⟨a1,n1,c1,rfl⟩:=okWide_slice Tryz.underlying53 (hval 1 53 v1 rfl rfl)
 obtain⟨xs1,hx1⟩:=opened opens_actOs h1 rfl
 refine(oplogPlays_walk i0 a1 n1 c1 xs1 W hw0 hx1 (mx_of hsh)).mono fun e W' ⟨he,bel⟩=> ?_
 subst he
 exact⟨_,rfl,_,_,_,[],_,[],hW',trodAll_mk1 (shut_bool Tryz.underlying4 _),(trodAll_cons_mk (Below.trod topLaid (by kernel_rfl) (of_decide_eq_true (by kernel_rfl)) h0 bel (trod_lt_of h0)) (trodAll_cons_mk (Below.trod topLaid (by kernel_rfl) (of_decide_eq_true (by kernel_rfl)) h1 bel (trod_lt_of h1)) trodAll_mk0)),rfl,bel.frame _,fun h=>by cases h⟩
theorem oplogPlays_facts:joinedFacts Tryz.prog 8 Tryz.f8 (OpenSpec.ofChange Rows.oplogPlaysSpec).bare Rows.oplogPlaysRow=true:=by
 unfold joinedFacts
 repeat' (with_reducible refine band ?_ ?_)
 all_goals (as_aux_lemma=>kernel_rfl)
theorem oplogPlays_row_holds:Rows.OplogPlaysSaid:=
 OpenClaim.holds_of_cond 8 Tryz.f8 rfl rfl rfl rfl rfl rfl rfl ⟨rfl,rfl,rfl,rfl,rfl⟩ rfl rfl rfl rfl rfl (by kernel_rfl) Tryz.func8 oplogPlays_facts
  (of_decide_eq_true (by kernel_rfl)) (by unfold Func.isWrapper;first|(rw[if_pos (by decide+kernel)];kernel_rfl)|(rw[if_neg (by decide+kernel)];exact⟨rfl,rfl⟩))
  (fun os started H enc _ F0=>by rw[OpenClaim.pre_eq_preRow];exact oplogPlays_lifted os started H enc F0)
theorem oplogPlays_holds:Rows.OplogPlaysCardSaid:=
 Claim7.holds_tied_plain_at .later [] [.data,.pinned] true Rows.oplogPlaysCard.stood.harness true
  oplogPlays_row_holds (fun _ h=>by cases h) (by as_aux_lemma=>kernel_rfl) (fun _ h=>by cases h) oplogPlays_row_tie rfl ⟨rfl,rfl⟩ (by as_aux_lemma=>kernel_rfl) rfl
  (fun f fn hf hfn=>by
   obtain rfl:f=8:=Option.some.inj ((show Tryz.prog.funcNamed "cooperage/cooperagelaw10.OplogPlays" =some 8 by as_aux_lemma=>kernel_rfl).symm.trans hf) |>.symm
   obtain rfl:fn=Tryz.f8:=(Option.some.inj (Tryz.func8.symm.trans hfn)).symm
   exact⟨by kernel_rfl,fun j t ht=>by
    rw[Tryz.params8] at ht
    have h3:t=53∨t=3:=by
     rcases j with _|j
     ·exact(.inr (by simpa using ht.symm))
     ·rcases j with _|j
      ·exact(.inl (by simpa using ht.symm))
      ·simp at ht
    rcases h3 with rfl|rfl
    ·exact(show Tryz.prog.wantsStandIn 53=false by as_aux_lemma=>kernel_rfl)
    ·exact(show Tryz.prog.wantsStandIn 3=false by as_aux_lemma=>kernel_rfl)⟩)
  (by as_aux_lemma=>kernel_rfl)
#print axioms oplogPlays_holds
end
end Go.Proofs.YtcicjklhbnipcaaGreatDoor
