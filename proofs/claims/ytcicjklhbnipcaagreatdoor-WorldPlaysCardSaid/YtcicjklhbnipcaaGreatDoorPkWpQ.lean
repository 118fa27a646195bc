/-
  WorldPlays: whatever processes do, begin and end, and whenever the power fails, it is answered as the document says, and the disk is its disk.
  Conditions: none beyond the card's own: the two listed tables lie as the program's text lays them.
-/
import Derived.Test.YtcicjklhbnipcaaGreatDoorPkWpP
set_option maxHeartbeats 16000000
set_option maxRecDepth 1000000
set_option linter.unusedVariables false
set_option linter.unusedSimpArgs false
namespace Go.Proofs.YtcicjklhbnipcaaGreatDoor
section
open Go.Shelf
open Go.ChangeShapes Go.WideShapes Go.ChangeAt Go.RowKit
open Go.Lib hiding intOf
theorem dM(os:Os){H:Type}(enc:TypeId×Value→H):
  (OpenSpec.ofChange Rows.worldPlaysSpec).preRow enc Tryz.prog Tryz.f11 Rows.worldPlaysRow.domain false Rows.worldPlaysRow.laid ((YX os).forCall (fun _ _=>0) ⟨#[],#[.int .i64 0,.slice none 0 0],[]⟩).memory #[.int .i64 0,.slice none 0 0]:=by
 have hw:(DataW.whole enc Tryz.prog ((YX os).forCall (fun _ _=>0) ⟨#[],#[.int .i64 0,.slice none 0 0],[]⟩).memory Tryz.f11.params.toList (OpenSpec.ofChange Rows.worldPlaysSpec).vars false #[Value.int .i64 0,.slice none 0 0].toList 8).map (fun x=>(x.1,x.2.1))=
   some ([.lit (.int .i64 0),.nil],[]):=by kernel_rfl
 obtain⟨⟨x1,x2,x3⟩,hx,hx1⟩:=Option.map_eq_some_iff.1 hw
 simp only[Prod.mk.injEq] at hx1
 obtain⟨rfl,rfl⟩:=hx1
 exact OpenSpec.preRow_of_cond 8 hx (by kernel_rfl) (fun k hk=>by cases hk) (by kernel_rfl) (zlu os _)
theorem dW(os:Os)(started:os.Started)(H:Type)(enc:TypeId×Value→H)(F:Stop.Interp):
  ReturnsInHanded {} Tryz.checked os 11 .any ((OpenSpec.ofChange Rows.worldPlaysSpec).preRow enc Tryz.prog Tryz.f11 Rows.worldPlaysRow.domain false Rows.worldPlaysRow.laid) (((OpenSpec.ofChange Rows.worldPlaysSpec).at F).post enc Tryz.prog Tryz.f11 false true false false):=by
 refine returnsInHanded_of_row (C:=Tryz.checked) (s:=OpenSpec.ofChange Rows.worldPlaysSpec) zoT started (by kernel_rfl) Tryz.func11
  (witness_row_atRef (enc:=enc) (C:=Tryz.checked) false (YX os) #[.int .i64 0,.slice none 0 0] rfl (by kernel_rfl) (by kernel_rfl) (by kernel_rfl) (dM os enc)) ?_
 intro W base args ds gs before mP hW _ _ _ hL hsh _
 have ou: ∀ (j:Nat) t v,Tryz.f11.params[j]? =some t→args[j]? =some v→Value.okWide Tryz.prog W .any base t v:=mP
 have IM:=hW
 obtain⟨p,q,Bl,IN,rfl,_,_⟩:=hW
 have hA:DataW.TrodAll enc Tryz.prog W 0 (fun _=>true) true Tryz.f11.params.toList args.toList ds p:=Bl
 rw[Tryz.params11] at hA ou
 obtain⟨v0,Jr,d0,Js,p0,q0,hargs,rfl,rfl,h0,r0⟩:=trodAll_cons hA
 obtain⟨v1,Jt,d1,Ju,p1,q1,rfl,rfl,rfl,h1,r1⟩:=trodAll_cons r0
 obtain⟨rfl,rfl,rfl⟩:=trodAll_nil r1
 obtain rfl:args= #[v0,v1]:=by cases args;simp_all
 obtain⟨rfl,rfl⟩:=trodVars_none IN
 clear Bl mP
 obtain⟨i0,rfl⟩:=okWide_int Tryz.underlying3 (ou 0 3 v0 rfl rfl)
 obtain⟨IP,hi0,hw0⟩:=zno (R:=RInt .i64) (zdL Tryz.underlying3) h0 rfl
 obtain rfl:i0=IP:=by simpa using hi0
 obtain⟨a1,n1,c1,rfl⟩:=okWide_slice Tryz.underlying84 (ou 1 84 v1 rfl rfl)
 obtain⟨IQ,hx1⟩:=zno zeI h1 rfl
 refine(IB i0 a1 n1 c1 IQ W hw0 hx1 (zpn hsh)).mono fun e W' ⟨he,uD⟩=> ?_
 subst he
 exact⟨_,rfl,_,_,_,[],_,[],IM,trodAll_mk1 (shut_bool Tryz.underlying4 _),(trodAll_cons_mk (Below.trod zko (by kernel_rfl) (of_decide_eq_true (by kernel_rfl)) h0 uD (XF h0)) (trodAll_cons_mk (Below.trod zko (by kernel_rfl) (of_decide_eq_true (by kernel_rfl)) h1 uD (XF h1)) trodAll_mk0)),rfl,uD.frame _,fun h=>by cases h⟩
theorem eN:joinedFacts Tryz.prog 11 Tryz.f11 (OpenSpec.ofChange Rows.worldPlaysSpec).bare Rows.worldPlaysRow=true:=by
 unfold joinedFacts
 repeat' (with_reducible refine band ?_ ?_)
 all_goals (as_aux_lemma=>kernel_rfl)
theorem df:Rows.WorldPlaysSaid:=
 OpenClaim.holds_of_cond 11 Tryz.f11 rfl rfl rfl rfl rfl rfl rfl ⟨rfl,rfl,rfl,rfl,rfl⟩ rfl rfl rfl rfl rfl (by kernel_rfl) Tryz.func11 eN
  (of_decide_eq_true (by kernel_rfl)) (by unfold Func.isWrapper;first|(rw[if_pos (by decide+kernel)];kernel_rfl)|(rw[if_neg (by decide+kernel)];exact⟨rfl,rfl⟩))
  (fun os started H enc _ F0=>by rw[OpenClaim.pre_eq_preRow];exact dW os started H enc F0)
theorem worldPlays_holds:Rows.WorldPlaysCardSaid:=
 Claim7.holds_tied_plain_at .later [] [.data,.pinned] true Rows.worldPlaysCard.stood.harness true
  df (fun _ h=>by cases h) (by as_aux_lemma=>kernel_rfl) (fun _ h=>by cases h) worldPlays_row_tie rfl ⟨rfl,rfl⟩ (by as_aux_lemma=>kernel_rfl) rfl
  (fun f fn hf dp=>by
   obtain rfl:f=11:=Option.some.inj ((show Tryz.prog.funcNamed "cooperage/cooperagelaw25.WorldPlays" =some 11 by as_aux_lemma=>kernel_rfl).symm.trans hf) |>.symm
   obtain rfl:fn=Tryz.f11:=(Option.some.inj (Tryz.func11.symm.trans dp)).symm
   exact⟨by kernel_rfl,fun j t ht=>by
    rw[Tryz.params11] at ht
    have h3:t=84∨t=3:=by
     rcases j with _|j
     ·exact(.inr (by simpa using ht.symm))
     ·rcases j with _|j
      ·exact(.inl (by simpa using ht.symm))
      ·simp at ht
    rcases h3 with rfl|rfl
    ·exact(show Tryz.prog.wantsStandIn 84=false by as_aux_lemma=>kernel_rfl)
    ·exact(show Tryz.prog.wantsStandIn 3=false by as_aux_lemma=>kernel_rfl)⟩)
  (by as_aux_lemma=>kernel_rfl)
#print axioms worldPlays_holds
end
end Go.Proofs.YtcicjklhbnipcaaGreatDoor
