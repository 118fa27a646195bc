/-
  Laid texts.
-/
import Derived.Test.YtcicjklhbnipcaaGreatDoorPkPlyI
set_option maxHeartbeats 16000000
set_option maxRecDepth 1000000
set_option linter.unusedVariables false
set_option linter.unusedSimpArgs false
namespace Go.Proofs.YtcicjklhbnipcaaGreatDoor
section
open Go.RowKit Go.Maps
section
variable {w w' w0 w1 w2:World}{X X1 X':RFX}{t t1 t':TabD}{zs zs1 zs':List NodV}{hs hs1 hs':List HndD}{N:Nat}{F:List Nat}{L:List Ent}
theorem rdo9_pn(h:RFIs X t zs hs w0)(I:In.Inv N t)(hN:N≤899990)(hl:hs.length≤900000)(o:Int)(p:OpD)(hp:PthOk p.path)(hd:PthOk p.dest)(hz:p.data.size≤1000000000)(hr:Hs.right p=true)(hk:p.kind=1∨p.kind=2∨p.kind=10∨p.kind=11∨p.kind=12)(hc:(Hs.place t p.path).2.2≠0):Calls Tryz.prog 87 #[.pointer (some ⟨X.f,0,none⟩),.int .i64 o,.agg p.cells.toArray] w0 (RFRes X t zs hs w0 (Hs.doN t hs o p)):=by
 rcases hk with hk|hk|hk|hk|hk
 all_goals as_aux_lemma=>
  obtain⟨xf,g,xs,xh,va,vc,rfl,hv,hM,HLK,HRI,HKG,HB⟩:=rf_all h
  have HV:=qh hv
  have HK:=qh h.hok
  have HL:=qh h.hlen
  have HRT:=qh (fun (W:World)=>rright_any p hp hd W)
  have HPL:=qh (fun (W:World) hA=>rplace9_any (HLK.out W hA) I (by omega) p.path hp.size hp.few hp.each)
  obtain⟨R,hR0⟩: ∃ R,Hs.doN t hs o p=R:=⟨_,rfl⟩
  rw[hR0]
  unfold Hs.doN at hR0
  rw[hr] at HRT hR0
  rw[if_neg (by simp),if_neg (by omega),if_neg (by omega),if_pos hc] at hR0
  have HR0:=qh hR0
  clear hR0
  obtain⟨kind,path,dest,hh,at_,n,data,pid,birth⟩:=p
  simp only at*
  unfold OpD.cells at*
  simp only at*
  subst hk
  generalize (Hs.place t path).2.2=c at*
  generalize (Hs.place t path).2.1=nm at*
  generalize (Hs.place t path).1=pd at*
  have q1:(c != 0)=true:=bne_iff_ne.2 hc
  clear h I hv hr hp hd hz hl hc
  go_enter Tryz.func87,Tryz.ntmps87
  (refine qw ?_;intros;rename_i hM)
  (refine qCB (HRT.out _) hM ?_;clear hM;intro w' hM)
  (refine qw ?_;intros;rename_i hM)
  (refine qCB (HPL.out _ (hM.part (Part.skip (Part.skip Part.all)))) hM ?_;clear hM;intro w' hM)
  (refine qw ?_;intros;rename_i hM)
  (refine qf ?_)
  rw[←HR0.out]
  exact⟨rfl,HB.out _ hM.forget.forget⟩
theorem rdo9_po(h:RFIs X t zs hs w0)(I:In.Inv N t)(hN:N≤899990)(hl:hs.length≤900000)(o:Int)(p:OpD)(hp:PthOk p.path)(hd:PthOk p.dest)(hz:p.data.size≤1000000000)(hr:Hs.right p=true)(hk:p.kind=3∨p.kind=4)(h8:¬8≤Hs.many hs o)(hc:(Hs.place t p.path).2.2≠0):Calls Tryz.prog 87 #[.pointer (some ⟨X.f,0,none⟩),.int .i64 o,.agg p.cells.toArray] w0 (RFRes X t zs hs w0 (Hs.doN t hs o p)):=by
 rcases hk with hk|hk
 all_goals as_aux_lemma=>
  obtain⟨xf,g,xs,xh,va,vc,rfl,hv,hM,HLK,HRI,HKG,HB⟩:=rf_all h
  have HV:=qh hv
  have HK:=qh h.hok
  have HL:=qh h.hlen
  have HRT:=qh (fun (W:World)=>rright_any p hp hd W)
  have HPL:=qh (fun (W:World) hA=>rplace9_any (HLK.out W hA) I (by omega) p.path hp.size hp.few hp.each)
  have HMA:=qh (fun (W:World) hA=>rmany_any (HLK.out W hA) o)
  obtain⟨R,hR0⟩: ∃ R,Hs.doN t hs o p=R:=⟨_,rfl⟩
  rw[hR0]
  unfold Hs.doN at hR0
  rw[hr] at HRT hR0
  rw[if_neg (by simp),if_neg (by omega),if_neg (fun hc=>by have:=hc.2;omega),if_pos hc] at hR0
  have HR0:=qh hR0
  clear hR0
  obtain⟨kind,path,dest,hh,at_,n,data,pid,birth⟩:=p
  simp only at*
  unfold OpD.cells at*
  simp only at*
  subst hk
  generalize (Hs.place t path).2.2=c at*
  generalize (Hs.place t path).2.1=nm at*
  generalize (Hs.place t path).1=pd at*
  generalize Hs.many hs o=m at*
  have m8:¬((8:Int)≤(m:Int)):=by omega
  clear h8
  have q1:(c != 0)=true:=bne_iff_ne.2 hc
  clear h I hv hr hp hd hz hl hc
  go_enter Tryz.func87,Tryz.ntmps87
  (refine qw ?_;intros;rename_i hM)
  (refine qCB (HRT.out _) hM ?_;clear hM;intro w' hM)
  (refine qw ?_;intros;rename_i hM)
  (refine qCB (HMA.out _ (hM.part (Part.skip (Part.skip Part.all)))) hM ?_;clear hM;intro w' hM)
  (refine qw ?_;intros;rename_i hM)
  (refine qCB (HPL.out _ (hM.part (Part.skip (Part.skip Part.all)))) hM ?_;clear hM;intro w' hM)
  (refine qw ?_;intros;rename_i hM)
  (refine qf ?_)
  rw[←HR0.out]
  exact⟨rfl,HB.out _ hM.forget.forget⟩
theorem rdo9_1(h:RFIs X t zs hs w0)(I:In.Inv N t)(hN:N≤899990)(hl:hs.length≤900000)(o:Int)(p:OpD)(hp:PthOk p.path)(hd:PthOk p.dest)(hz:p.data.size≤1000000000)(hr:Hs.right p=true)(hk:p.kind=1)(hc:(Hs.place t p.path).2.2=0):Calls Tryz.prog 87 #[.pointer (some ⟨X.f,0,none⟩),.int .i64 o,.agg p.cells.toArray] w0 (RFRes X t zs hs w0 (Hs.doN t hs o p)):=by
 obtain⟨xf,g,xs,xh,va,vc,rfl,hv,hM,HLK,HRI,HKG,HB⟩:=rf_all h
 have HV:=qh hv
 have HK:=qh h.hok
 have HL:=qh h.hlen
 have HRT:=qh (fun (W:World)=>rright_any p hp hd W)
 have HPL:=qh (fun (W:World) hA=>rplace9_any (HLK.out W hA) I (by omega) p.path hp.size hp.few hp.each)
 have hps:=place_size hp t
 have HC:=qh (fun (W:World) (hA:At (rL ⟨g,xs⟩ t.quota (t.last+1) zs) W)=>rMake_any (HRI.out W hA) I (by omega) (Hs.place t p.path).1 (Hs.place t p.path).2.1 true hps)
 obtain⟨R,hR0⟩: ∃ R,Hs.doN t hs o p=R:=⟨_,rfl⟩
 rw[hR0]
 unfold Hs.doN at hR0
 rw[hr] at HRT hR0
 rw[if_neg (by simp),if_neg (by omega),if_neg (by omega),if_neg (fun he=>he hc)] at hR0
 rw[named9_1 hk] at hR0
 have HR0:=qh hR0
 clear hR0
 rw[hc] at HPL
 generalize In.make t (Hs.place t p.path).1 (Hs.place t p.path).2.1 true=M at*
 obtain⟨kind,path,dest,hh,at_,n,data,pid,birth⟩:=p
 simp only at*
 unfold OpD.cells at*
 simp only at*
 subst hk
 generalize (Hs.place t path).2.1=nm at*
 generalize (Hs.place t path).1=pd at*
 clear h I hv hr hp hd hz hl hc hps
 go_enter Tryz.func87,Tryz.ntmps87
 (refine qw ?_;intros;rename_i hM)
 (refine qCB (HRT.out _) hM ?_;clear hM;intro w' hM)
 (refine qw ?_;intros;rename_i hM)
 (refine qCB (HPL.out _ (hM.part (Part.skip (Part.skip Part.all)))) hM ?_;clear hM;intro w' hM)
 (refine qw ?_;intros;rename_i hM)
 (refine qKx ?_;intro R hR)
 refine(HC.out _ (hM.part (Part.skip (Part.skip (Part.skip (Part.past Part.all)))))).mono ?_
 rintro e w' ⟨rfl,s2,zs2,hzn2,hto⟩
 have HGR:=qh (Grow.trans (fun k hk=> .inl (HKG.out k hk)) hto.grow hM.only.size:Grow w0 (keysOf (rfL ⟨xf,⟨g,xs⟩,xh⟩ t.quota (t.last+1) zs hs)) _)
 replace hM:=hM.backG (Swap.skip (Swap.skip (Swap.skip (Swap.past Swap.all)))) hto.st rg_mem hto.grow
 refine qho ?_
 clear hR R
 have HZ:=qh (And.intro hto.raw.sl (And.intro hto.raw.names (And.intro hto.raw.len hzn2)))
 clear hto hzn2 HC
 (refine qq ?_)
 (refine qw ?_;intros;rename_i hM)
 (refine qf ?_)
 rw[←HR0.out]
 refine⟨rfl,⟨xf,⟨g,s2⟩,xh⟩,zs2,St.rfTo ?_ rfl rfl HZ.out.1 HZ.out.2.1 HZ.out.2.2.1 HZ.out.2.2.2 HK.out HL.out HGR.out⟩
 rw[rfL_open (X:=⟨xf,⟨g,s2⟩,xh⟩) HV.out]
 exact hM.forget.forget
theorem rdo9_2(h:RFIs X t zs hs w0)(I:In.Inv N t)(hN:N≤899990)(hl:hs.length≤900000)(o:Int)(p:OpD)(hp:PthOk p.path)(hd:PthOk p.dest)(hz:p.data.size≤1000000000)(hr:Hs.right p=true)(hk:p.kind=2)(hc:(Hs.place t p.path).2.2=0):Calls Tryz.prog 87 #[.pointer (some ⟨X.f,0,none⟩),.int .i64 o,.agg p.cells.toArray] w0 (RFRes X t zs hs w0 (Hs.doN t hs o p)):=by
 obtain⟨xf,g,xs,xh,va,vc,rfl,hv,hM,HLK,HRI,HKG,HB⟩:=rf_all h
 have HV:=qh hv
 have HK:=qh h.hok
 have HL:=qh h.hlen
 have HRT:=qh (fun (W:World)=>rright_any p hp hd W)
 have HPL:=qh (fun (W:World) hA=>rplace9_any (HLK.out W hA) I (by omega) p.path hp.size hp.few hp.each)
 have hps:=place_size hp t
 have HC:=qh (fun (W:World) (hA:At (rL ⟨g,xs⟩ t.quota (t.last+1) zs) W)=>rRemove_any (HRI.out W hA) I (by omega) (Hs.place t p.path).1 (Hs.place t p.path).2.1 hps)
 obtain⟨R,hR0⟩: ∃ R,Hs.doN t hs o p=R:=⟨_,rfl⟩
 rw[hR0]
 unfold Hs.doN at hR0
 rw[hr] at HRT hR0
 rw[if_neg (by simp),if_neg (by omega),if_neg (by omega),if_neg (fun he=>he hc)] at hR0
 rw[named9_2 hk] at hR0
 have HR0:=qh hR0
 clear hR0
 rw[hc] at HPL
 generalize In.remove t (Hs.place t p.path).1 (Hs.place t p.path).2.1=M at*
 obtain⟨kind,path,dest,hh,at_,n,data,pid,birth⟩:=p
 simp only at*
 unfold OpD.cells at*
 simp only at*
 subst hk
 generalize (Hs.place t path).2.1=nm at*
 generalize (Hs.place t path).1=pd at*
 clear h I hv hr hp hd hz hl hc hps
 go_enter Tryz.func87,Tryz.ntmps87
 (refine qw ?_;intros;rename_i hM)
 (refine qCB (HRT.out _) hM ?_;clear hM;intro w' hM)
 (refine qw ?_;intros;rename_i hM)
 (refine qCB (HPL.out _ (hM.part (Part.skip (Part.skip Part.all)))) hM ?_;clear hM;intro w' hM)
 (refine qw ?_;intros;rename_i hM)
 (refine qKx ?_;intro R hR)
 refine(HC.out _ (hM.part (Part.skip (Part.skip (Part.skip (Part.past Part.all)))))).mono ?_
 rintro e w' ⟨rfl,s2,zs2,hzn2,hto⟩
 have HGR:=qh (Grow.trans (fun k hk=> .inl (HKG.out k hk)) hto.grow hM.only.size:Grow w0 (keysOf (rfL ⟨xf,⟨g,xs⟩,xh⟩ t.quota (t.last+1) zs hs)) _)
 replace hM:=hM.backG (Swap.skip (Swap.skip (Swap.skip (Swap.past Swap.all)))) hto.st rg_mem hto.grow
 refine qho ?_
 clear hR R
 have HZ:=qh (And.intro hto.raw.sl (And.intro hto.raw.names (And.intro hto.raw.len hzn2)))
 clear hto hzn2 HC
 (refine qq ?_)
 (refine qw ?_;intros;rename_i hM)
 (refine qf ?_)
 rw[←HR0.out]
 refine⟨rfl,⟨xf,⟨g,s2⟩,xh⟩,zs2,St.rfTo ?_ rfl rfl HZ.out.1 HZ.out.2.1 HZ.out.2.2.1 HZ.out.2.2.2 HK.out HL.out HGR.out⟩
 rw[rfL_open (X:=⟨xf,⟨g,s2⟩,xh⟩) HV.out]
 exact hM.forget.forget
theorem rdo9_11(h:RFIs X t zs hs w0)(I:In.Inv N t)(hN:N≤899990)(hl:hs.length≤900000)(o:Int)(p:OpD)(hp:PthOk p.path)(hd:PthOk p.dest)(hz:p.data.size≤1000000000)(hr:Hs.right p=true)(hk:p.kind=11)(hc:(Hs.place t p.path).2.2=0):Calls Tryz.prog 87 #[.pointer (some ⟨X.f,0,none⟩),.int .i64 o,.agg p.cells.toArray] w0 (RFRes X t zs hs w0 (Hs.doN t hs o p)):=by
 obtain⟨xf,g,xs,xh,va,vc,rfl,hv,hM,HLK,HRI,HKG,HB⟩:=rf_all h
 have HV:=qh hv
 have HK:=qh h.hok
 have HL:=qh h.hlen
 have HRT:=qh (fun (W:World)=>rright_any p hp hd W)
 have HPL:=qh (fun (W:World) hA=>rplace9_any (HLK.out W hA) I (by omega) p.path hp.size hp.few hp.each)
 have hps:=place_size hp t
 have HC:=qh (fun (W:World) (hA:At (rL ⟨g,xs⟩ t.quota (t.last+1) zs) W)=>rUnlink_any (HRI.out W hA) I (by omega) (Hs.place t p.path).1 (Hs.place t p.path).2.1 hps)
 obtain⟨R,hR0⟩: ∃ R,Hs.doN t hs o p=R:=⟨_,rfl⟩
 rw[hR0]
 unfold Hs.doN at hR0
 rw[hr] at HRT hR0
 rw[if_neg (by simp),if_neg (by omega),if_neg (by omega),if_neg (fun he=>he hc)] at hR0
 rw[named9_11 hk] at hR0
 have HR0:=qh hR0
 clear hR0
 rw[hc] at HPL
 generalize In.unlink t (Hs.place t p.path).1 (Hs.place t p.path).2.1=M at*
 obtain⟨kind,path,dest,hh,at_,n,data,pid,birth⟩:=p
 simp only at*
 unfold OpD.cells at*
 simp only at*
 subst hk
 generalize (Hs.place t path).2.1=nm at*
 generalize (Hs.place t path).1=pd at*
 clear h I hv hr hp hd hz hl hc hps
 go_enter Tryz.func87,Tryz.ntmps87
 (refine qw ?_;intros;rename_i hM)
 (refine qCB (HRT.out _) hM ?_;clear hM;intro w' hM)
 (refine qw ?_;intros;rename_i hM)
 (refine qCB (HPL.out _ (hM.part (Part.skip (Part.skip Part.all)))) hM ?_;clear hM;intro w' hM)
 (refine qw ?_;intros;rename_i hM)
 (refine qKx ?_;intro R hR)
 refine(HC.out _ (hM.part (Part.skip (Part.skip (Part.skip (Part.past Part.all)))))).mono ?_
 rintro e w' ⟨rfl,s2,zs2,hzn2,hto⟩
 have HGR:=qh (Grow.trans (fun k hk=> .inl (HKG.out k hk)) hto.grow hM.only.size:Grow w0 (keysOf (rfL ⟨xf,⟨g,xs⟩,xh⟩ t.quota (t.last+1) zs hs)) _)
 replace hM:=hM.backG (Swap.skip (Swap.skip (Swap.skip (Swap.past Swap.all)))) hto.st rg_mem hto.grow
 refine qho ?_
 clear hR R
 have HZ:=qh (And.intro hto.raw.sl (And.intro hto.raw.names (And.intro hto.raw.len hzn2)))
 clear hto hzn2 HC
 (refine qq ?_)
 (refine qw ?_;intros;rename_i hM)
 (refine qf ?_)
 rw[←HR0.out]
 refine⟨rfl,⟨xf,⟨g,s2⟩,xh⟩,zs2,St.rfTo ?_ rfl rfl HZ.out.1 HZ.out.2.1 HZ.out.2.2.1 HZ.out.2.2.2 HK.out HL.out HGR.out⟩
 rw[rfL_open (X:=⟨xf,⟨g,s2⟩,xh⟩) HV.out]
 exact hM.forget.forget
theorem rdo9_3e(h:RFIs X t zs hs w0)(I:In.Inv N t)(hN:N≤899990)(hl:hs.length≤900000)(o:Int)(p:OpD)(hp:PthOk p.path)(hd:PthOk p.dest)(hz:p.data.size≤1000000000)(hr:Hs.right p=true)(hk:p.kind=3)(h8:¬8≤Hs.many hs o)(hc:(Hs.place t p.path).2.2=0)(he:(In.make t (Hs.place t p.path).1 (Hs.place t p.path).2.1 false).2.1≠0):Calls Tryz.prog 87 #[.pointer (some ⟨X.f,0,none⟩),.int .i64 o,.agg p.cells.toArray] w0 (RFRes X t zs hs w0 (Hs.doN t hs o p)):=by
 obtain⟨xf,g,xs,xh,va,vc,rfl,hv,hM,HLK,HRI,HKG,HB⟩:=rf_all h
 have HV:=qh hv
 have HK:=qh h.hok
 have HL:=qh h.hlen
 have HRT:=qh (fun (W:World)=>rright_any p hp hd W)
 have HPL:=qh (fun (W:World) hA=>rplace9_any (HLK.out W hA) I (by omega) p.path hp.size hp.few hp.each)
 have HMA:=qh (fun (W:World) hA=>rmany_any (HLK.out W hA) o)
 have hps:=place_size hp t
 have HC:=qh (fun (W:World) (hA:At (rL ⟨g,xs⟩ t.quota (t.last+1) zs) W)=>rMake_any (HRI.out W hA) I (by omega) (Hs.place t p.path).1 (Hs.place t p.path).2.1 false hps)
 obtain⟨R,hR0⟩: ∃ R,Hs.doN t hs o p=R:=⟨_,rfl⟩
 rw[hR0]
 unfold Hs.doN at hR0
 rw[hr] at HRT hR0
 rw[if_neg (by simp),if_neg (by omega),if_neg (fun hc=>by have:=hc.2;omega),if_neg (fun he=>he hc)] at hR0
 rw[named9_3 hk] at hR0
 rw[if_pos he] at hR0
 have HR0:=qh hR0
 clear hR0
 rw[hc] at HPL
 generalize In.make t (Hs.place t p.path).1 (Hs.place t p.path).2.1 false=M at*
 obtain⟨kind,path,dest,hh,at_,n,data,pid,birth⟩:=p
 simp only at*
 unfold OpD.cells at*
 simp only at*
 subst hk
 generalize (Hs.place t path).2.1=nm at*
 generalize (Hs.place t path).1=pd at*
 generalize Hs.many hs o=m at*
 have m8:¬((8:Int)≤(m:Int)):=by omega
 clear h8
 have q2:(M.2.1 != 0)=true:=bne_iff_ne.2 he
 clear he
 clear h I hv hr hp hd hz hl hc hps
 go_enter Tryz.func87,Tryz.ntmps87
 (refine qw ?_;intros;rename_i hM)
 (refine qCB (HRT.out _) hM ?_;clear hM;intro w' hM)
 (refine qw ?_;intros;rename_i hM)
 (refine qCB (HMA.out _ (hM.part (Part.skip (Part.skip Part.all)))) hM ?_;clear hM;intro w' hM)
 (refine qw ?_;intros;rename_i hM)
 (refine qCB (HPL.out _ (hM.part (Part.skip (Part.skip Part.all)))) hM ?_;clear hM;intro w' hM)
 (refine qw ?_;intros;rename_i hM)
 (refine qKx ?_;intro R hR)
 refine(HC.out _ (hM.part (Part.skip (Part.skip (Part.skip (Part.past Part.all)))))).mono ?_
 rintro e w' ⟨rfl,s2,zs2,hzn2,hto⟩
 have HGR:=qh (Grow.trans (fun k hk=> .inl (HKG.out k hk)) hto.grow hM.only.size:Grow w0 (keysOf (rfL ⟨xf,⟨g,xs⟩,xh⟩ t.quota (t.last+1) zs hs)) _)
 replace hM:=hM.backG (Swap.skip (Swap.skip (Swap.skip (Swap.past Swap.all)))) hto.st rg_mem hto.grow
 refine qho ?_
 clear hR R
 have HZ:=qh (And.intro hto.raw.sl (And.intro hto.raw.names (And.intro hto.raw.len hzn2)))
 clear hto hzn2 HC
 (refine qq ?_)
 (refine qw ?_;intros;rename_i hM)
 (refine qf ?_)
 rw[←HR0.out]
 refine⟨rfl,⟨xf,⟨g,s2⟩,xh⟩,zs2,St.rfTo ?_ rfl rfl HZ.out.1 HZ.out.2.1 HZ.out.2.2.1 HZ.out.2.2.2 HK.out HL.out HGR.out⟩
 rw[rfL_open (X:=⟨xf,⟨g,s2⟩,xh⟩) HV.out]
 exact hM.forget.forget
theorem rdo9_3(h:RFIs X t zs hs w0)(I:In.Inv N t)(hN:N≤899990)(hl:hs.length≤900000)(o:Int)(p:OpD)(hp:PthOk p.path)(hd:PthOk p.dest)(hz:p.data.size≤1000000000)(hr:Hs.right p=true)(hk:p.kind=3)(h8:¬8≤Hs.many hs o)(hc:(Hs.place t p.path).2.2=0)(he:(In.make t (Hs.place t p.path).1 (Hs.place t p.path).2.1 false).2.1=0):Calls Tryz.prog 87 #[.pointer (some ⟨X.f,0,none⟩),.int .i64 o,.agg p.cells.toArray] w0 (RFRes X t zs hs w0 (Hs.doN t hs o p)):=by
 obtain⟨xf,g,xs,xh,va,vc,rfl,hv,hM,HLK,HRI,HKG,HB⟩:=rf_all h
 have HV:=qh hv
 have HK:=qh h.hok
 have HL:=qh h.hlen
 have HRT:=qh (fun (W:World)=>rright_any p hp hd W)
 have HPL:=qh (fun (W:World) hA=>rplace9_any (HLK.out W hA) I (by omega) p.path hp.size hp.few hp.each)
 have HMA:=qh (fun (W:World) hA=>rmany_any (HLK.out W hA) o)
 have hps:=place_size hp t
 have HC:=qh (fun (W:World) (hA:At (rL ⟨g,xs⟩ t.quota (t.last+1) zs) W)=>rMake_any (HRI.out W hA) I (by omega) (Hs.place t p.path).1 (Hs.place t p.path).2.1 false hps)
 have HG2:=qh (fun (W:World) (s2:Option (Nat×Nat)) (zs2:List NodV) (h2:RFIs ⟨xf,⟨g,s2⟩,xh⟩ (In.make t (Hs.place t p.path).1 (Hs.place t p.path).2.1 false).2.2 zs2 hs W)=>rgives_any h2 (In.inv_make I (Hs.place t p.path).1 (Hs.place t p.path).2.1 false) (by omega) hl o (In.make t (Hs.place t p.path).1 (Hs.place t p.path).2.1 false).1)
 obtain⟨R,hR0⟩: ∃ R,Hs.doN t hs o p=R:=⟨_,rfl⟩
 rw[hR0]
 unfold Hs.doN at hR0
 rw[hr] at HRT hR0
 rw[if_neg (by simp),if_neg (by omega),if_neg (fun hc=>by have:=hc.2;omega),if_neg (fun he=>he hc)] at hR0
 rw[named9_3 hk] at hR0
 rw[if_neg (fun h=>h he)] at hR0
 have HR0:=qh hR0
 clear hR0
 rw[hc] at HPL
 rw[he] at HC
 generalize In.make t (Hs.place t p.path).1 (Hs.place t p.path).2.1 false=M at*
 obtain⟨kind,path,dest,hh,at_,n,data,pid,birth⟩:=p
 simp only at*
 unfold OpD.cells at*
 simp only at*
 subst hk
 generalize (Hs.place t path).2.1=nm at*
 generalize (Hs.place t path).1=pd at*
 generalize Hs.many hs o=m at*
 have m8:¬((8:Int)≤(m:Int)):=by omega
 clear h8
 clear he
 clear h I hv hr hp hd hz hl hc hps
 go_enter Tryz.func87,Tryz.ntmps87
 (refine qw ?_;intros;rename_i hM)
 (refine qCB (HRT.out _) hM ?_;clear hM;intro w' hM)
 (refine qw ?_;intros;rename_i hM)
 (refine qCB (HMA.out _ (hM.part (Part.skip (Part.skip Part.all)))) hM ?_;clear hM;intro w' hM)
 (refine qw ?_;intros;rename_i hM)
 (refine qCB (HPL.out _ (hM.part (Part.skip (Part.skip Part.all)))) hM ?_;clear hM;intro w' hM)
 (refine qw ?_;intros;rename_i hM)
 (refine qKx ?_;intro R hR)
 refine(HC.out _ (hM.part (Part.skip (Part.skip (Part.skip (Part.past Part.all)))))).mono ?_
 rintro e w' ⟨rfl,s2,zs2,hzn2,hto⟩
 have HGR:=qh (Grow.trans (fun k hk=> .inl (HKG.out k hk)) hto.grow hM.only.size:Grow w0 (keysOf (rfL ⟨xf,⟨g,xs⟩,xh⟩ t.quota (t.last+1) zs hs)) _)
 replace hM:=hM.backG (Swap.skip (Swap.skip (Swap.skip (Swap.past Swap.all)))) hto.st rg_mem hto.grow
 refine qho ?_
 clear hR R
 have HZ:=qh (And.intro hto.raw.sl (And.intro hto.raw.names (And.intro hto.raw.len hzn2)))
 clear hto hzn2 HC
 (refine qq ?_)
 (refine qw ?_;intros;rename_i hM)
 have HG:=qh (fun (W:World) (hA:At ((xf,true,Res.cells [.pointer (some ⟨g,0,none⟩),.slice va hs.length vc] 76)::(hndL xh hs++rL ⟨g,s2⟩ M.2.2.quota (M.2.2.last+1) zs2)) W)=>HG2.out W s2 zs2 ⟨by rw[rfL_open (X:=⟨xf,⟨g,s2⟩,xh⟩) HV.out];exact hA,HZ.out.1,HZ.out.2.1,HZ.out.2.2.1,HZ.out.2.2.2,HK.out,HL.out⟩)
 (refine qKx ?_;intro R hR)
 refine(HG.out _ (hM.part (Part.skip (Part.skip Part.all)))).mono ?_
 rintro e w' (⟨hc1,rfl,X2,zs3,hto⟩|⟨hc1,rfl,X2,zs3,hto⟩)
 ·have HGW:=qh (Grow.trans HGR.out.full hto.grow hM.only.size)
  rw[←rfL_open (X:=⟨xf,⟨g,s2⟩,xh⟩) HV.out] at hM
  replace hM:=hM.backG (Swap.skip (Swap.skip Swap.all)) hto.st rfG_mem hto.grow
  refine qho ?_
  clear hR R
  have HTO:=qh hto
  clear hto HG
  have HRR:=qh (HR0.out.symm.trans (by unfold Hs.gives;rw[if_neg hc1]))
  clear HR0 hc1
  (refine qq ?_)
  (refine qw ?_;intros;rename_i hM)
  (refine qf ?_)
  rw[HRR.out]
  exact⟨rfl,HTO.out.fin hM.forget.forget rfl rfl HGW.out⟩
 ·have HGW:=qh (Grow.trans HGR.out.full hto.grow hM.only.size)
  rw[←rfL_open (X:=⟨xf,⟨g,s2⟩,xh⟩) HV.out] at hM
  replace hM:=hM.backG (Swap.skip (Swap.skip Swap.all)) hto.st rfG_mem hto.grow
  refine qho ?_
  clear hR R
  have HTO:=qh hto
  clear hto HG
  have HRR:=qh (HR0.out.symm.trans (by unfold Hs.gives;rw[if_pos hc1]))
  clear HR0 hc1
  (refine qq ?_)
  (refine qw ?_;intros;rename_i hM)
  (refine qf ?_)
  rw[HRR.out]
  exact⟨rfl,HTO.out.fin hM.forget.forget rfl rfl HGW.out⟩
theorem rdo9_4e(h:RFIs X t zs hs w0)(I:In.Inv N t)(hN:N≤899990)(hl:hs.length≤900000)(o:Int)(p:OpD)(hp:PthOk p.path)(hd:PthOk p.dest)(hz:p.data.size≤1000000000)(hr:Hs.right p=true)(hk:p.kind=4)(h8:¬8≤Hs.many hs o)(hc:(Hs.place t p.path).2.2=0)(he:In.findE t (Hs.place t p.path).1 (Hs.place t p.path).2.1≠0):Calls Tryz.prog 87 #[.pointer (some ⟨X.f,0,none⟩),.int .i64 o,.agg p.cells.toArray] w0 (RFRes X t zs hs w0 (Hs.doN t hs o p)):=by
 obtain⟨xf,g,xs,xh,va,vc,rfl,hv,hM,HLK,HRI,HKG,HB⟩:=rf_all h
 have HV:=qh hv
 have HK:=qh h.hok
 have HL:=qh h.hlen
 have HRT:=qh (fun (W:World)=>rright_any p hp hd W)
 have HPL:=qh (fun (W:World) hA=>rplace9_any (HLK.out W hA) I (by omega) p.path hp.size hp.few hp.each)
 have HMA:=qh (fun (W:World) hA=>rmany_any (HLK.out W hA) o)
 have hps:=place_size hp t
 have HC:=qh (fun (W:World) (hA:At (rL ⟨g,xs⟩ t.quota (t.last+1) zs) W)=>rFindE_any (HRI.out W hA) I (by omega) (Hs.place t p.path).1 (Hs.place t p.path).2.1 hps)
 obtain⟨R,hR0⟩: ∃ R,Hs.doN t hs o p=R:=⟨_,rfl⟩
 rw[hR0]
 unfold Hs.doN at hR0
 rw[hr] at HRT hR0
 rw[if_neg (by simp),if_neg (by omega),if_neg (fun hc=>by have:=hc.2;omega),if_neg (fun he=>he hc)] at hR0
 rw[named9_4 hk] at hR0
 rw[if_pos he] at hR0
 have HR0:=qh hR0
 clear hR0
 rw[hc] at HPL
 generalize In.findE t (Hs.place t p.path).1 (Hs.place t p.path).2.1=c2 at*
 generalize In.findN t (Hs.place t p.path).1 (Hs.place t p.path).2.1=id at*
 obtain⟨kind,path,dest,hh,at_,n,data,pid,birth⟩:=p
 simp only at*
 unfold OpD.cells at*
 simp only at*
 subst hk
 generalize (Hs.place t path).2.1=nm at*
 generalize (Hs.place t path).1=pd at*
 generalize Hs.many hs o=m at*
 have m8:¬((8:Int)≤(m:Int)):=by omega
 clear h8
 have q2:(c2 != 0)=true:=bne_iff_ne.2 he
 clear he
 clear h I hv hr hp hd hz hl hc hps
 go_enter Tryz.func87,Tryz.ntmps87
 (refine qw ?_;intros;rename_i hM)
 (refine qCB (HRT.out _) hM ?_;clear hM;intro w' hM)
 (refine qw ?_;intros;rename_i hM)
 (refine qCB (HMA.out _ (hM.part (Part.skip (Part.skip Part.all)))) hM ?_;clear hM;intro w' hM)
 (refine qw ?_;intros;rename_i hM)
 (refine qCB (HPL.out _ (hM.part (Part.skip (Part.skip Part.all)))) hM ?_;clear hM;intro w' hM)
 (refine qw ?_;intros;rename_i hM)
 (refine qCB (HC.out _ (hM.part (Part.skip (Part.skip (Part.skip (Part.past Part.all)))))) hM ?_;clear hM;intro w' hM)
 (refine qw ?_;intros;rename_i hM)
 (refine qf ?_)
 rw[←HR0.out]
 exact⟨rfl,HB.out _ hM.forget.forget⟩
theorem rdo9_4(h:RFIs X t zs hs w0)(I:In.Inv N t)(hN:N≤899990)(hl:hs.length≤900000)(o:Int)(p:OpD)(hp:PthOk p.path)(hd:PthOk p.dest)(hz:p.data.size≤1000000000)(hr:Hs.right p=true)(hk:p.kind=4)(h8:¬8≤Hs.many hs o)(hc:(Hs.place t p.path).2.2=0)(he:In.findE t (Hs.place t p.path).1 (Hs.place t p.path).2.1=0):Calls Tryz.prog 87 #[.pointer (some ⟨X.f,0,none⟩),.int .i64 o,.agg p.cells.toArray] w0 (RFRes X t zs hs w0 (Hs.doN t hs o p)):=by
 obtain⟨xf,g,xs,xh,va,vc,rfl,hv,hM,HLK,HRI,HKG,HB⟩:=rf_all h
 have HV:=qh hv
 have HK:=qh h.hok
 have HL:=qh h.hlen
 have HRT:=qh (fun (W:World)=>rright_any p hp hd W)
 have HPL:=qh (fun (W:World) hA=>rplace9_any (HLK.out W hA) I (by omega) p.path hp.size hp.few hp.each)
 have HMA:=qh (fun (W:World) hA=>rmany_any (HLK.out W hA) o)
 have hps:=place_size hp t
 have HC:=qh (fun (W:World) (hA:At (rL ⟨g,xs⟩ t.quota (t.last+1) zs) W)=>rFindE_any (HRI.out W hA) I (by omega) (Hs.place t p.path).1 (Hs.place t p.path).2.1 hps)
 have HG:=qh (fun (W:World) (hA:At ((xf,true,Res.cells [.pointer (some ⟨g,0,none⟩),.slice va hs.length vc] 76)::(hndL xh hs++rL ⟨g,xs⟩ t.quota (t.last+1) zs)) W)=>rgives_any (HLK.out W hA) I (by omega) hl o (In.findN t (Hs.place t p.path).1 (Hs.place t p.path).2.1))
 obtain⟨R,hR0⟩: ∃ R,Hs.doN t hs o p=R:=⟨_,rfl⟩
 rw[hR0]
 unfold Hs.doN at hR0
 rw[hr] at HRT hR0
 rw[if_neg (by simp),if_neg (by omega),if_neg (fun hc=>by have:=hc.2;omega),if_neg (fun he=>he hc)] at hR0
 rw[named9_4 hk] at hR0
 rw[if_neg (fun h=>h he)] at hR0
 have HR0:=qh hR0
 clear hR0
 rw[hc] at HPL
 rw[he] at HC
 generalize In.findN t (Hs.place t p.path).1 (Hs.place t p.path).2.1=id at*
 obtain⟨kind,path,dest,hh,at_,n,data,pid,birth⟩:=p
 simp only at*
 unfold OpD.cells at*
 simp only at*
 subst hk
 generalize (Hs.place t path).2.1=nm at*
 generalize (Hs.place t path).1=pd at*
 generalize Hs.many hs o=m at*
 have m8:¬((8:Int)≤(m:Int)):=by omega
 clear h8
 clear he
 clear h I hv hr hp hd hz hl hc hps
 go_enter Tryz.func87,Tryz.ntmps87
 (refine qw ?_;intros;rename_i hM)
 (refine qCB (HRT.out _) hM ?_;clear hM;intro w' hM)
 (refine qw ?_;intros;rename_i hM)
 (refine qCB (HMA.out _ (hM.part (Part.skip (Part.skip Part.all)))) hM ?_;clear hM;intro w' hM)
 (refine qw ?_;intros;rename_i hM)
 (refine qCB (HPL.out _ (hM.part (Part.skip (Part.skip Part.all)))) hM ?_;clear hM;intro w' hM)
 (refine qw ?_;intros;rename_i hM)
 (refine qCB (HC.out _ (hM.part (Part.skip (Part.skip (Part.skip (Part.past Part.all)))))) hM ?_;clear hM;intro w' hM)
 (refine qw ?_;intros;rename_i hM)
 (refine qKx ?_;intro R hR)
 refine(HG.out _ (hM.part (Part.skip (Part.skip Part.all)))).mono ?_
 rintro e w' (⟨hc1,rfl,X2,zs3,hto⟩|⟨hc1,rfl,X2,zs3,hto⟩)
 ·have HGW:=qh (Grow.trans (Grow.refl w0 _) hto.grow hM.only.size)
  rw[←rfL_open (X:=⟨xf,⟨g,xs⟩,xh⟩) HV.out] at hM
  replace hM:=hM.backG (Swap.skip (Swap.skip Swap.all)) hto.st rfG_mem hto.grow
  refine qho ?_
  clear hR R
  have HTO:=qh hto
  clear hto HG
  have HRR:=qh (HR0.out.symm.trans (by unfold Hs.gives;rw[if_neg hc1]))
  clear HR0 hc1
  (refine qq ?_)
  (refine qw ?_;intros;rename_i hM)
  (refine qf ?_)
  rw[HRR.out]
  exact⟨rfl,HTO.out.fin hM.forget.forget rfl rfl HGW.out⟩
 ·have HGW:=qh (Grow.trans (Grow.refl w0 _) hto.grow hM.only.size)
  rw[←rfL_open (X:=⟨xf,⟨g,xs⟩,xh⟩) HV.out] at hM
  replace hM:=hM.backG (Swap.skip (Swap.skip Swap.all)) hto.st rfG_mem hto.grow
  refine qho ?_
  clear hR R
  have HTO:=qh hto
  clear hto HG
  have HRR:=qh (HR0.out.symm.trans (by unfold Hs.gives;rw[if_pos hc1]))
  clear HR0 hc1
  (refine qq ?_)
  (refine qw ?_;intros;rename_i hM)
  (refine qf ?_)
  rw[HRR.out]
  exact⟨rfl,HTO.out.fin hM.forget.forget rfl rfl HGW.out⟩
theorem rdo9_10(h:RFIs X t zs hs w0)(I:In.Inv N t)(hN:N≤899990)(hl:hs.length≤900000)(o:Int)(p:OpD)(hp:PthOk p.path)(hd:PthOk p.dest)(hz:p.data.size≤1000000000)(hr:Hs.right p=true)(hk:p.kind=10)(hc:(Hs.place t p.path).2.2=0):Calls Tryz.prog 87 #[.pointer (some ⟨X.f,0,none⟩),.int .i64 o,.agg p.cells.toArray] w0 (RFRes X t zs hs w0 (Hs.doN t hs o p)):=by
 obtain⟨xf,g,xs,xh,va,vc,rfl,hv,hM,HLK,HRI,HKG,HB⟩:=rf_all h
 have HV:=qh hv
 have HK:=qh h.hok
 have HL:=qh h.hlen
 have HRT:=qh (fun (W:World)=>rright_any p hp hd W)
 have HPL:=qh (fun (W:World) hA=>rplace9_any (HLK.out W hA) I (by omega) p.path hp.size hp.few hp.each)
 have hps:=place_size hp t
 have HC:=qh (fun (W:World) hA=>rlinks_any (HLK.out W hA) I (by omega) (Hs.place t p.path).1 (Hs.place t p.path).2.1 p.dest hps hd)
 obtain⟨R,hR0⟩: ∃ R,Hs.doN t hs o p=R:=⟨_,rfl⟩
 rw[hR0]
 unfold Hs.doN at hR0
 rw[hr] at HRT hR0
 rw[if_neg (by simp),if_neg (by omega),if_neg (by omega),if_neg (fun he=>he hc)] at hR0
 rw[named9_10 hk] at hR0
 have HR0:=qh hR0
 clear hR0
 rw[hc] at HPL
 generalize Hs.links t hs (Hs.place t p.path).1 (Hs.place t p.path).2.1 p.dest=R1 at*
 obtain⟨kind,path,dest,hh,at_,n,data,pid,birth⟩:=p
 simp only at*
 unfold OpD.cells at*
 simp only at*
 subst hk
 generalize (Hs.place t path).2.1=nm at*
 generalize (Hs.place t path).1=pd at*
 clear h I hv hr hp hd hz hl hc hps
 go_enter Tryz.func87,Tryz.ntmps87
 (refine qw ?_;intros;rename_i hM)
 (refine qCB (HRT.out _) hM ?_;clear hM;intro w' hM)
 (refine qw ?_;intros;rename_i hM)
 (refine qCB (HPL.out _ (hM.part (Part.skip (Part.skip Part.all)))) hM ?_;clear hM;intro w' hM)
 (refine qw ?_;intros;rename_i hM)
 (refine qKx ?_;intro R hR)
 refine(HC.out _ (hM.part (Part.skip (Part.skip Part.all)))).mono ?_
 rintro e w' ⟨rfl,X2,zs2,hto⟩
 have HGW:=qh (Grow.trans (Grow.refl w0 _) hto.grow hM.only.size)
 rw[←rfL_open (X:=⟨xf,⟨g,xs⟩,xh⟩) HV.out] at hM
 replace hM:=hM.backG (Swap.skip (Swap.skip Swap.all)) hto.st rfG_mem hto.grow
 refine qho ?_
 clear hR R
 have HTO:=qh hto
 clear hto HC
 (refine qq ?_)
 (refine qw ?_;intros;rename_i hM)
 (refine qf ?_)
 rw[←HR0.out]
 exact⟨rfl,HTO.out.fin hM.forget.forget rfl rfl HGW.out⟩
theorem rdo9_12e(h:RFIs X t zs hs w0)(I:In.Inv N t)(hN:N≤899990)(hl:hs.length≤900000)(o:Int)(p:OpD)(hp:PthOk p.path)(hd:PthOk p.dest)(hz:p.data.size≤1000000000)(hr:Hs.right p=true)(hk:p.kind=12)(hc:(Hs.place t p.path).2.2=0)(he:(Hs.place t p.dest).2.2≠0):Calls Tryz.prog 87 #[.pointer (some ⟨X.f,0,none⟩),.int .i64 o,.agg p.cells.toArray] w0 (RFRes X t zs hs w0 (Hs.doN t hs o p)):=by
 obtain⟨xf,g,xs,xh,va,vc,rfl,hv,hM,HLK,HRI,HKG,HB⟩:=rf_all h
 have HV:=qh hv
 have HK:=qh h.hok
 have HL:=qh h.hlen
 have HRT:=qh (fun (W:World)=>rright_any p hp hd W)
 have HPL:=qh (fun (W:World) hA=>rplace9_any (HLK.out W hA) I (by omega) p.path hp.size hp.few hp.each)
 have hps:=place_size hp t
 have HP2:=qh (fun (W:World) hA=>rplace9_any (HLK.out W hA) I (by omega) p.dest hd.size hd.few hd.each)
 have hds:=place_size hd t
 obtain⟨R,hR0⟩: ∃ R,Hs.doN t hs o p=R:=⟨_,rfl⟩
 rw[hR0]
 unfold Hs.doN at hR0
 rw[hr] at HRT hR0
 rw[if_neg (by simp),if_neg (by omega),if_neg (by omega),if_neg (fun he=>he hc)] at hR0
 rw[named9_12 hk] at hR0
 rw[if_pos he] at hR0
 have HR0:=qh hR0
 clear hR0
 rw[hc] at HPL
 generalize (Hs.place t p.dest).2.2=c2 at*
 generalize (Hs.place t p.dest).2.1=nm2 at*
 generalize (Hs.place t p.dest).1=pd2 at*
 obtain⟨kind,path,dest,hh,at_,n,data,pid,birth⟩:=p
 simp only at*
 unfold OpD.cells at*
 simp only at*
 subst hk
 generalize (Hs.place t path).2.1=nm at*
 generalize (Hs.place t path).1=pd at*
 have q2:(c2 != 0)=true:=bne_iff_ne.2 he
 clear he hds
 clear h I hv hr hp hd hz hl hc hps
 go_enter Tryz.func87,Tryz.ntmps87
 (refine qw ?_;intros;rename_i hM)
 (refine qCB (HRT.out _) hM ?_;clear hM;intro w' hM)
 (refine qw ?_;intros;rename_i hM)
 (refine qCB (HPL.out _ (hM.part (Part.skip (Part.skip Part.all)))) hM ?_;clear hM;intro w' hM)
 (refine qw ?_;intros;rename_i hM)
 (refine qCB (HP2.out _ (hM.part (Part.skip (Part.skip Part.all)))) hM ?_;clear hM;intro w' hM)
 (refine qw ?_;intros;rename_i hM)
 (refine qf ?_)
 rw[←HR0.out]
 exact⟨rfl,HB.out _ hM.forget.forget⟩
theorem rdo9_12(h:RFIs X t zs hs w0)(I:In.Inv N t)(hN:N≤899990)(hl:hs.length≤900000)(o:Int)(p:OpD)(hp:PthOk p.path)(hd:PthOk p.dest)(hz:p.data.size≤1000000000)(hr:Hs.right p=true)(hk:p.kind=12)(hc:(Hs.place t p.path).2.2=0)(he:(Hs.place t p.dest).2.2=0):Calls Tryz.prog 87 #[.pointer (some ⟨X.f,0,none⟩),.int .i64 o,.agg p.cells.toArray] w0 (RFRes X t zs hs w0 (Hs.doN t hs o p)):=by
 obtain⟨xf,g,xs,xh,va,vc,rfl,hv,hM,HLK,HRI,HKG,HB⟩:=rf_all h
 have HV:=qh hv
 have HK:=qh h.hok
 have HL:=qh h.hlen
 have HRT:=qh (fun (W:World)=>rright_any p hp hd W)
 have HPL:=qh (fun (W:World) hA=>rplace9_any (HLK.out W hA) I (by omega) p.path hp.size hp.few hp.each)
 have hps:=place_size hp t
 have HP2:=qh (fun (W:World) hA=>rplace9_any (HLK.out W hA) I (by omega) p.dest hd.size hd.few hd.each)
 have hds:=place_size hd t
 have HC:=qh (fun (W:World) (hA:At (rL ⟨g,xs⟩ t.quota (t.last+1) zs) W)=>rRename_any (HRI.out W hA) I (by omega) (Hs.place t p.path).1 (Hs.place t p.path).2.1 (Hs.place t p.dest).1 (Hs.place t p.dest).2.1 hps hds)
 obtain⟨R,hR0⟩: ∃ R,Hs.doN t hs o p=R:=⟨_,rfl⟩
 rw[hR0]
 unfold Hs.doN at hR0
 rw[hr] at HRT hR0
 rw[if_neg (by simp),if_neg (by omega),if_neg (by omega),if_neg (fun he=>he hc)] at hR0
 rw[named9_12 hk] at hR0
 rw[if_neg (fun h=>h he)] at hR0
 have HR0:=qh hR0
 clear hR0
 rw[hc] at HPL
 rw[he] at HP2
 generalize In.rename t (Hs.place t p.path).1 (Hs.place t p.path).2.1 (Hs.place t p.dest).1 (Hs.place t p.dest).2.1=M at*
 generalize (Hs.place t p.dest).2.1=nm2 at*
 generalize (Hs.place t p.dest).1=pd2 at*
 obtain⟨kind,path,dest,hh,at_,n,data,pid,birth⟩:=p
 simp only at*
 unfold OpD.cells at*
 simp only at*
 subst hk
 generalize (Hs.place t path).2.1=nm at*
 generalize (Hs.place t path).1=pd at*
 clear he hds
 clear h I hv hr hp hd hz hl hc hps
 go_enter Tryz.func87,Tryz.ntmps87
 (refine qw ?_;intros;rename_i hM)
 (refine qCB (HRT.out _) hM ?_;clear hM;intro w' hM)
 (refine qw ?_;intros;rename_i hM)
 (refine qCB (HPL.out _ (hM.part (Part.skip (Part.skip Part.all)))) hM ?_;clear hM;intro w' hM)
 (refine qw ?_;intros;rename_i hM)
 (refine qCB (HP2.out _ (hM.part (Part.skip (Part.skip Part.all)))) hM ?_;clear hM;intro w' hM)
 (refine qw ?_;intros;rename_i hM)
 (refine qKx ?_;intro R hR)
 refine(HC.out _ (hM.part (Part.skip (Part.skip (Part.skip (Part.past Part.all)))))).mono ?_
 rintro e w' ⟨rfl,s2,zs2,hzn2,hto⟩
 have HGR:=qh (Grow.trans (fun k hk=> .inl (HKG.out k hk)) hto.grow hM.only.size:Grow w0 (keysOf (rfL ⟨xf,⟨g,xs⟩,xh⟩ t.quota (t.last+1) zs hs)) _)
 replace hM:=hM.backG (Swap.skip (Swap.skip (Swap.skip (Swap.past Swap.all)))) hto.st rg_mem hto.grow
 refine qho ?_
 clear hR R
 have HZ:=qh (And.intro hto.raw.sl (And.intro hto.raw.names (And.intro hto.raw.len hzn2)))
 clear hto hzn2 HC
 (refine qq ?_)
 (refine qw ?_;intros;rename_i hM)
 (refine qf ?_)
 rw[←HR0.out]
 refine⟨rfl,⟨xf,⟨g,s2⟩,xh⟩,zs2,St.rfTo ?_ rfl rfl HZ.out.1 HZ.out.2.1 HZ.out.2.2.1 HZ.out.2.2.2 HK.out HL.out HGR.out⟩
 rw[rfL_open (X:=⟨xf,⟨g,s2⟩,xh⟩) HV.out]
 exact hM.forget.forget
theorem rdoN9_any(h:RFIs X t zs hs w0)(I:In.Inv N t)(hN:N≤899990)(hl:hs.length≤900000)(o:Int)(p:OpD)(hp:PthOk p.path)(hd:PthOk p.dest)(hz:p.data.size≤1000000000)(h13:¬(Hs.right p=true∧p.kind=13)):Calls Tryz.prog 87 #[.pointer (some ⟨X.f,0,none⟩),.int .i64 o,.agg p.cells.toArray] w0 (RFRes X t zs hs w0 (Hs.doN t hs o p)):=by
 cases hr:Hs.right p with
 |false=>exact rdo9_bad h I hN hl o p hp hd hz hr
 |true=>
  have hkd:1≤p.kind∧p.kind≤12:=by
   have h13':p.kind≠13:=fun e=>h13 ⟨hr,e⟩
   unfold Hs.right at hr
   split at hr
   ·omega
   ·split at hr
    ·omega
    ·have:=(Bool.and_eq_true _ _).mp hr
     have h1:=of_decide_eq_true this.1
     have h2:=of_decide_eq_true this.2
     omega
  by_cases k5:p.kind=5
  ·exact rdo9_hh h I hN hl o p hp hd hz hr (.inl k5)
  by_cases k6:p.kind=6
  ·exact rdo9_hh h I hN hl o p hp hd hz hr (.inr (.inl k6))
  by_cases k7:p.kind=7
  ·exact rdo9_hh h I hN hl o p hp hd hz hr (.inr (.inr (.inl k7)))
  by_cases k8:p.kind=8
  ·exact rdo9_hh h I hN hl o p hp hd hz hr (.inr (.inr (.inr (.inl k8))))
  by_cases k9:p.kind=9
  ·exact rdo9_hh h I hN hl o p hp hd hz hr (.inr (.inr (.inr (.inr k9))))
  by_cases k3:p.kind=3
  ·by_cases h8:8≤Hs.many hs o
   ·exact rdo9_ff h I hN hl o p hp hd hz hr (.inl k3) h8
   by_cases hc:(Hs.place t p.path).2.2=0
   ·by_cases he:(In.make t (Hs.place t p.path).1 (Hs.place t p.path).2.1 false).2.1=0
    ·exact rdo9_3 h I hN hl o p hp hd hz hr k3 h8 hc he
    ·exact rdo9_3e h I hN hl o p hp hd hz hr k3 h8 hc he
   ·exact rdo9_po h I hN hl o p hp hd hz hr (.inl k3) h8 hc
  by_cases k4:p.kind=4
  ·by_cases h8:8≤Hs.many hs o
   ·exact rdo9_ff h I hN hl o p hp hd hz hr (.inr k4) h8
   by_cases hc:(Hs.place t p.path).2.2=0
   ·by_cases he:In.findE t (Hs.place t p.path).1 (Hs.place t p.path).2.1=0
    ·exact rdo9_4 h I hN hl o p hp hd hz hr k4 h8 hc he
    ·exact rdo9_4e h I hN hl o p hp hd hz hr k4 h8 hc he
   ·exact rdo9_po h I hN hl o p hp hd hz hr (.inr k4) h8 hc
  by_cases k1:p.kind=1
  ·by_cases hc:(Hs.place t p.path).2.2=0
   ·exact rdo9_1 h I hN hl o p hp hd hz hr k1 hc
   ·exact rdo9_pn h I hN hl o p hp hd hz hr (.inl k1) hc
  by_cases k2:p.kind=2
  ·by_cases hc:(Hs.place t p.path).2.2=0
   ·exact rdo9_2 h I hN hl o p hp hd hz hr k2 hc
   ·exact rdo9_pn h I hN hl o p hp hd hz hr (.inr (.inl k2)) hc
  by_cases k11:p.kind=11
  ·by_cases hc:(Hs.place t p.path).2.2=0
   ·exact rdo9_11 h I hN hl o p hp hd hz hr k11 hc
   ·exact rdo9_pn h I hN hl o p hp hd hz hr (.inr (.inr (.inr (.inl k11)))) hc
  by_cases k10:p.kind=10
  ·by_cases hc:(Hs.place t p.path).2.2=0
   ·exact rdo9_10 h I hN hl o p hp hd hz hr k10 hc
   ·exact rdo9_pn h I hN hl o p hp hd hz hr (.inr (.inr (.inl k10))) hc
  have k12:p.kind=12:=by omega
  by_cases hc:(Hs.place t p.path).2.2=0
  ·by_cases he:(Hs.place t p.dest).2.2=0
   ·exact rdo9_12 h I hN hl o p hp hd hz hr k12 hc he
   ·exact rdo9_12e h I hN hl o p hp hd hz hr k12 hc he
  ·exact rdo9_pn h I hN hl o p hp hd hz hr (.inr (.inr (.inr (.inr k12)))) hc
end
end
section
namespace In
def upd(l:List NodeD)(a:Int):Option NodeD→List NodeD
 |some n=>set l n
 |none=>del l a
theorem del_set'(n:NodeD)(a:Int)(h:n.id=a): ∀ l:List NodeD,del (set l n) a=del l a
 |[]=>rfl
 |m::r=>by
  have ih:=del_set' n a h r
  unfold del set at ih ⊢
  rw[List.map_cons,List.filter_cons,List.filter_cons,ih]
  by_cases hm:m.id=n.id
  ·simp[hm,h]
  ·have:¬m.id=a:=fun e=>hm (e.trans h.symm)
   simp[hm,this]
theorem del_del(a b:Int)(l:List NodeD):del (del l a) b=del (del l b) a:=by
 unfold del
 rw[List.filter_filter,List.filter_filter]
 refine List.filter_congr fun m _=> ?_
 exact Bool.and_comm _ _
theorem set_del{n:NodeD}{a:Int}(h:n.id≠a): ∀ l:List NodeD,set (del l a) n=del (set l n) a
 |[]=>rfl
 |m::r=>by
  have ih:=set_del h r
  unfold del set at ih ⊢
  rw[List.map_cons,List.filter_cons,List.filter_cons]
  by_cases hm:m.id=a
  ·have h1:¬m.id=n.id:=fun e=>h (e.symm.trans hm)
   have q1:(m.id==a)=true:=beq_iff_eq.2 hm
   have q2:(m.id==n.id)=false:=qne.2 h1
   simp only[q1,q2,Bool.not_true,Bool.false_eq_true,if_false]
   exact ih
  ·have q1:(m.id==a)=false:=qne.2 hm
   by_cases h1:m.id=n.id
   ·have q2:(m.id==n.id)=true:=beq_iff_eq.2 h1
    have q3:(n.id==a)=false:=qne.2 h
    simp only[q1,q2,q3,Bool.not_false,if_true,List.map_cons]
    rw[ih]
   ·have q2:(m.id==n.id)=false:=qne.2 h1
    simp only[q1,q2,Bool.not_false,if_true,Bool.false_eq_true,if_false,List.map_cons]
    rw[ih]
theorem set_two{n k:NodeD}(h:n.id≠k.id)(l:List NodeD):set (set l n) k=set (set l k) n:=by
 unfold set
 rw[List.map_map,List.map_map]
 refine List.map_congr_left fun m _=> ?_
 simp only[Function.comp]
 have q1:(n.id==k.id)=false:=qne.2 h
 have q2:(k.id==n.id)=false:=qne.2 h.symm
 by_cases h1:m.id=n.id
 ·have q3:(m.id==n.id)=true:=beq_iff_eq.2 h1
  have q4:(m.id==k.id)=false:=by rw[h1];exact q1
  simp only[q3,q4,q1,if_true,Bool.false_eq_true,if_false]
 ·have q3:(m.id==n.id)=false:=qne.2 h1
  by_cases h2:m.id=k.id
  ·have q4:(m.id==k.id)=true:=beq_iff_eq.2 h2
   simp only[q3,q4,q2,if_true,Bool.false_eq_true,if_false]
  ·have q4:(m.id==k.id)=false:=qne.2 h2
   simp only[q3,q4,Bool.false_eq_true,if_false]
theorem upd_comm{a b:Int}(hab:a≠b)(r s:Option NodeD)(hr: ∀ n,r=some n→n.id=a)(hs: ∀ n,s=some n→n.id=b)(l:List NodeD):upd (upd l a r) b s=upd (upd l b s) a r:=by
 cases r with
 |none=>
  cases s with
  |none=>exact del_del a b l
  |some n=>exact set_del (by rw[hs n rfl];exact fun e=>hab e.symm) l
 |some n=>
  cases s with
  |none=>exact(set_del (by rw[hr n rfl];exact hab) l).symm
  |some k=>exact set_two (by rw[hr n rfl,hs k rfl];exact hab) l
theorem find_upd_ne{l:List NodeD}{a b:Int}(hab:b≠a){r:Option NodeD}(hr: ∀ n,r=some n→n.id=a):find (upd l a r) b=find l b:=by
 cases r with
 |none=>exact find_del_ne hab
 |some n=>
  have hn:=hr n rfl
  show find (set l n) b=find l b
  unfold find set
  induction l with
  |nil=>rfl
  |cons m t ih=>
   rw[List.map_cons,List.find?_cons,List.find?_cons,ih]
   by_cases hm:m.id=n.id
   ·have q1:(m.id==n.id)=true:=beq_iff_eq.2 hm
    have q2:(n.id==b)=false:=qne.2 (fun e=>hab (e.symm.trans hn))
    have q3:(m.id==b)=false:=by rw[hm];exact q2
    simp only[q1,if_true,q2,q3]
   ·have q1:(m.id==n.id)=false:=qne.2 hm
    simp only[q1,Bool.false_eq_true,if_false]
def letGo(n:NodeD):Option NodeD:=if n.links=0∧n.holds=1 then none else some (n.setHolds (n.holds - 1))
def costGo(n:NodeD):Int:=if n.links=0∧n.holds=1 then 64+n.data.size else 0
theorem letGo_id{n m:NodeD}(h:letGo n=some m):m.id=n.id:=by
 unfold letGo at h
 split at h
 ·cases h
 ·cases h
  rfl
theorem drop_upd{t:TabD}{id:Int}{n:NodeD}(hn:find t.nodes id=some n)(h0:n.holds≠0):(drop t id).2=⟨t.quota,t.used - costGo n,t.last,upd t.nodes id (letGo n)⟩:=by
 have hid:=(find_some hn).2
 have hE:dropE t id=0:=by unfold dropE;rw[hn];simp[h0]
 unfold drop
 rw[hE]
 show gone (holdsDown t id) id=_
 have hf:find (holdsDown t id).nodes id=some (n.setHolds (n.holds - 1)):=by rw[find_holdsDown hn,if_pos rfl]
 unfold gone
 rw[at_some hf]
 unfold costGo letGo
 by_cases h:n.links=0∧n.holds=1
 ·rw[if_pos h,if_pos h]
  have q:((n.setHolds (n.holds - 1)).links==0&&(n.setHolds (n.holds - 1)).holds==0)=true:=by
   show(n.links==0&&n.holds - 1==0)=true
   simp[h.1,h.2]
  rw[q,if_pos rfl]
  unfold holdsDown setN
  rw[at_some hn]
  show(⟨t.quota,t.used - (64+n.data.size),t.last,del (set t.nodes (n.setHolds (n.holds - 1))) id⟩:TabD)=_
  rw[del_set' (n.setHolds (n.holds - 1)) id hid]
  rfl
 ·rw[if_neg h,if_neg h]
  have q:((n.setHolds (n.holds - 1)).links==0&&(n.setHolds (n.holds - 1)).holds==0)=false:=by
   show(n.links==0&&n.holds - 1==0)=false
   rw[Bool.and_eq_false_iff]
   by_cases h1:n.links=0
   ·right
    rw[beq_eq_false_iff_ne]
    intro e
    exact h ⟨h1,by omega⟩
   ·left
    rw[beq_eq_false_iff_ne]
    exact h1
  rw[q,if_neg nofun]
  unfold holdsDown setN
  rw[at_some hn,Int.sub_zero]
  rfl
theorem drop_none{t:TabD}{id:Int}(hn: ∀ n,find t.nodes id=some n→n.holds=0):(drop t id).2=t:=by
 unfold drop
 have:dropE t id≠0:=by
  unfold dropE
  cases h:find t.nodes id with
  |none=>simp
  |some n=>simp[hn n h]
 rw[qne.2 this]
 rfl
theorem drop_comm(t:TabD)(a b:Int):(drop (drop t a).2 b).2=(drop (drop t b).2 a).2:=by
 by_cases hab:a=b
 ·rw[hab]
 ·by_cases ha: ∃ n,find t.nodes a=some n∧n.holds≠0
  ·obtain⟨n,hn,hn0⟩:=ha
   have hna: ∀ m,letGo n=some m→m.id=a:=fun m h=>(letGo_id h).trans (find_some hn).2
   by_cases hb: ∃ k,find t.nodes b=some k∧k.holds≠0
   ·obtain⟨k,hk,hk0⟩:=hb
    have hkb: ∀ m,letGo k=some m→m.id=b:=fun m h=>(letGo_id h).trans (find_some hk).2
    rw[drop_upd hn hn0,drop_upd hk hk0]
    rw[drop_upd (t:=⟨t.quota,t.used - costGo n,t.last,upd t.nodes a (letGo n)⟩) (n:=k) (by show find (upd t.nodes a (letGo n)) b=_;rw[find_upd_ne (fun e=>hab e.symm) hna];exact hk) hk0]
    rw[drop_upd (t:=⟨t.quota,t.used - costGo k,t.last,upd t.nodes b (letGo k)⟩) (n:=n) (by show find (upd t.nodes b (letGo k)) a=_;rw[find_upd_ne hab hkb];exact hn) hn0]
    simp only
    rw[upd_comm hab _ _ hna hkb]
    congr 1
    omega
   ·have hb': ∀ k,find t.nodes b=some k→k.holds=0:=fun k hk=>Classical.byContradiction fun h=>hb ⟨k,hk,h⟩
    rw[drop_none hb',drop_upd hn hn0]
    refine drop_none fun k hk=>hb' k ?_
    rw[←hk]
    exact(find_upd_ne (fun e=>hab e.symm) hna).symm
  ·have ha': ∀ k,find t.nodes a=some k→k.holds=0:=fun k hk=>Classical.byContradiction fun h=>ha ⟨k,hk,h⟩
   rw[drop_none ha']
   by_cases hb: ∃ k,find t.nodes b=some k∧k.holds≠0
   ·obtain⟨k,hk,hk0⟩:=hb
    have hkb: ∀ m,letGo k=some m→m.id=b:=fun m h=>(letGo_id h).trans (find_some hk).2
    rw[drop_upd hk hk0]
    refine(drop_none fun n hn=>ha' n ?_).symm
    rw[←hn]
    exact(find_upd_ne hab hkb).symm
   ·have hb': ∀ k,find t.nodes b=some k→k.holds=0:=fun k hk=>Classical.byContradiction fun h=>hb ⟨k,hk,h⟩
    rw[drop_none hb',drop_none ha']
theorem drops_perm{l r:List Int}(h:l.Perm r)(t:TabD):l.foldl (fun t id=>(drop t id).2) t=r.foldl (fun t id=>(drop t id).2) t:=
 h.foldl_eq' (fun x _ y _ z=>drop_comm z x y) t
end In
end
section
namespace Pt
theorem join_joined{q:List ByteArray}{s:ByteArray}(hq: ∀ x∈q,NameOk x)(hs:NameOk s):join (joined q) s=joined (q++[s]):=by
 cases q with
 |nil=>
  unfold join
  rw[if_pos (.inl rfl),List.nil_append,joined_one]
  exact ba_ext (by simp[joined_nil])
 |cons x r=>
  unfold join
  rw[if_neg (not_or.2 ⟨fun e=>joined_size (r:=r) (hq x (.head _)) (size_nil.2 e),hs.nil⟩)]
  refine ba_ext ?_
  rw[joined_snoc (by simp)]
  simp[slash]
end Pt
end
section
namespace In
def Up(t:TabD):Prop:= ∀ a m p n,find t.nodes a=some m→p∈m.names→find t.nodes p.2=some n→n.dir=true→a<p.2
def Come(k i:Int)(t t':TabD):Prop:= ∀ x m',find t'.nodes x=some m'→ ∃ m,find t.nodes x=some m∧m'.dir=m.dir∧ ∀ p∈m'.names,p∈m.names∨(x=k∧p.2=i)
def Less(t t':TabD):Prop:= ∀ x m',find t'.nodes x=some m'→ ∃ m,find t.nodes x=some m∧m'.dir=m.dir∧ ∀ p∈m'.names,p∈m.names
section
variable {N:Nat}{t t' t'':TabD}{k i:Int}
theorem Up.come(h:Up t)(hc:Come k i t t')(hi: ∀ n,find t.nodes i=some n→n.dir=true→k<i):Up t':=by
 intro a m p n ha hp hn hd
 obtain⟨m0,h1,-,h2⟩:=hc a m ha
 obtain⟨n0,h3,h4,-⟩:=hc p.2 n hn
 rcases h2 p hp with h5|⟨rfl,h5⟩
 ·exact h a m0 p n0 h1 h5 h3 (h4▸hd)
 ·rw[h5] at h3 ⊢
  exact hi n0 h3 (h4▸hd)
theorem Less.refl(t:TabD):Less t t:=fun _ m h=>⟨m,h,rfl,fun _ h=>h⟩
theorem Less.trans(h:Less t t')(h':Less t' t''):Less t t'':=fun x m hm=>by
 obtain⟨m1,a1,a2,a3⟩:=h' x m hm
 obtain⟨m2,b1,b2,b3⟩:=h x m1 a1
 exact⟨m2,b1,a2.trans b2,fun p hp=>b3 p (a3 p hp)⟩
theorem Less.come(h:Less t t'):Come k i t t':=fun x m hm=>by
 obtain⟨m1,a1,a2,a3⟩:=h x m hm
 exact⟨m1,a1,a2,fun p hp=> .inl (a3 p hp)⟩
theorem Come.less(h:Come k i t t')(h':Less t' t''):Come k i t t'':=fun x m hm=>by
 obtain⟨m1,a1,a2,a3⟩:=h' x m hm
 obtain⟨m2,b1,b2,b3⟩:=h x m1 a1
 exact⟨m2,b1,a2.trans b2,fun p hp=>b3 p (a3 p hp)⟩
theorem Less.then (h:Less t t')(h':Come k i t' t''):Come k i t t'':=fun x m hm=>by
 obtain⟨m1,a1,a2,a3⟩:=h' x m hm
 obtain⟨m2,b1,b2,b3⟩:=h x m1 a1
 exact⟨m2,b1,a2.trans b2,fun p hp=>(a3 p hp).imp (b3 p) fun h=>h⟩
theorem Up.less(h:Up t)(hl:Less t t'):Up t':=by
 intro a m p n ha hp hn hd
 obtain⟨m0,h1,-,h2⟩:=hl a m ha
 obtain⟨n0,h3,h4,-⟩:=hl p.2 n hn
 exact h a m0 p n0 h1 (h2 p hp) h3 (h4▸hd)
theorem at_id(t:TabD)(k:Int):(at_ t k).id=k:=by
 unfold at_
 split
 ·rename_i n h
  exact(find_some h).2
 ·rfl
theorem find_map_id(l:List NodeD)(n:NodeD)(x:Int):find (set l n) x=(find l x).map fun m=>if m.id==n.id then n else m:=by
 unfold find set
 rw[List.find?_map]
 congr 2
 funext m
 show((if m.id==n.id then n else m).id==x)=(m.id==x)
 split
 ·rename_i h
  have h':m.id=n.id:=by simpa using h
  rw[h']
 ·rfl
theorem come_setN{n:NodeD}(hn: ∀ m,find t.nodes n.id=some m→n.dir=m.dir∧ ∀ p∈n.names,p∈m.names∨(n.id=k∧p.2=i)):Come k i t (setN t n):=fun x m' h=>by
 have h':find (set t.nodes n) x=some m':=h
 rw[find_map_id] at h'
 cases hf:find t.nodes x with
 |none=>rw[hf] at h';cases h'
 |some m=>
  rw[hf] at h'
  have h2:(if m.id==n.id then n else m)=m':=by simpa using h'
  have hx:=(find_some hf).2
  cases he:m.id==n.id with
  |false=>
   rw[he] at h2
   subst h2
   exact⟨m,rfl,rfl,fun p hp=> .inl hp⟩
  |true=>
   rw[he] at h2
   subst h2
   have he':m.id=n.id:=by simpa using he
   have e2:x=n.id:=hx.symm.trans he'
   subst e2
   obtain⟨h3,h4⟩:=hn m hf
   exact⟨m,rfl,h3,h4⟩
theorem less_setN{n:NodeD}(hn: ∀ m,find t.nodes n.id=some m→n.dir=m.dir∧ ∀ p∈n.names,p∈m.names):Less t (setN t n):=fun x m' h=>by
 obtain⟨m,h1,h2,h3⟩:=come_setN (t:=t) (k:=x - 1) (i:=0) (n:=n) (fun m hm=>⟨(hn m hm).1,fun p hp=> .inl ((hn m hm).2 p hp)⟩) x m' h
 exact⟨m,h1,h2,fun p hp=>(h3 p hp).elim (fun h=>h) fun h=>by omega⟩
theorem at_less(f:NodeD→NodeD)(hi: ∀ m,(f m).id=m.id)(hd: ∀ m,(f m).dir=m.dir)(hp: ∀ m,∀ p∈(f m).names,p∈m.names)(k:Int):Less t (setN t (f (at_ t k))):=less_setN fun m hm=>by
 rw[hi,at_id] at hm
 rw[at_some hm]
 exact⟨hd m,hp m⟩
theorem less_nameOut(dir:Int)(s:ByteArray):Less t (nameOut t dir s):=at_less (fun m=>m.setNames (without m.names s)) (fun _=>rfl) (fun _=>rfl) (fun _ _ hp=>(mem_without.1 hp).1) dir
theorem less_linksUp(id:Int):Less t (linksUp t id):=at_less (fun m=>m.setLinks (m.links+1)) (fun _=>rfl) (fun _=>rfl) (fun _ _ hp=>hp) id
theorem less_linksDown(id:Int):Less t (linksDown t id):=at_less (fun m=>m.setLinks (m.links - 1)) (fun _=>rfl) (fun _=>rfl) (fun _ _ hp=>hp) id
theorem less_holdsUp(id:Int):Less t (holdsUp t id):=at_less (fun m=>m.setHolds (m.holds+1)) (fun _=>rfl) (fun _=>rfl) (fun _ _ hp=>hp) id
theorem less_holdsDown(id:Int):Less t (holdsDown t id):=at_less (fun m=>m.setHolds (m.holds - 1)) (fun _=>rfl) (fun _=>rfl) (fun _ _ hp=>hp) id
theorem less_dataOf(id:Int)(v:ByteArray):Less t (dataOf t id v):=at_less (fun m=>m.setData v) (fun _=>rfl) (fun _=>rfl) (fun _ _ hp=>hp) id
theorem come_nameIn(dir:Int)(s:ByteArray)(id:Int):Come dir id t (nameIn t dir s id):=come_setN (n:=(at_ t dir).setNames (with_ (at_ t dir).names s id)) fun m hm=>by
 have hm':find t.nodes (at_ t dir).id=some m:=hm
 rw[at_id] at hm'
 rw[at_some hm']
 refine⟨rfl,fun p hp=> ?_⟩
 rcases mem_put.1 hp with rfl|hp
 ·exact .inr ⟨(find_some hm').2,rfl⟩
 ·exact .inl (mem_without.1 hp).1
theorem less_gone(id:Int):Less t (gone t id):=fun x m h=>by
 unfold gone at h
 split at h
 ·have h':find (del t.nodes id) x=some m:=h
  unfold find del at h'
  rw[List.find?_filter] at h'
  refine⟨m, ?_,rfl,fun _ hp=>hp⟩
  have h1:=List.find?_some h'
  have h2:m.id=x:=by
   have:=h1
   simp only[Bool.not_eq_true',beq_eq_false_iff_ne,beq_iff_eq,decide_eq_true_eq] at this
   exact this.2
  have h3:x≠id:=by
   have:=h1
   simp only[Bool.not_eq_true',beq_eq_false_iff_ne,beq_iff_eq,decide_eq_true_eq] at this
   rw[←h2];exact this.1
  have e:(fun a:NodeD=>decide ((!a.id==id)=true∧(a.id==x)=true))=fun a=>a.id==x:=by
   funext a
   cases hx:a.id==x with
   |false=>simp
   |true=>
    have:a.id=x:=by simpa using hx
    rw[this]
    simp[h3]
  rw[e] at h'
  exact h'
 ·exact⟨m,h,rfl,fun _ hp=>hp⟩
theorem less_loses(dir:Int)(s:ByteArray):Less t (loses t dir s):=((less_nameOut dir s).trans (less_linksDown _)).trans (less_gone _)
theorem less_unlink(dir:Int)(s:ByteArray):Less t (unlink t dir s).2:=by
 unfold unlink
 split
 ·exact less_loses dir s
 ·exact Less.refl t
theorem less_remove(dir:Int)(s:ByteArray):Less t (remove t dir s).2:=by
 unfold remove
 split
 ·exact less_loses dir s
 ·exact Less.refl t
theorem less_sizedT(id n:Int):Less t (sizedT t id n):=less_dataOf id (resized (at_ t id).data n.toNat)
theorem less_write(id a:Int)(s:ByteArray):Less t (write t id a s).2:=by
 unfold write
 split
 ·show Less t (writeT t id a s)
  unfold writeT
  split
  ·exact Less.refl t
  ·exact(less_sizedT id _).trans (less_dataOf id _)
 ·exact Less.refl t
theorem less_trunc(id n:Int):Less t (trunc t id n).2:=by
 unfold trunc
 split
 ·exact less_sizedT id n
 ·exact Less.refl t
theorem less_hold(id:Int):Less t (hold t id).2:=by
 unfold hold
 split
 ·exact less_holdsUp id
 ·exact Less.refl t
theorem less_drop(id:Int):Less t (drop t id).2:=by
 unfold drop
 split
 ·exact(less_holdsDown id).trans (less_gone id)
 ·exact Less.refl t
theorem up_link(h:Up t)(id dir:Int)(s:ByteArray):Up (link t id dir s).2:=by
 unfold link
 cases he:linkE t id dir s==0 with
 |false=>exact h
 |true=>
  have he':linkE t id dir s=0:=by simpa using he
  unfold linkE at he'
  cases h1:getE t id false==0 with
  |true=>
   obtain⟨n,hn,hnd⟩:=getE_ok (t:=t) (id:=id) (dir:=false) (by simpa using h1)
   exact h.come (Come.less (come_nameIn dir s id) (less_linksUp id)) fun m hm hd=>by rw[hn] at hm;cases hm;rw[hnd] at hd;cases hd
  |false=>rw[h1] at he';simp at he' h1;exact absurd he' h1
theorem up_rename(h:Up t)(dir:Int)(s:ByteArray)(tod:Int)(as_:ByteArray):Up (rename t dir s tod as_).2:=by
 unfold rename
 cases he:renameE t dir s tod as_==0 with
 |false=>exact h
 |true=>
  obtain⟨h1,h2,h3⟩:=renameE_ok (t:=t) (dir:=dir) (s:=s) (tod:=tod) (as_:=as_) (by simpa using he)
  obtain⟨_,d,n,hd,hdd,hl,hN,hn,hnd⟩:=unlinkE_ok h1
  have key: ∀ t1,Less t t1→Up (renameIn t1 dir s tod as_ (findN t dir s)):=fun t1 hl1=>by
   refine h.come ((hl1.trans (less_nameOut dir s)).then (come_nameIn tod as_ (findN t dir s))) fun m hm hmd=> ?_
   rw[hN,hn] at hm
   cases hm
   rw[hnd] at hmd
   cases hmd
  show Up (renameT t dir s tod as_)
  unfold renameT
  split
  ·exact h
  split
  ·exact key t (Less.refl t)
  ·exact key _ (less_loses tod as_)
theorem up_make(I:Inv N t)(h:Up t)(dir:Int)(s:ByteArray)(isDir:Bool):Up (make t dir s isDir).2.2:=by
 unfold make
 cases he:makeE t dir s==0 with
 |false=>exact h
 |true=>
  show Up (makeT t dir s isDir)
  have hc:=come_nameIn (t:=t) dir s (t.last+1)
  have hne: ∀ m∈(nameIn t dir s (t.last+1)).nodes,m.id≠(⟨t.last+1,isDir,1,0,ByteArray.empty,[]⟩:NodeD).id:=fun m hm=>by
   have hm':m∈set t.nodes ((at_ t dir).setNames (with_ (at_ t dir).names s (t.last+1))):=hm
   unfold set at hm'
   obtain⟨y,hy,e⟩:=List.mem_map.1 hm'
   have hp:=(I.pos y hy).2
   have:m.id=y.id:=by
    rw[←e]
    split
    ·rename_i hh
     exact(by simpa using hh:y.id=_).symm
    ·rfl
   show m.id≠t.last+1
   omega
  have hfs:=find_snoc hne
  have hle: ∀ x m,find (nameIn t dir s (t.last+1)).nodes x=some m→x≤t.last:=fun x m hx=>by
   obtain⟨m0,g1,-,-⟩:=hc x m hx
   obtain⟨g2,g3⟩:=find_some g1
   have:=(I.pos m0 g2).2
   omega
  intro a m p n ha hp hn hd
  have ha':find ((nameIn t dir s (t.last+1)).nodes++[⟨t.last+1,isDir,1,0,ByteArray.empty,[]⟩]) a=some m:=ha
  have hn':find ((nameIn t dir s (t.last+1)).nodes++[⟨t.last+1,isDir,1,0,ByteArray.empty,[]⟩]) p.2=some n:=hn
  rw[hfs] at ha' hn'
  split at ha'
  ·cases ha'
   cases hp
  ·have hal:=hle a m ha'
   split at hn'
   ·rename_i e
    rw[e]
    show a<t.last+1
    omega
   ·rename_i hpn
    obtain⟨m0,g1,-,g2⟩:=hc a m ha'
    obtain⟨n0,g3,g4,-⟩:=hc p.2 n hn'
    rcases g2 p hp with g5|⟨-,g5⟩
    ·exact h a m0 p n0 g1 g5 g3 (g4▸hd)
    ·exact absurd g5 hpn
theorem up_new(q:Int):Up (new q):=fun a m p n ha hp _ _=>by
 have:=(find_some ha).1
 have e:m=⟨1,true,1,0,ByteArray.empty,[]⟩:=by simpa[new] using this
 subst e
 cases hp
end
/-! ### what lies below a directory -/
def dirsIn(t:TabD)(id:Int):List Int:=((at_ t id).names.map Prod.snd).filter fun i=>(at_ t i).dir
inductive Reach (t:TabD):Int→Int→Prop where
 |refl (a:Int):Reach t a a
 |step {a b c:Int} (h:Reach t a b) (hc:c∈dirsIn t b):Reach t a c
section
variable {N:Nat}{t:TabD}
theorem mem_dirsIn{id c:Int}:c∈dirsIn t id↔ ∃ p∈(at_ t id).names,p.2=c∧(at_ t c).dir=true:=by
 unfold dirsIn
 rw[List.mem_filter,List.mem_map]
 constructor
 ·rintro⟨⟨p,hp,rfl⟩,hd⟩
  exact⟨p,hp,rfl,hd⟩
 ·rintro⟨p,hp,rfl,hd⟩
  exact⟨⟨p,hp,rfl⟩,hd⟩
theorem names_found{id:Int}{p:ByteArray×Int}(hp:p∈(at_ t id).names):find t.nodes id=some (at_ t id):=by
 unfold at_ at hp ⊢
 cases hf:find t.nodes id with
 |none=>rw[hf] at hp;cases hp
 |some n=>rfl
theorem dir_up(h:Up t){a c:Int}(hc:c∈dirsIn t a):a<c:=by
 obtain⟨p,hp,rfl,hd⟩:=mem_dirsIn.1 hc
 refine h a _ p _ (names_found hp) hp ?_ hd
 unfold at_ at hd ⊢
 cases hf:find t.nodes p.2 with
 |none=>rw[hf] at hd;cases hd
 |some n=>rfl
theorem Reach.le(h:Up t){a b:Int}(r:Reach t a b):a≤b:=by
 induction r with
 |refl=>exact Int.le_refl _
 |step _ hc ih=>have:=dir_up h hc;omega
theorem Reach.trans{a b c:Int}(h:Reach t a b)(r:Reach t b c):Reach t a c:=by
 induction r with
 |refl=>exact h
 |step _ hc ih=>exact ih.step hc
theorem cntN_one{d:List (ByteArray×Int)}{i:Int}:cntN d i=((d.map Prod.snd).count i):=by
 unfold cntN List.count
 rw[List.countP_map]
 rfl
theorem cnt_dir(I:Inv N t){c:Int}{n:NodeD}(hn:find t.nodes c=some n)(hd:n.dir=true):cnt t.nodes c≤1:=by
 obtain⟨nm,ni⟩:=find_some hn
 have h1:=I.links n nm
 have h2:=(I.alive n nm (by have:=(I.pos n nm).1;omega)).2 hd
 rw[ni] at h1
 have h3:0≤rootI c:=by unfold rootI;split<;> decide
 omega
theorem dir_found{c:Int}(hd:(at_ t c).dir=true):find t.nodes c=some (at_ t c):=by
 unfold at_ at hd ⊢
 cases hf:find t.nodes c with
 |none=>rw[hf] at hd;cases hd
 |some n=>rfl
theorem sum_two{f:NodeD→Nat}: ∀ {l:List NodeD},asc l→ ∀ {a b:NodeD},a∈l→b∈l→a.id≠b.id→f a+f b≤(l.map f).sum
 |[],_,_,_,h,_,_=>by cases h
 |y::r,hs,a,b,ha,hb,hne=>by
  obtain⟨h1,h2⟩:=List.pairwise_cons.1 hs
  rw[List.map_cons,List.sum_cons]
  rcases List.mem_cons.1 ha with rfl|ha'
  ·rcases List.mem_cons.1 hb with rfl|hb'
   ·exact absurd rfl hne
   ·have:=le_sum (f:=f) hb';omega
  ·rcases List.mem_cons.1 hb with rfl|hb'
   ·have:=le_sum (f:=f) ha';omega
   ·have:=sum_two (f:=f) h2 ha' hb' hne;omega
theorem dirs_nodup(I:Inv N t)(a:Int):(dirsIn t a).Nodup:=by
 rw[List.nodup_iff_count]
 intro c
 cases hd:(at_ t c).dir with
 |false=>
  rw[List.count_eq_zero.2]
  ·exact Nat.zero_le _
  ·intro hc
   obtain⟨-,-,-,h⟩:=mem_dirsIn.1 hc
   rw[hd] at h
   cases h
 |true=>
  have h1:(dirsIn t a).count c≤((at_ t a).names.map Prod.snd).count c:=(List.filter_sublist).count_le c
  refine Nat.le_trans h1 ?_
  rw[←cntN_one]
  by_cases hn:(at_ t a).names=[]
  ·rw[hn];exact Nat.zero_le _
  ·obtain⟨p,hp⟩:=List.exists_mem_of_ne_nil _ hn
   have hf:=names_found hp
   refine Nat.le_trans ?_ (cnt_dir I (dir_found hd) hd)
   exact le_sum (f:=fun n=>cntN n.names c) (find_some hf).1
theorem one_parent(I:Inv N t){a b c:Int}(ha:c∈dirsIn t a)(hb:c∈dirsIn t b):a=b:=by
 obtain⟨p,hp,e1,hd⟩:=mem_dirsIn.1 ha
 obtain⟨q,hq,e2,-⟩:=mem_dirsIn.1 hb
 have fa:=names_found hp
 have fb:=names_found hq
 by_cases hne:a=b
 ·exact hne
 ·have h1:=sum_two (f:=fun n=>cntN n.names c) I.asc (find_some fa).1 (find_some fb).1 (by rw[at_id,at_id];exact hne)
  have h2:=cnt_dir I (dir_found hd) hd
  have k1:0<cntN (at_ t a).names c:=List.countP_pos_iff.2 ⟨p,hp,by simpa using e1⟩
  have k2:0<cntN (at_ t b).names c:=List.countP_pos_iff.2 ⟨q,hq,by simpa using e2⟩
  have h3:cntN (at_ t a).names c+cntN (at_ t b).names c≤cnt t.nodes c:=h1
  omega
theorem reach_two(I:Inv N t){a b x:Int}(ha:Reach t a x)(hb:Reach t b x):Reach t a b∨Reach t b a:=by
 induction ha with
 |refl=>exact .inr hb
 | @step y x h hc ih=>
  cases hb with
  |refl=>exact .inl (h.step hc)
  | @step y' _ h' hc'=>
   have:=one_parent I hc hc'
   subst this
   exact ih h'
theorem reach_last{a b:Int}(h:Reach t a b)(hne:a≠b): ∃ y,Reach t a y∧b∈dirsIn t y:=by
 cases h with
 |refl=>exact absurd rfl hne
 |step h hc=>exact⟨_,h,hc⟩
theorem reach_apart(I:Inv N t)(h:Up t){a c d x:Int}(hc:c∈dirsIn t a)(hd:d∈dirsIn t a)(hne:c≠d)(h1:Reach t c x)(h2:Reach t d x):False:=by
 have key: ∀ c d,c∈dirsIn t a→d∈dirsIn t a→c≠d→¬Reach t c d:=fun c d hc hd hne hr=>by
  obtain⟨y,hy,hyd⟩:=reach_last hr hne
  have:=one_parent I hyd hd
  subst this
  have k1:=hy.le h
  have k2:=dir_up h hc
  omega
 rcases reach_two I h1 h2 with hr|hr
 ·exact key c d hc hd hne hr
 ·exact key d c hd hc (Ne.symm hne) hr
def below(t:TabD):Nat→Int→List Int
 |0,id=>[id]
 |k+1,id=>id::(dirsIn t id).flatMap (below t k)
theorem below_reach: ∀ (k:Nat) (id x:Int),x∈below t k id→Reach t id x
 |0,id,x,h=>by
  have:x=id:=by simpa[below] using h
  subst this
  exact .refl _
 |k+1,id,x,h=>by
  unfold below at h
  rcases List.mem_cons.1 h with rfl|h
  ·exact .refl _
  ·obtain⟨c,hc,hx⟩:=List.mem_flatMap.1 h
   exact((Reach.refl id).step hc).trans (below_reach k c x hx)
theorem below_nodup(I:Inv N t)(h:Up t): ∀ (k:Nat) (id:Int),(below t k id).Nodup
 |0,_=>by simp[below]
 |k+1,id=>by
  unfold below
  rw[List.nodup_cons]
  constructor
  ·intro hm
   obtain⟨c,hc,hx⟩:=List.mem_flatMap.1 hm
   have h1:=(below_reach k c id hx).le h
   have h2:=dir_up h hc
   omega
  ·unfold List.Nodup
   rw[List.pairwise_flatMap]
   refine⟨fun c _=>below_nodup I h k c, ?_⟩
   have hn:=dirs_nodup I id
   have hm: ∀ c∈dirsIn t id,c∈dirsIn t id:=fun _ h=>h
   refine List.Pairwise.imp_of_mem (R:=fun a b=>a≠b) (fun {c d} hc hd hne x hx y hy e=> ?_) hn
   subst e
   exact reach_apart I h hc hd hne (below_reach k c x hx) (below_reach k d x hy)
theorem sum_sub{g:Int→Nat}: ∀ {V ids:List Int},V.Nodup→(∀ x∈V,g x≠0→x∈ids)→(V.map g).sum≤(ids.map g).sum
 |[],_,_,_=>Nat.zero_le _
 |x::V,ids,hn,hs=>by
  obtain⟨h1,h2⟩:=List.nodup_cons.1 hn
  rw[List.map_cons,List.sum_cons]
  by_cases hg:g x=0
  ·rw[hg]
   have:=sum_sub (g:=g) h2 fun y hy=>hs y (.tail _ hy)
   omega
  ·have hx:=hs x (.head _) hg
   have hp:=(List.perm_cons_erase hx).map g
   have:=sum_sub (g:=g) (ids:=ids.erase x) h2 fun y hy hy0=>(List.mem_erase_of_ne (fun e:y=x=>h1 (by rw[←e];exact hy))).2 (hs y (.tail _ hy) hy0)
   rw[hp.sum_nat]
   rw[List.map_cons,List.sum_cons]
   omega
theorem below_names(I:Inv N t)(h:Up t)(k:Nat)(id:Int):((below t k id).map fun i=>(at_ t i).names.length).sum≤tot t.nodes:=by
 refine Nat.le_trans (sum_sub (ids:=t.nodes.map (·.id)) (below_nodup I h k id) fun x _ hx=> ?_) ?_
 ·cases hq:(at_ t x).names with
  |nil=>rw[hq] at hx;exact absurd rfl hx
  |cons p r=>
   have hf:=names_found (t:=t) (id:=x) (p:=p) (by rw[hq];exact .head _)
   exact List.mem_map.2 ⟨_,(find_some hf).1,at_id t x⟩
 ·unfold tot
  rw[List.map_map]
  refine Nat.le_of_eq (congrArg List.sum (List.map_congr_left fun n hn=> ?_))
  show(at_ t n.id).names.length=n.names.length
  rw[at_some (find_asc I.asc hn)]
end
end In
end
section
theorem perm_by{α:Type}{l l':List α}(h: ∀ [DecidableEq α] (x:α),l.count x=l'.count x):l.Perm l':=by
 classical exact List.perm_iff_count.2 fun x=>h x
structure FileD where
 path:ByteArray
 dir:Bool
 data:ByteArray
def FileD.cells(f:FileD):List Value:=[.string f.path,.bool f.dir,.string f.data]
namespace Fs
theorem inv_tblN{N:Nat}{d:FsD}{t:TabD}(h:Inv N d)(ht:In.Inv N t):Inv N ⟨t,d.h⟩:=inv_tbl h ht (Nat.le_refl N)
section
variable {N:Nat}{d:FsD}
theorem up_gives(h:In.Up d.t)(o id:Int):In.Up (gives d o id).2.t:=by
 unfold gives
 split<;> exact h.less (In.less_hold id)
theorem up_closes(h:In.Up d.t)(o:Int)(n:Nat):In.Up (closes d o n).t:=h.less (In.less_drop _)
theorem up_opens(I:Inv N d)(h:In.Up d.t)(o:Int)(p:OpD):In.Up (opens d o p).2.t:=by
 unfold opens
 split
 ·exact h
 split
 ·exact h
 split
 ·have hm:=In.up_make I.tbl h (at_ d p.path).1.1 (at_ d p.path).1.2 false
  split
  ·exact hm
  ·exact up_gives (d:=⟨(In.make d.t (at_ d p.path).1.1 (at_ d p.path).1.2 false).2.2,d.h⟩) hm o _
 split
 ·exact h
 ·exact up_gives h o _
theorem up_handled(h:In.Up d.t)(o:Int)(p:OpD):In.Up (handled d o p).2.t:=by
 unfold handled
 split
 ·exact h
 split
 ·exact up_closes h o _
 split
 ·exact h
 split
 ·exact h.less (In.less_write _ _ _)
 split
 ·exact h.less (In.less_trunc _ _)
 ·exact h
theorem up_named(I:Inv N d)(h:In.Up d.t)(p:OpD):In.Up (named d p).2:=by
 unfold named namedAt
 split
 ·exact h
 split
 ·exact In.up_make I.tbl h _ _ true
 split
 ·exact h.less (In.less_remove _ _)
 split
 ·exact h.less (In.less_unlink _ _)
 split
 ·split
  ·exact h
  split
  ·exact h
  ·exact In.up_link h _ _ _
 split
 ·exact h
 ·exact In.up_rename h _ _ _ _
theorem up_do(I:Inv N d)(h:In.Up d.t)(o:Int)(p:OpD):In.Up (do_ d o p).2.t:=by
 unfold do_
 split
 ·exact h
 split
 ·exact up_opens I h o p
 split
 ·exact up_handled h o p
 split
 ·exact h
 ·exact up_named I h p
theorem up_exitL(o:Int): ∀ (l:List Int) (n:Nat) (d:FsD),In.Up d.t→In.Up (exitL o l n d).t
 |[],_,_,h=>h
 |i::r,n,d,h=>by
  unfold exitL
  refine up_exitL o r (n+1) _ ?_
  split
  ·exact up_closes h o n
  ·exact h
theorem up_exit(h:In.Up d.t)(o:Int):In.Up (exit d o).t:=up_exitL o _ 0 d h
theorem len_del{h:List (Int×List Int)}{o:Int}:(del h o).length+(if(h.find? fun p=>p.1==o).isSome then 1 else 0)≤h.length:=by
 induction h with
 |nil=>simp[del]
 |cons y r ih=>
  unfold del at ih ⊢
  rw[List.filter_cons,List.find?_cons]
  cases hy:y.1==o with
  |true=>
   have:=List.length_filter_le (fun p:Int×List Int=> !(p.1==o)) r
   simp only[Bool.not_true,Bool.false_eq_true,if_false,Option.isSome_some,if_true,List.length_cons]
   omega
  |false=>
   simp only[Bool.not_false,if_true,List.length_cons]
   omega
theorem inv_closes0(I:Inv N d){o:Int}{n:Nat}(hn:(hOf d.h o).getD n 0≠0):Inv N (closes d o n):=by
 have hr:=rows_put I.rows (o:=o) (set_row (hOf_row I o) n (v:=0) (by omega))
 have hN:=I.len
 have hs:(d.h.find? fun p=>p.1==o).isSome=true:=by
  unfold hOf at hn
  cases hf:d.h.find? fun p=>p.1==o with
  |some p=>rfl
  |none=>
   rw[hf] at hn
   refine absurd ?_ hn
   show z9.getD n 0=0
   unfold z9
   match n with
   |0|1|2|3|4|5|6|7|8=>rfl
   |n+9=>rfl
 have hl:(put d.h o ((hOf d.h o).set n 0)).length≤N:=by
  unfold put
  rw[len_ins]
  have:=len_del (h:=d.h) (o:=o)
  rw[hs] at this
  simp only[if_true] at this
  omega
 refine⟨In.inv_drop I.tbl _, ?_, ?_⟩
 ·unfold closes shut
  simp only
  split
  ·exact rows_del hr o
  ·exact hr
 ·unfold closes shut
  simp only
  split
  ·exact Nat.le_trans (List.length_filter_le _ _) hl
  ·exact hl
theorem hOf_ins{h:List (Int×List Int)}{o:Int}{l:List Int}(hn:(h.find? fun p=>p.1==o)=none)(o':Int):hOf (ins (o,l) h) o'=if o'=o then l else hOf h o':=by
 induction h with
 |nil=>
  unfold ins hOf
  rw[List.find?_cons]
  by_cases e:o'=o
  ·subst e;simp
  ·have:(o==o')=false:=qne.2 fun h=>e h.symm
   simp[this,e]
 |cons y r ih=>
  rw[List.find?_cons] at hn
  cases hy:y.1==o with
  |true=>rw[hy] at hn;cases hn
  |false=>
   rw[hy] at hn
   have hyo:y.1≠o:=by simpa using hy
   have ih':=ih hn
   unfold ins
   split
   ·unfold hOf
    rw[List.find?_cons]
    by_cases e:o'=o
    ·subst e;simp
    ·have:(o==o')=false:=qne.2 fun h=>e h.symm
     simp[this,e]
   ·unfold hOf at ih' ⊢
    rw[List.find?_cons,List.find?_cons]
    cases hy':y.1==o' with
    |true=>
     have e:y.1=o':=by simpa using hy'
     rw[if_neg (fun h=>hyo (e.trans h))]
    |false=>exact ih'
theorem find_del(h:List (Int×List Int))(o o':Int):((del h o).find? fun p=>p.1==o')=if o'=o then none else h.find? fun p=>p.1==o':=by
 unfold del
 rw[List.find?_filter]
 split
 ·rename_i e
  subst e
  rw[List.find?_eq_none]
  intro p _
  simp
 ·rename_i e
  congr 1
  funext p
  cases hp:p.1==o' with
  |false=>simp
  |true=>
   have:p.1=o':=by simpa using hp
   simp[this,e]
theorem hOf_put(h:List (Int×List Int))(o:Int)(l:List Int)(o':Int):hOf (put h o l) o'=if o'=o then l else hOf h o':=by
 unfold put
 rw[hOf_ins (by rw[find_del,if_pos rfl])]
 split
 ·rfl
 ·rename_i e
  unfold hOf
  rw[find_del,if_neg e]
theorem hOf_del(h:List (Int×List Int))(o o':Int):hOf (del h o) o'=if o'=o then z9 else hOf h o':=by
 unfold hOf
 rw[find_del]
 by_cases e:o'=o
 ·rw[if_pos e,if_pos e]
 ·rw[if_neg e,if_neg e]
theorem hOf_shut(h:List (Int×List Int))(o:Int)(l:List Int)(o':Int):hOf (shut h o l) o'=if o'=o then l else hOf h o':=by
 unfold shut
 split
 ·rename_i e
  rw[hOf_del,hOf_put]
  split
  ·exact e.symm
  ·rfl
 ·exact hOf_put h o l o'
theorem inv_exitL(o:Int): ∀ (l:List Int) (n:Nat) (d:FsD),Inv N d→(∀ j,l[j]? =(hOf d.h o)[n+j]?)→Inv N (exitL o l n d)
 |[],_,_,I,_=>I
 |i::r,n,d,I,hl=>by
  unfold exitL
  have h0:=hl 0
  rw[List.getElem?_cons_zero,Nat.add_zero] at h0
  split
  ·rename_i hi
   refine inv_exitL o r (n+1) _ (inv_closes0 I (n:=n) (by rw[List.getD_eq_getElem?_getD,←h0];exact hi)) fun j=> ?_
   have hj:=hl (j+1)
   rw[List.getElem?_cons_succ] at hj
   unfold closes
   simp only
   rw[hOf_shut,if_pos rfl,List.getElem?_set_ne (by omega),hj]
   congr 1
   omega
  ·refine inv_exitL o r (n+1) _ I fun j=> ?_
   have hj:=hl (j+1)
   rw[List.getElem?_cons_succ] at hj
   rw[hj]
   congr 1
   omega
theorem inv_exit(I:Inv N d)(o:Int):Inv N (exit d o):=inv_exitL o _ 0 d I fun j=>by rw[Nat.zero_add]
/-! ### all files -/
def under(t:TabD):Nat→Int→ByteArray→List FileD
 |0,_,_=>[]
 |k+1,id,dir=>(In.at_ t id).names.flatMap fun p=>⟨Pt.join dir p.1,(In.at_ t p.2).dir,(In.at_ t p.2).data⟩::under t k p.2 (Pt.join dir p.1)
def files(d:FsD):List FileD:=under d.t d.t.last.toNat 1 ⟨#[]⟩
theorem under_none{t:TabD}{id:Int}(h:(In.at_ t id).names=[])(k:Nat)(dir:ByteArray):under t k id dir=[]:=by
 cases k with
 |zero=>rfl
 |succ k=>unfold under;rw[h];rfl
theorem leaf_names{t:TabD}(I:In.Inv N t){id:Int}(h:(In.at_ t id).dir=false):(In.at_ t id).names=[]:=by
 cases hq:(In.at_ t id).names with
 |nil=>rfl
 |cons p r=>
  have hf:=In.names_found (t:=t) (id:=id) (p:=p) (by rw[hq];exact .head _)
  rw[I.files _ (In.find_some hf).1 h] at hq
  cases hq
theorem sum_dirs{t:TabD}{f:ByteArray×Int→Nat}{g:Int→Nat}(hf: ∀ p,f p≤if(In.at_ t p.2).dir then g p.2 else 0): ∀ l:List (ByteArray×Int),(l.map fun p=>1+f p).sum≤l.length+(((l.map Prod.snd).filter fun i=>(In.at_ t i).dir).map g).sum
 |[]=>by simp
 |p::r=>by
  have ih:=sum_dirs hf r
  have hp:=hf p
  rw[List.map_cons,List.sum_cons,List.map_cons,List.filter_cons,List.length_cons]
  cases hd:(In.at_ t p.2).dir with
  |true=>
   rw[hd] at hp
   simp only[if_true] at hp ⊢
   rw[List.map_cons,List.sum_cons]
   omega
  |false=>
   rw[hd] at hp
   simp only[Bool.false_eq_true,if_false] at hp ⊢
   omega
theorem sum_one{α:Type}: ∀ l:List α,(l.map fun _=>1).sum=l.length
 |[]=>rfl
 |_::r=>by rw[List.map_cons,List.sum_cons,sum_one r,List.length_cons];omega
theorem sum_flat{α:Type}(f:α→List Nat): ∀ l:List α,(l.flatMap f).sum=(l.map fun a=>(f a).sum).sum
 |[]=>rfl
 |a::r=>by rw[List.flatMap_cons,List.sum_append,sum_flat f r,List.map_cons,List.sum_cons]
theorem under_len{t:TabD}(I:In.Inv N t): ∀ (k:Nat) (id:Int) (dir:ByteArray),(under t (k+1) id dir).length≤((In.below t k id).map fun i=>(In.at_ t i).names.length).sum
 |0,id,dir=>by
  unfold under
  rw[List.length_flatMap]
  refine Nat.le_trans (Nat.le_of_eq ?_) (Nat.le_of_eq (show(In.at_ t id).names.length=_ by simp[In.below]))
  exact sum_one _
 |k+1,id,dir=>by
  unfold under
  rw[List.length_flatMap]
  simp only[List.length_cons]
  unfold In.below
  rw[List.map_cons,List.sum_cons,List.map_flatMap]
  have key:=sum_dirs (t:=t) (f:=fun p=>(under t (k+1) p.2 (Pt.join dir p.1)).length) (g:=fun c=>((In.below t k c).map fun i=>(In.at_ t i).names.length).sum) (fun p=>by
   split
   ·exact under_len I k p.2 _
   ·rename_i hd
    rw[under_none (leaf_names I (by simpa using hd))]
    exact Nat.zero_le _) (In.at_ t id).names
  have e1:((In.at_ t id).names.map fun p=>(under t (k+1) p.2 (Pt.join dir p.1)).length+1)=(In.at_ t id).names.map fun p=>1+(under t (k+1) p.2 (Pt.join dir p.1)).length:=List.map_congr_left fun p _=>Nat.add_comm _ _
  rw[e1]
  refine Nat.le_trans key (Nat.le_of_eq ?_)
  congr 1
  unfold In.dirsIn
  rw[sum_flat]
theorem files_len(I:Inv N d)(h:In.Up d.t):(files d).length≤N:=by
 unfold files
 have h1:=I.tbl.last
 obtain⟨k,hk⟩: ∃ k,d.t.last.toNat=k+1:=⟨d.t.last.toNat - 1,by omega⟩
 rw[hk]
 exact Nat.le_trans (under_len I.tbl k 1 _) (Nat.le_trans (In.below_names I.tbl h k 1) I.tbl.tot)
end
end Fs
end
section
open Go.RowKit Go.Maps Go.WideElems Go.ChangeShapes Go.WideShapes Go.ChangeMaps Go.MapKept
abbrev mapX(es:Array MapEntry)(clock:Nat):Res:= .obj fun o=>o= .map es clock
abbrev itX(b since:Nat)(seen:Array Nat)(c0:Nat):Res:= .obj fun o=>o= .mapIter (some b) since seen c0
structure Rng (P:Program) (k:TypeId) (l:List (Lit×Value)) (es:Array MapEntry) (clock since:Nat) (seen:Array Nat) (c0:Nat) (left:Lit→Bool) (cnt:Nat):Prop where
 fit:Go.WideElems.Fit P k anyElem es clock
 size:es.size≤l.length
 eq:heldD l= .map ((es.toList.map (rg P k anyElem)).foldr DataW.insert [])
 old: ∀ x∈es.toList,x.born<since
 cnt:(leftOf es seen).size=cnt
 left1: ∀ x∈es.toList,left (rg P k anyElem x).1= !seen.contains x.born
 left2: ∀ kl,left kl=true→ ∃ x∈es.toList,(rg P k anyElem x).1=kl
 s0:since≤c0
 s1:since≤clock
section
variable {P:Program}{K:Act→World→Prop}{a:Act}{w w0:World}{ops:Array Oper}{l:List (Oper×Nat)}{c:Nat}{o:Oper}{F:List Nat}{L L' Lr:List Ent}{b r:Nat}{ty kt et:TypeId}{x y:Operand}{ow:Bool}{S:World→Prop}{m:List (Lit×Value)}{es:Array MapEntry}{clock since c0 cnt:Nat}{seen:Array Nat}{left:Lit→Bool}
theorem Rng.to(h:Rng P kt m es clock since seen c0 left cnt)(hb:(mapX es clock).holds w.heap[b]?)(hr:(itX b since seen c0).holds w.heap[r]?):w.ranges P kt anyElem b r m.length (heldD m) left cnt:=by
 obtain⟨o,ho,rfl⟩:=hb
 obtain⟨q,hq,rfl⟩:=hr
 exact⟨es,clock,since,seen,c0,ho,h.fit,h.size,h.eq,hq,h.old,h.cnt,h.left1,h.left2,h.s0,h.s1⟩
theorem St.range(hx:o.op= .range ty x)(hM:St w0 F w L)(hc:(c==2||c==3)=true)(hw:Region.wanted o (yielded ops a.tmps)=true)(hev:a.eval x= .map (some b))(hK:Keyed P kt)(ht:P.underlying ty=some (.map kt et)){L':Array MapEntry→Nat→List Ent}(hu: ∀ es clock,Upd L (b,ow,mapR P kt m) (b,ow,mapX es clock) (L' es clock))
  (h: ∀ w' r es clock since,Rng P kt m es clock since #[] since (Maps.has (heldD m)) m.length→St w0 F w' ((r,true,itX b since #[] since)::L' es clock)→wpSeq P ops K (Held w0 F []) l (a.put o.dst (.pointer (some ⟨r,0,none⟩))) w'):wpSeq P ops K (Held w0 F []) ((o,c)::l) a w:=by
 have hb0:=mapR_at (hM.holds _ (hu #[] 0).mem)
 obtain⟨es,clock,hb,Ft,hs,hD⟩:=hb0
 have hM':St w0 F w (L' es clock):=hM.weaken (hu es clock) (fun _=>⟨_,hb,rfl⟩)
 have hrun:(execOp a.eval o).run P w= .ok (.value (.pointer (some ⟨w.heap.size,0,none⟩))) (w.alloc (.mapIter (some b) clock #[] clock)):=by
  unfold execOp
  simp only[hx,hev,Sem.run_bind,Sem.run_pure,run_range_map w ty kt et b es clock ht hb,Result.andThen_ok]
 have hown:w.ownsMap P kt anyElem b m.length (heldD m):=⟨es,clock,hb,Ft,hs,hD⟩
 have hR:Rng P kt m es clock clock #[] clock (Maps.has (heldD m)) m.length:=by
  obtain⟨w',hrun',hrg,hg,-⟩:=hown.range hK ht
  rw[run_range_map w ty kt et b es clock ht hb] at hrun'
  injection hrun' with e1 e2
  subst e2
  obtain⟨es',clock',since',seen',c0',hb',F',hs',hD',hr',hold,hc',hl1,hl2,h0,h1⟩:=hrg
  rw[(MapKept.heap_alloc w _).1] at hr'
  rw[(MapKept.heap_alloc w _).2 b (MapAt.lt (mapR_at (hM.holds _ (hu #[] 0).mem))),hb] at hb'
  injection hb' with hb'
  injection hb' with e3 e4
  injection hr' with hr'
  injection hr' with e5 e6 e7 e8
  subst e3 e4 e6 e7 e8
  exact⟨F',hs',hD',hold,by rw[hc',size_held],hl1,hl2,h0,h1⟩
 exact wpSeq_turns hc hw hrun (.inl rfl) (fun _ hh=>⟨hh.only.alloc _,nofun⟩) (h _ _ es clock clock hR (hM'.push _ ⟨_,rfl,rfl⟩))
theorem St.next(hx:o.op= .next x false)(hM:St w0 F w L)(hc:(c==2||c==3)=true)(hw:Region.wanted o (yielded ops a.tmps)=true)(hev:a.eval x= .pointer (some ⟨r,0,none⟩))(hK:Keyed P kt)(hm:(b,ow,mapX es clock)∈L){L':Array Nat→Nat→List Ent}(hu: ∀ s q,Upd L (r,true,itX b since seen c0) (r,true,itX b since s q) (L' s q))(hR:Rng P kt m es clock since seen c0 left cnt)
  (h0:cnt=0→(∀ kl,left kl=false)→wpSeq P ops K (Held w0 F []) l (a.put o.dst (.tuple #[.bool false])) w)
  (h: ∀ w' e kl cnt',e∈es.toList→keyOf P kt e.key=some kl→left kl=true→(∀ z,lookL m kl z=e.val)→Rng P kt m es clock since (seen.push e.born) clock (fun x=>left x&& !x.sameKey kl) cnt'→cnt'<cnt→St w0 F w' (L' (seen.push e.born) clock)→
   wpSeq P ops K (Held w0 F []) l (a.put o.dst (.tuple #[.bool true,e.key,e.val])) w'):wpSeq P ops K (Held w0 F []) ((o,c)::l) a w:=by
 obtain⟨_,hb,rfl⟩:=hM.holds _ hm
 obtain⟨_,hr,rfl⟩:=hM.holds _ (hu #[] 0).mem
 have hne:r≠b:=fun e=>by
  simp only at hb hr
  rw[e,hb] at hr
  cases hr
 rcases run_next_at (P:=P) w o.type r b since c0 seen es clock hr hb hR.old hR.s0 with ⟨hz,hrun⟩|⟨e,he,w1,hal,hrun⟩
 ·have hrun':(execOp a.eval o).run P w= .ok (.value (.tuple #[.bool false])) w:=by
   unfold execOp
   simp only[hx,hev,Sem.run_bind,Sem.run_pure,hrun,Result.andThen_ok]
  refine wpSeq_yields hc hw hrun' (h0 (hR.cnt▸hz) fun kl=> ?_)
  cases hk:left kl
  ·rfl
  ·obtain⟨x,hxm,rfl⟩:=hR.left2 kl hk
   rw[hR.left1 x hxm,all_seen es seen hz x hxm] at hk
   cases hk
 ·obtain⟨hem,hes⟩:=mem_left he
  obtain⟨y0,hy0⟩:=hR.fit.reads e hem
  obtain⟨z,hz,hzd⟩:=rd_val hy0
  have hkey:=rd_key hy0
  have hrg:(rg P kt anyElem e).1=y0.1:=by rw[rg_of hy0]
  have hr1:w1.heap[r]? =some (.mapIter (some b) since seen c0):=by rcases hal with rfl|rfl<;> exact hr
  have hset:=heap_set (o':= .mapIter (some b) since (seen.push e.born) clock) hr1
  have hO:Only [r] w (setBlock w1 r (.mapIter (some b) since (seen.push e.born) clock)):=by
   rcases hal with rfl|rfl
   ·exact⟨rfl,rfl,rfl,by simp[setBlock],fun i _ hi=>hset.2 i (by simpa using hi)⟩
   ·exact⟨rfl,rfl,rfl,by simp[setBlock],fun i _ hi=>hset.2 i (by simpa using hi)⟩
  have hrun':(execOp a.eval o).run P w= .ok (.value (.tuple #[.bool true,e.key,e.val])) (setBlock w1 r (.mapIter (some b) since (seen.push e.born) clock)):=by
   unfold execOp
   simp only[hx,hev,Sem.run_bind,Sem.run_pure,hrun,Result.andThen_ok]
  have hz':z=(.held e.val,[]):=(Option.some.inj hz).symm
  have hlook: ∀ q,lookL m y0.1 q=e.val:=fun q=>by
   have h1:(heldD m).atKey y0.1 (.held q)=y0.2:=by
    rw[hR.eq,(atKey_sorted (es.toList.map (rg P kt anyElem)) (Maps.fit_rising hK hR.fit) y0.1 (hK.key hkey)).2 (rg P kt anyElem e) (List.mem_map.2 ⟨e,hem,rfl⟩) hrg,rg_of hy0]
   rw[atKey_held] at h1
   have h2:DataW.held (lookL m y0.1 q)=(z.1:DataW Value):=h1.trans hzd
   rw[hz'] at h2
   injection h2
  refine wpSeq_turns hc hw hrun' (.inl rfl) (fun _ hh=>⟨hh.only.then hO (fun q hq=>by
   have e1:q=r:=by simpa using hq
   rw[e1];exact hM.own _ (hu #[] 0).mem rfl),nofun⟩) (h _ e y0.1 _ hem hkey ?_ hlook ⟨hR.fit,hR.size,hR.eq,hR.old,rfl,fun q hq=> ?_,fun kl hkl=>hR.left2 kl (by simp at hkl;exact hkl.1),hR.s1,hR.s1⟩ ?_ (hM.turn (hu _ _) hO ⟨_,hset.1,rfl⟩))
  ·rw[←hrg,hR.left1 e hem,hes];rfl
  ·show(left (rg P kt anyElem q).1&& !(rg P kt anyElem q).1.sameKey y0.1)=_
   rw[hR.left1 q hq,←hrg,same_iff_born hK hR.fit hq hem,contains_push]
   cases seen.contains q.born<;> cases (q.born==e.born)<;> rfl
  ·rw[←hR.cnt];exact left_shrinks es seen e he
theorem St.entry(hx:o.op= .entry x)(hM:St w0 F w L)(hc:(c==2||c==3)=true)(hw:Region.wanted o (yielded ops a.tmps)=true)(hev:a.eval x= .pointer (some ⟨r,0,none⟩))(hm:(b,ow,mapX es clock)∈L){e:MapEntry}{ow':Bool}(hi:(r,ow',itX b since (seen.push e.born) clock)∈L)(he:e∈es.toList){seen':Array Nat}(hR:Rng P kt m es clock since seen' clock left cnt)
  (h:wpSeq P ops K S l (a.put o.dst (.tuple #[e.key,e.val])) w):wpSeq P ops K S ((o,c)::l) a w:=by
 obtain⟨_,hb,rfl⟩:=hM.holds _ hm
 obtain⟨_,hr,rfl⟩:=hM.holds _ hi
 have hrun:(execOp a.eval o).run P w= .ok (.value (.tuple #[e.key,e.val])) w:=by
  unfold execOp
  simp only[hx,hev,Sem.run_bind,Sem.run_pure,run_entry_at w r b since seen es clock e hr hb he ((stamped_iff es clock).1 hR.fit.stamped).2.1,Result.andThen_ok]
 exact wpSeq_yields hc hw hrun h
end
end
section
open Go.RowKit Go.Maps Go.Shelf
section
variable {w w0:World}{b:Nat}{F:List Nat}{L:List Ent}{l:List (Lit×Value)}
theorem st_clone{P:Program}{k:TypeId}{es:Array MapEntry}{clock:Nat}(hb:w.heap[b]? =some (.map es clock))(h:MapAt P k w b l):St w [] (w.alloc (.map es clock)) [(w.heap.size,true,mapR P k l)]:=
 (St.start w []).push (.map es clock) ⟨_,rfl,w,b,hb,h⟩
theorem cloneM_any(h:(mapR Tryz.prog 9 l).holds w.heap[b]?):Calls Tryz.prog 126 #[.map (some b)] w fun e w'=> ∃ c,e= .returned (.map (some c))∧St w [] w' [(c,true,mapR Tryz.prog 9 l)]:=by
 have hm:=mapR_at h
 have hm0:=hm
 obtain⟨es,clock,hb,-⟩:=hm0
 refine(AnyW.maps_Clone Tryz.cloneM b es clock w hb).mono ?_
 rintro e w' ⟨rfl,rfl⟩
 exact⟨_,rfl,st_clone hb hm⟩
end
/-! ### nodes,some of them -/
def someN(p:Int→Bool)(l:List NodeD):List NodeD:=l.filter fun n=>p n.id
theorem someN_cons(p:Int→Bool)(y:NodeD)(r:List NodeD):someN p (y::r)=if p y.id then y::someN p r else someN p r:=by
 unfold someN
 rw[List.filter_cons]
theorem someN_congr{p q:Int→Bool}{l:List NodeD}(h: ∀ n∈l,p n.id=q n.id):someN p l=someN q l:=List.filter_congr h
theorem nodesL_congr{β γ:Int→Nat×Nat}{l:List NodeD}(h: ∀ n∈l,β n.id=γ n.id):nodesL β l=nodesL γ l:=by
 unfold nodesL
 exact List.map_congr_left fun n hn=>by rw[h n hn]
theorem put_some(β γ:Int→Nat×Nat)(p q:Int→Bool)(n:NodeD)(hp:p n.id=false)(hq: ∀ i,q i=(p i||i==n.id))(hg: ∀ i,i≠n.id→γ i=β i):
  ∀ l:List NodeD,(l.Pairwise fun a b=>a.id<b.id)→n∈l→putL (.int .i64 n.id) (.pointer (some ⟨(γ n.id).1,0,none⟩)) (nodesL β (someN p l))=nodesL γ (someN q l)∧((someN q l).Perm (n::someN p l)):=by
 have hdel: ∀ l:List NodeD,delL (.int .i64 n.id) (nodesL β (someN p l))=nodesL β (someN p l):=fun l=>by
  unfold delL nodesL someN
  rw[List.filter_eq_self]
  intro x hx
  obtain⟨m,hm,rfl⟩:=List.mem_map.1 hx
  have h1:p m.id=true:=by simpa using (List.mem_filter.1 hm).2
  show(!decide (IntKind.i64=IntKind.i64∧m.id=n.id))=true
  have:m.id≠n.id:=fun e=>by rw[e,hp] at h1;cases h1
  simp[this]
 have hsame: ∀ l:List NodeD,(∀ m∈l,m.id≠n.id)→nodesL γ (someN q l)=nodesL β (someN p l)∧someN q l=someN p l:=fun l hl=>by
  have e:someN q l=someN p l:=someN_congr fun m hm=>by rw[hq];simp[hl m hm]
  refine⟨?_,e⟩
  rw[e]
  exact nodesL_congr fun m hm=>hg m.id (hl m (List.mem_filter.1 hm).1)
 have hins: ∀ l:List NodeD,(∀ m∈l,n.id<m.id)→ ∀ v,insL (.int .i64 n.id,v) (nodesL β (someN p l))=(.int .i64 n.id,v)::nodesL β (someN p l):=fun l hl v=>by
  cases hs:someN p l with
  |nil=>rfl
  |cons y r=>
   have hy:y∈someN p l:=by rw[hs];exact .head _
   have:=hl y (List.mem_filter.1 hy).1
   unfold nodesL
   rw[List.map_cons]
   unfold insL
   rw[if_pos (show(Lit.int .i64 n.id).before (.int .i64 y.id)=true by simpa[Lit.before] using this)]
 intro l hl hn
 unfold putL
 rw[hdel]
 induction l with
 |nil=>cases hn
 |cons y r ih=>
  obtain⟨hy,hr⟩:=List.pairwise_cons.1 hl
  rw[someN_cons,someN_cons]
  rcases List.mem_cons.1 hn with rfl|hn'
  ·have hne: ∀ m∈r,m.id≠n.id:=fun m hm=>by have:=hy m hm;omega
   obtain⟨s1,s2⟩:=hsame r hne
   rw[if_neg (by rw[hp];decide),if_pos (by rw[hq];simp),hins r hy,s2]
   refine⟨?_,List.Perm.refl _⟩
   show _=(Lit.int .i64 n.id,_)::nodesL γ (someN p r)
   rw[s2] at s1
   rw[s1]
  ·have hlt:=hy n hn'
   have hne:y.id≠n.id:=by omega
   obtain⟨i1,i2⟩:=ih hr hn'
   have hqy:q y.id=p y.id:=by rw[hq];simp[hne]
   rw[hqy]
   by_cases hpy:p y.id=true
   ·rw[if_pos hpy,if_pos hpy]
    refine⟨?_,(i2.cons y).trans (List.Perm.swap n y _)⟩
    show insL _ ((Lit.int .i64 y.id,Value.pointer (some ⟨(β y.id).1,0,none⟩))::nodesL β (someN p r))=(Lit.int .i64 y.id,Value.pointer (some ⟨(γ y.id).1,0,none⟩))::nodesL γ (someN q r)
    unfold insL
    rw[if_neg (show ¬(Lit.int .i64 n.id).before (.int .i64 y.id)=true by simp[Lit.before];omega),i1,hg y.id hne]
   ·rw[if_neg hpy,if_neg hpy]
    exact⟨i1,i2⟩
theorem flat_some(γ δ:Int→Nat×Nat)(n:NodeD)(p:Int→Bool)(hp:p n.id=false)(hd: ∀ i,i≠n.id→δ i=γ i){l l':List NodeD}(h:l'.Perm (n::someN p l)):(l'.flatMap (nodeL δ)).Perm (nodeL δ n++(someN p l).flatMap (nodeL γ)):=by
 refine(h.flatMap_right (nodeL δ)).trans (List.Perm.of_eq ?_)
 rw[List.flatMap_cons]
 congr 1
 have: ∀ m∈someN p l,nodeL δ m=nodeL γ m:=fun m hm=>by
  have h1:p m.id=true:=by simpa using (List.mem_filter.1 hm).2
  have:m.id≠n.id:=fun e=>by rw[e,hp] at h1;cases h1
  unfold nodeL
  rw[hd m.id this]
 rw[List.flatMap_def,List.flatMap_def,List.map_congr_left this]
theorem node_came{β:Int→Nat×Nat}{l:List NodeD}{x:Int}{v:Value}(h: ∀ z,lookL (nodesL β l) (.int .i64 x) z=v): ∃ n∈l,n.id=x∧v= .pointer (some ⟨(β n.id).1,0,none⟩):=by
 have h1:=h (.pointer none)
 have h2:=h (.bool true)
 unfold lookL at h1 h2
 cases hf:(nodesL β l).find? fun p=>p.1.sameKey (.int .i64 x) with
 |none=>
  rw[hf] at h1 h2
  rw[←h2] at h1
  cases h1
 |some p=>
  rw[hf] at h1
  obtain⟨n,hn,rfl⟩:=List.mem_map.1 (List.mem_of_find?_eq_some hf)
  have:=List.find?_some hf
  have hx:n.id=x:=by
   have h3:decide (IntKind.i64=IntKind.i64∧n.id=x)=true:=this
   simpa using h3
  exact⟨n,hn,hx,h1.symm⟩
theorem row_in{w:World}{b:Nat}{cs:List Value}{t:TypeId}{fr:Nat×Nat}(h:w.heap[b]? =some (.cells cs.toArray t fr)):w.rangeAt b 0 cs:=fun j v hj=>by
 unfold World.cell?
 simp[h,hj]
theorem Only.holds{w0 w:World}{b:Nat}{r:Res}(h:Only [] w0 w)(hr:r.holds w0.heap[b]?):r.holds w.heap[b]? :=by
 rw[h.block b (Res.lt hr) (by simp)];exact hr
theorem flag_1(b:Nat)(r:Res):flagged [(b,true,r)]:=fun y hy=>by rcases List.mem_singleton.1 hy with rfl;rfl
theorem perm_last{α:Type}(c k a b e m:α)(R:List α):(c::k::a::b::e::m::R).Perm (a::b::e::m::k::c::R):=
 ((List.perm_middle (l₁:=[a,b,e,m]) (a:=k) (l₂:=R)).symm.cons c).trans (List.perm_middle (l₁:=[a,b,e,m,k]) (a:=c) (l₂:=R)).symm
theorem has_node{β:Int→Nat×Nat}{l:List NodeD}{n:NodeD}(hn:n∈l):Maps.has (heldD (nodesL β l)) (.int .i64 n.id)=true:=by
 refine List.any_eq_true.2 ⟨(.int .i64 n.id,.held (.pointer (some ⟨(β n.id).1,0,none⟩))), ?_,by show decide (IntKind.i64=IntKind.i64∧n.id=n.id)=true;simp⟩
 exact List.mem_map.2 ⟨(.int .i64 n.id,.pointer (some ⟨(β n.id).1,0,none⟩)),List.mem_map.2 ⟨n,hn,rfl⟩,rfl⟩
section
variable {g mb:Nat}{β:Int→Nat×Nat}{t:TabD}
theorem Clone_any{ws:World}(h:TblAt ws g mb β t)(hq:0<t.quota)(hlen:t.nodes.length≤4611686018427):Calls Tryz.prog 74 #[.pointer (some ⟨g,0,none⟩)] ws fun e w'=> ∃ g' mb' γ,e= .returned (.pointer (some ⟨g',0,none⟩))∧St ws [] w' (tblL g' mb' γ t):=by
 have hM:St ws [] ws [(mb,false,mapR Tryz.prog 3 (nodesL β t.nodes))]:=(St.start ws []).learn (mapR_of h.map) nofun nofun
 have HT:=qh h
 have CG:=qh (given_yes h hq)
 have HA:Hid (t.nodes.Pairwise fun a b=>a.id<b.id):=qh (by
  have:=MapAt.sorted h.map key_int
  unfold nodesL at this
  rw[List.pairwise_map] at this
  exact this.imp fun h=>by simpa[Lit.before] using h)
 obtain⟨c0,c1,c2,c3⟩:=tbl_cells h
 clear h hq
 go_enter Tryz.func74,Tryz.ntmps74
 (repeat(first|(refine qW ?_;intros;rename_i hM)|(refine qMk ?_;clear hM;intro w bk hM)))
 (refine qK (fun R hR=> ?_))
 refine CG.out.mono ?_
 ((first|refine qG hR ?_|refine qGr hR ?_);clear hR R)
 (repeat(first|(refine qW ?_;intros;rename_i hM)|(refine qMk ?_;clear hM;intro w bk hM)))
 refine St.makeMap (kt:=3) rfl hM rfl rfl (fun w=> ?_) ?_
 ·go_simp
  simp[Instr.makeMap,newObj,Sem.run]
 clear hM;intro w mb2 hM
 (refine qq ?_)
 (repeat(first|(refine qW ?_;intros;rename_i hM)|(refine qMk ?_;clear hM;intro w bk hM)))
 obtain⟨g2,eg⟩: ∃ b,b=bk:=⟨_,rfl⟩
 subst eg
 refine St.range (kt:=3) rfl hM rfl rfl rfl key_int Tryz.underlying160 (fun _ _=>by repeat constructor) ?_
 clear hM;intro w r es clock since hR0 hM
 (refine qq ?_)
 (repeat(first|(refine qW ?_;intros;rename_i hM)|(refine qMk ?_;clear hM;intro w bk hM)))
 have HR0:=qh hR0
 clear hR0
 replace hM:St ws [] w ((r,true,itX mb since #[] since)::(mb,false,mapX es clock)::tblL g2 mb2 β ⟨t.quota,t.used,t.last,someN (fun _=>false) t.nodes⟩):=by
  have e:someN (fun _=>false) t.nodes=[]:=by unfold someN;simp
  rw[e]
  exact hM.perm ((List.perm_middle (l₁:=[_,_]) (l₂:=[])).cons _)
 go_loopw [4] (fun _ wr=> ∃ (seen:Array Nat) (s0:Nat) (left:Lit→Bool) (cnt:Nat) (γ:Int→Nat×Nat),Hid (Rng Tryz.prog 3 (nodesL β t.nodes) es clock since seen s0 left cnt)∧St ws [] wr ((r,true,itX mb since seen s0)::(mb,false,mapX es clock)::tblL g2 mb2 γ ⟨t.quota,t.used,t.last,someN (fun i=> !left (.int .i64 i)) t.nodes⟩)) (fun _ wr=>wr.rangeLeft mb r)
 case atStart=>
  refine⟨_,_,_,_,β,HR0, ?_⟩
  rw[someN_congr (q:=fun _=>false) fun n hn=>by rw[has_node hn];rfl]
  exact hM
 case round=>
  clear hM
  obtain⟨seen,s0,left,cnt,γ,HR,hM⟩:=hrel
  have HCNT:=qh ((HR.out.to (hM.holds _ (.tail _ (.head _))) (hM.holds _ (.head _))).left_eq)
  (repeat(first|(refine qW ?_;intros;rename_i hM)|(refine qMk ?_;clear hM;intro w bk hM)))
  refine St.next (kt:=3) rfl hM rfl rfl rfl key_int (.tail _ (.head _)) (fun _ _=>Upd.head) HR.out ?_ ?_
  ·intro hz hl
   have e:someN (fun i=> !left (.int .i64 i)) t.nodes=t.nodes:=by
    unfold someN
    rw[List.filter_eq_self]
    intro n _
    show(!left (.int .i64 n.id))=true
    rw[hl];rfl
   rw[e] at hM
   clear hl e hz HR
   (refine qq ?_)
   (repeat(first|(refine qW ?_;intros;rename_i hM)|(refine qMk ?_;clear hM;intro w bk hM)))
   (refine qf ?_)
   exact⟨g2,mb2,γ,rfl,hM.drop (fun z hz=> .tail _ (.tail _ hz)) (by have:=hM.nd;simp only[List.map_cons,List.nodup_cons] at this;exact this.2.2)⟩
  ·clear hM
   intro w e kl cnt' he hkey hlk hlook hR' hlt hM
   obtain⟨x,hek,rfl,-⟩:=Maps.keyOf_int_inv Tryz.underlying3 hkey
   obtain⟨n,hn,rfl,hev⟩:=node_came hlook
   have hrow:=row_in (HT.out.node n hn).row
   have c4:=hrow 4 _ rfl
   have HNM:=qh (mapR_of (HT.out.node n hn).names)
   have HR':=qh hR'
   have HE:=qh he
   have HN:=qh hn
   have HLK:=qh hlk
   have HKEY':=hkey
   rw[hek] at HKEY'
   have HLT:=qh hlt
   clear hR' he hn hlk hkey hlt hlook HR
   simp only[hek,hev]
   (refine qq ?_)
   (repeat(first|(refine qW ?_;intros;rename_i hM)|(refine qMk ?_;clear hM;intro w bk hM)))
   refine St.entry (kt:=3) rfl hM rfl rfl rfl (.tail _ (.head _)) (.head _) HE.out HR'.out ?_
   simp only[hek,hev]
   (refine qq ?_)
   (repeat(first|(refine qW ?_;intros;rename_i hM)|(refine qMk ?_;clear hM;intro w bk hM)))
   (refine qKx ?_;intro R hR)
   refine(cloneM_any (hM.only.holds HNM.out)).mono ?_
   rintro e' w' ⟨c,rfl,hN⟩
   replace hM:=hM.madeM hN (flag_1 _ _)
   refine qho ?_;clear hR R hN;(refine qq ?_)
   simp only[List.cons_append,List.nil_append] at hM
   unfold tblL tblE at hM
   (repeat(first|(refine qW ?_;intros;rename_i hM)|(refine qMk ?_;clear hM;intro w bk hM)))
   obtain⟨δ,d1,d2⟩: ∃ δ:Int→Nat×Nat,δ n.id=(bk,c)∧ ∀ i,i≠n.id→δ i=γ i:=⟨fun i=>if i=n.id then(bk,c) else γ i,if_pos rfl,fun i hi=>if_neg hi⟩
   obtain⟨hput,hperm⟩:=put_some γ δ (fun i=> !left (.int .i64 i)) (fun i=> !(left (.int .i64 i)&& !(Lit.int .i64 i).sameKey (.int .i64 n.id))) n (by show(!left (.int .i64 n.id))=false;rw[HLK.out];rfl) (fun i=>by
    show(!(left (.int .i64 i)&& !(decide (IntKind.i64=IntKind.i64∧i=n.id))))=(!left (.int .i64 i)||i==n.id)
    by_cases hi:i=n.id
    ·simp[hi]
    ·simp[hi]) d2 t.nodes HT.out.ids HN.out
   rw[d1] at hput
   refine St.mapUpdate (kl:= .int .i64 n.id) rfl hM rfl rfl rfl rfl rfl qm hput key_int Tryz.underlying160 ?_ HKEY' (fun h=>by cases h) ?_
   ·have h1:(nodesL γ (someN (fun i=> !left (.int .i64 i)) t.nodes)).length≤t.nodes.length:=by
     unfold nodesL someN
     rw[List.length_map]
     exact List.length_filter_le _ _
    unfold maxLen
    omega
   have hfl:=flat_some γ δ n (fun i=> !left (.int .i64 i)) (by show(!left (.int .i64 n.id))=false;rw[HLK.out];rfl) d2 hperm
   clear hM;intro w hM
   (refine qq ?_)
   replace hM:=hM.perm (perm_last _ _ _ _ _ _ _)
   have e2:nodeL δ n=[(bk,true,.cells [.bool n.dir,.int .i64 n.links,.int .i64 n.holds,.string n.data,.map (some c)] 166),(c,true,mapR Tryz.prog 9 (namesL n.names))]:=by unfold nodeL;rw[d1]
   rw[e2] at hfl
   replace hM:=hM.perm ((((hfl.symm.cons _).cons _).cons _).cons _)
   clear hfl hperm hput
   (repeat(first|(refine qW ?_;intros;rename_i hM)|(refine qMk ?_;clear hM;intro w bk hM)))
   refine⟨?_, ?_⟩
   ·repeat(first|exact⟨⟨_,_,_,cnt',_,HR',hM⟩,rfl⟩|apply Exists.intro)
   ·rw[HCNT.out,(HR'.out.to (hM.holds _ (.tail _ (.head _))) (hM.holds _ (.head _))).left_eq]
    exact HLT.out
end
end
section
open Go.RowKit Go.Maps Go.Shelf
theorem cloneH_any{w:World}{b:Nat}{l:List (Lit×Value)}(h:(mapR Tryz.prog 3 l).holds w.heap[b]?):Calls Tryz.prog 75 #[.map (some b)] w fun e w'=> ∃ c,e= .returned (.map (some c))∧St w [] w' [(c,true,mapR Tryz.prog 3 l)]:=by
 have hm:=mapR_at h
 have hm0:=hm
 obtain⟨es,clock,hb,-⟩:=hm0
 refine(AnyW.maps_Clone Tryz.cloneH b es clock w hb).mono ?_
 rintro e w' ⟨rfl,rfl⟩
 exact⟨_,rfl,st_clone hb hm⟩
theorem St.front{w0 w:World}{F:List Nat}{M R:List Ent}(h:St w0 F w (M++R)):St w0 F w M:=h.drop (fun z hz=>List.mem_append_left _ hz) (by
 have:=h.nd
 rw[List.map_append,List.nodup_append] at this
 exact this.1)
theorem In.len_sum: ∀ l:List NodeD,64*(l.length:Int)≤In.sum l
 |[]=>by simp[In.sum]
 |n::r=>by
  have:=In.len_sum r
  have h1:64≤In.cost n:=by unfold In.cost;omega
  simp only[In.sum,List.map_cons,List.sum_cons,List.length_cons] at this ⊢
  omega
theorem In.len_inv{N:Nat}{t:TabD}(h:In.Inv N t):t.nodes.length≤4611686018427:=by
 have h1:=In.len_sum t.nodes
 have h2:=h.used
 have h3:=h.cap
 have h4:=h.q1
 omega
open Go.Sort in
theorem keys_hand(h:List (Int×List Int)):intKeys (heldD (handL h))=h.map Prod.fst:=by
 simp[heldD,handL,intKeys,Go.intOf]
theorem keysH_any(mb:Option Nat)(W:World):Calls Tryz.prog 73 #[.map mb] W fun e w'=>e= .returned (.func (.func 125) #[] #[.pointer (some ⟨W.heap.size,0,none⟩)])∧w'=W.alloc (.cells #[.map mb] 42):=
 (callsIn_wide (n:=5)).1 (AnyZI.keys_in Tryz.keysH Fence.wide 5 trivial rfl mb W)
open Go.Sort in
theorem sortedH_any{m:Nat}{l:List (Int×List Int)}(w:World)(h:MapAt Tryz.prog 3 w m (handL l))(hl:l.length≤4611686018427):
  Calls Tryz.prog 72 #[.func (.func 125) #[] #[.pointer (some ⟨w.heap.size,0,none⟩)]] (w.alloc (.cells #[.map (some m)] 42)) fun e w'=> ∃ v:Value,e= .returned v∧
   w'.ownsRow (w.heap.size+1) 3 1 v l.length ((l.map Prod.fst).map (Value.int .i64))∧Below w.heap.size w w':=by
 have hbl:=MapAt.lt h
 have hsz:Maps.size (heldD (handL l))=l.length:=by rw[size_held];simp[handL]
 have hown:w.ownsMap Tryz.prog 3 anyElem m (handL l).length (heldD (handL l)):=h
 have hseq:SeqGives Fence.wide 2 Tryz.prog 125 #[.pointer (some ⟨w.heap.size,0,none⟩)] encZ (fun ss=>ss.Perm (intKeys (heldD (handL l)))) (Maps.size (heldD (handL l))) (w.alloc (.cells #[.map (some m)] 42)):=
  AnyZI.keys_gives (ρ:=Tryz.keysH_ren) {Tryz.keysH with} Fence.wide _ trivial rfl (by omega) w.heap.size m _ _ _ (by simp) (by simp) (by
   obtain⟨es,clock,hb,Ft,hs,hD⟩:=hown
   exact⟨es,clock,(Below.heap_alloc _ _ m hbl).trans hb,Ft,hs,hD⟩)
 have key:=AnyZI.sorted_in Tryz.sortedI Fence.wide 5 trivial trivial trivial trivial rfl (by omega) (sortsI _) (enters_of Tryz.func124 (by kernel_rfl) rfl) 125 #[.pointer (some ⟨w.heap.size,0,none⟩)] trivial (enters_of Tryz.func125 (by kernel_rfl) rfl) _ _ (by rw[hsz,maxLen_val];omega) (by rw[hsz];omega) _ hseq
 refine((callsIn_wide (n:=5)).1 key).mono fun e w' hx=> ?_
 obtain⟨v,ss,he,hp,hrow,_,hb⟩:=hx
 refine⟨v,he, ?_,((Below.refl _ w).alloc (Nat.le_refl _) _).trans (hb.mono (by simp))⟩
 rw[keys_hand] at hp
 have hs:(l.map Prod.fst).Pairwise fun a b=>a<b:=by
  have:=MapAt.sorted h key_int
  unfold handL at this
  rw[List.pairwise_map] at this ⊢
  exact this.imp fun h=>by simpa[Lit.before] using h
 have e:=sort_ints hp hs
 have hlen:ss.length=l.length:=by rw[hp.length_eq];simp
 rw[show(fun x y:Int=>decide (x≤y))=leI from rfl,e,hlen] at hrow
 rw[size_alloc] at hrow
 exact hrow
section
variable {N:Nat}{x:FsX}{β:Int→Nat×Nat}{d:FsD}{w:World}
theorem fClone_any(h:FsAt N x β d w)(hN:N≤1000000000):Calls Tryz.prog 22 #[.pointer (some ⟨x.f,0,none⟩)] w fun e w'=> ∃ x' γ,e= .returned (.pointer (some ⟨FsX.f x',0,none⟩))∧St w [] w' (fsL x' γ d):=by
 have hM:=h.at_.ro
 unfold fsL at hM
 simp only[List.map_cons,unflag] at hM
 have HF:=qh h
 have hq:0<d.t.quota:=by have:=h.inv.tbl.q0;omega
 have hln:d.t.nodes.length≤4611686018427:=In.len_inv h.inv.tbl
 clear h
 go_enter Tryz.func22,Tryz.ntmps22
 (repeat(first|(refine qW ?_;intros;rename_i hM)|(refine qMk ?_;clear hM;intro w bk hM)))
 (refine qKx ?_;intro R hR)
 refine(fgiven_any (HF.out.below hM.to_below)).mono ?_
 (refine qgs ?_;clear hR R)
 (repeat(first|(refine qW ?_;intros;rename_i hM)|(refine qMk ?_;clear hM;intro w bk hM)))
 (refine qKx ?_;intro R hR)
 refine(Clone_any (HF.out.below hM.to_below).tbl hq hln).mono ?_
 rintro e w' ⟨g2,mb2,γ,rfl,hN⟩
 replace hM:=hM.madeM hN tblL_flag
 refine hR.out _ _ (fun h=>h.below hN.to_below) ?_;clear hR R hN;(refine qq ?_)
 (repeat(first|(refine qW ?_;intros;rename_i hM)|(refine qMk ?_;clear hM;intro w bk hM)))
 (refine qKx ?_;intro R hR)
 refine(cloneH_any (hM.only.holds (HF.out.at_.has (x.hb,true,mapR Tryz.prog 3 (handL d.h)) (by unfold fsL;exact .tail _ (.head _))))).mono ?_
 rintro e w' ⟨c,rfl,hN⟩
 replace hM:=hM.madeM hN (flag_1 _ _)
 refine hR.out _ _ (fun h=>h.below hN.to_below) ?_;clear hR R hN;(refine qq ?_)
 simp only[List.cons_append,List.nil_append] at hM
 (repeat(first|(refine qW ?_;intros;rename_i hM)|(refine qMk ?_;clear hM;intro w bk hM)))
 (refine qf ?_)
 exact⟨⟨bk,c,g2,mb2⟩,γ,rfl,St.front (M:=fsL ⟨bk,c,g2,mb2⟩ γ d) hM⟩
def Fs.owners(d:FsD):List Int:=d.h.map Prod.fst
def SomeInts(xs:List Int)(w:World)(e:Ending)(w':World):Prop:=
 ∃ s,e= .returned (slV s xs.length)∧SlOK s xs.length (xs.map (Value.int .i64)) 1∧St w [] w' (slL s (xs.map (Value.int .i64)) 3 1)
theorem fOwners_any(h:FsAt N x β d w)(hN:N≤1000000000):Calls Tryz.prog 21 #[.pointer (some ⟨x.f,0,none⟩)] w (SomeInts (Fs.owners d) w):=by
 have hM:=h.at_.ro
 unfold fsL at hM
 simp only[List.map_cons,unflag] at hM
 have HF:=qh h
 have hln:d.h.length≤4611686018427:=by have:=h.inv.len;omega
 have HMP:=qh (mapR_at (h.at_.has (x.hb,true,mapR Tryz.prog 3 (handL d.h)) (by unfold fsL;exact .tail _ (.head _))))
 clear h
 go_enter Tryz.func21,Tryz.ntmps21
 (refine qw ?_;intros;rename_i hM)
 (refine qKx ?_;intro R hR)
 refine(fgiven_any (HF.out.below hM.to_below)).mono ?_
 (refine qgs ?_;clear hR R)
 (refine qw ?_;intros;rename_i hM)
 (refine qKx ?_;intro R hR)
 refine(keysH_any _ _).mono ?_
 rintro e w' ⟨rfl,rfl⟩
 refine hR.out _ _ (fun h=>h.below ((Below.refl _ w).alloc (Nat.le_refl _) _)) ?_;clear hR R;(refine qq ?_)
 (refine qKx ?_;intro R hR)
 refine(sortedH_any w HMP.out hln).mono ?_
 rintro e w' ⟨v,rfl,hrow,hb⟩
 obtain⟨s,rfl,hok,hst⟩:=st_of_own hrow hb (Nat.le_succ _)
 replace hM:=hM.madeM hst (slL_flag _ _ _ _)
 have HOK:=qh hok
 have e1:d.h.length=(d.h.map Prod.fst).length:=by simp
 refine hR.out _ _ (fun h=>⟨hM.only,nofun⟩) ?_;clear hR R hrow hok;(refine qq ?_)
 (refine qw ?_;intros;rename_i hM)
 (refine qf ?_)
 have h2:=HOK.out
 rw[e1] at h2
 refine⟨s, ?_,h2,hst⟩
 show Ending.returned (slV s d.h.length)= .returned (slV s (d.h.map Prod.fst).length)
 rw[←e1]
end
end
section
namespace Pt
def under(p dir:ByteArray):Bool:=decide ((parts dir).length<(parts p).length)&&decide ((parts p).take (parts dir).length=parts dir)
def run:ByteArray:=⟨#[114,117,110]⟩
end Pt
abbrev LogD:=Int×Option OpD
structure DskD where
 now:FsD
 base:FsD
 log:List LogD
def opK(k:Int)(p:ByteArray):OpD:=⟨k,p,⟨#[]⟩,0,0,0,⟨#[]⟩,0,0⟩
namespace Ol
def again(d:FsD):LogD→FsD
 |(o,some p)=>(Fs.do_ d o p).2
 |(o,none)=>Fs.exit d o
def replay(d:FsD)(l:List LogD):FsD:=l.foldl again d
def empty1(d:FsD)(x:FileD):FsD:=if Pt.under x.path Pt.run then(Fs.do_ d 0 (opK (if x.dir then 2 else 11) x.path)).2 else d
def empties(d:FsD):FsD:=(Fs.files d).reverse.foldl empty1 d
def exits(d:FsD):FsD:=(Fs.owners d).foldl Fs.exit d
def cutFs(D:DskD)(keep:Int):FsD:=empties (exits (replay D.base (D.log.take (max 0 (min keep D.log.length)).toNat)))
def cut(D:DskD)(keep:Int):DskD:=⟨cutFs D keep,cutFs D keep,[]⟩
def new(q:Int):DskD:=⟨Fs.new q,Fs.new q,[]⟩
def sync(D:DskD):DskD:=⟨D.now,D.now,[]⟩
def logs(r:ResD)(p:OpD):Prop:=r.err=0∧p.kind≠6∧p.kind≠9∧p.kind≠13
instance (r:ResD) (p:OpD):Decidable (logs r p):=by unfold logs;infer_instance
def doN(D:DskD)(o:Int)(p:OpD):DskD:=⟨(Fs.do_ D.now o p).2,D.base,if logs (Fs.do_ D.now o p).1 p then D.log++[(o,some p)] else D.log⟩
def do_(D:DskD)(o:Int)(p:OpD):ResD×DskD:=if p.kind=14 then(Fs.errR 0,sync D) else((Fs.do_ D.now o p).1,doN D o p)
def exit(D:DskD)(o:Int):DskD:=if o∈Fs.owners D.now then⟨Fs.exit D.now o,D.base,D.log++[(o,none)]⟩ else D
def LogOk(l:LogD):Prop:=Fits l.1∧ ∀ p,l.2=some p→p.Ok
structure FInv (N:Nat) (d:FsD):Prop where
 inv:Fs.Inv N d
 up:In.Up d.t
 own: ∀ p∈d.h,Fits p.1
structure Inv (N:Nat) (D:DskD):Prop where
 now:FInv N D.now
 base: ∃ M,FInv M D.base∧M+3*D.log.length≤N
 ok: ∀ l∈D.log,LogOk l
section
variable {N M:Nat}{d:FsD}{D:DskD}
theorem FInv.more(h:FInv N d)(hM:N≤M):FInv M d:=⟨h.inv.more hM,h.up,h.own⟩
theorem put_own{h:List (Int×List Int)}{o:Int}{l:List Int}(hh: ∀ p∈h,Fits p.1)(ho:Fits o): ∀ p∈Fs.put h o l,Fits p.1:=fun p hp=>by
 rcases Fs.mem_ins.1 hp with rfl|hp
 ·exact ho
 ·exact hh p (List.mem_filter.1 hp).1
theorem shut_own{h:List (Int×List Int)}{o:Int}{l:List Int}(hh: ∀ p∈h,Fits p.1)(ho:Fits o): ∀ p∈Fs.shut h o l,Fits p.1:=fun p hp=>by
 unfold Fs.shut at hp
 split at hp
 ·exact put_own hh ho p (List.mem_filter.1 hp).1
 ·exact put_own hh ho p hp
theorem gives_own{o id:Int}(hh: ∀ p∈d.h,Fits p.1)(ho:Fits o): ∀ p∈(Fs.gives d o id).2.h,Fits p.1:=by
 unfold Fs.gives
 split
 ·exact put_own hh ho
 ·exact hh
theorem do_own{o:Int}{q:OpD}(hh: ∀ p∈d.h,Fits p.1)(ho:Fits o): ∀ p∈(Fs.do_ d o q).2.h,Fits p.1:=by
 unfold Fs.do_
 split
 ·exact hh
 split
 ·unfold Fs.opens
  split
  ·exact hh
  split
  ·exact hh
  split
  ·split
   ·exact hh
   ·exact gives_own hh ho
  split
  ·exact hh
  ·exact gives_own hh ho
 split
 ·unfold Fs.handled
  split
  ·exact hh
  split
  ·exact shut_own hh ho
  split
  ·exact hh
  split
  ·exact hh
  split
  ·exact hh
  ·exact hh
 split
 ·exact hh
 ·exact hh
theorem exitL_own(o:Int)(ho:Fits o): ∀ (l:List Int) (n:Nat) (d:FsD),(∀ p∈d.h,Fits p.1)→ ∀ p∈(Fs.exitL o l n d).h,Fits p.1
 |[],_,_,h=>h
 |i::r,n,d,h=>by
  unfold Fs.exitL
  refine exitL_own o ho r (n+1) _ ?_
  split
  ·exact shut_own h ho
  ·exact h
theorem finv_do(h:FInv N d)(hN:N≤999999990){o:Int}(ho:Fits o)(p:OpD):FInv (N+3) (Fs.do_ d o p).2:=⟨Fs.inv_do h.inv hN o p,Fs.up_do h.inv h.up o p,do_own h.own ho⟩
theorem finv_exit(h:FInv N d){o:Int}(ho:Fits o):FInv N (Fs.exit d o):=⟨Fs.inv_exit h.inv o,Fs.up_exit h.up o,exitL_own o ho _ 0 d h.own⟩
theorem finv_again(h:FInv N d)(hN:N≤999999990){l:LogD}(hl:LogOk l):FInv (N+3) (again d l):=by
 obtain⟨o,_|p⟩:=l
 ·exact(finv_exit h hl.1).more (by omega)
 ·exact finv_do h hN hl.1 p
theorem finv_replay: ∀ (l:List LogD) {N:Nat} {d:FsD},(∀ x∈l,LogOk x)→FInv N d→N+3*l.length≤999999990→FInv (N+3*l.length) (replay d l)
 |[],_,_,_,h,_=>h
 |x::r,N,d,hl,h,hN=>by
  rw[List.length_cons] at hN
  have:=finv_replay r (fun y hy=>hl y (.tail _ hy)) (finv_again h (by omega) (hl x (.head _))) (by omega)
  rw[List.length_cons,show N+3*(r.length+1)=N+3+3*r.length by omega]
  exact this
theorem owners_fit(h:FInv N d): ∀ o∈Fs.owners d,Fits o:=fun o ho=>by
 obtain⟨p,hp,rfl⟩:=List.mem_map.1 ho
 exact h.own p hp
theorem finv_foldl: ∀ (l:List Int) {d:FsD},(∀ o∈l,Fits o)→FInv N d→FInv N (l.foldl Fs.exit d)
 |[],_,_,h=>h
 |o::r,_,hl,h=>finv_foldl r (fun y hy=>hl y (.tail _ hy)) (finv_exit h (hl o (.head _)))
theorem finv_exits(h:FInv N d):FInv N (exits d):=finv_foldl _ (owners_fit h) h
theorem finv_out(h:FInv N d){o:Int}(ho:Fits o){p:OpD}(hk:p.kind=2∨p.kind=11):FInv N (Fs.do_ d o p).2:=by
 have key:Fs.Inv N (Fs.do_ d o p).2:=by
  have I:=h.inv
  unfold Fs.do_
  split
  ·exact I
  split
  ·exfalso;omega
  split
  ·exfalso;omega
  split
  ·exact I
  ·show Fs.Inv N ⟨(Fs.named d p).2,d.h⟩
   unfold Fs.named Fs.namedAt
   split
   ·exact I
   split
   ·exfalso;omega
   split
   ·exact Fs.inv_tblN I (In.inv_remove I.tbl _ _)
   split
   ·exact Fs.inv_tblN I (In.inv_unlink I.tbl _ _)
   ·exfalso;omega
 exact⟨key,Fs.up_do h.inv h.up o p,do_own h.own ho⟩
theorem finv_empty1(h:FInv N d)(x:FileD):FInv N (empty1 d x):=by
 unfold empty1
 split
 ·refine finv_out h (show Fits 0 by decide) ?_
  show(if x.dir then(2:Int) else 11)=2∨(if x.dir then(2:Int) else 11)=11
  split<;> simp
 ·exact h
theorem finv_empties(h:FInv N d):FInv N (empties d):=by
 unfold empties
 generalize (Fs.files d).reverse=l
 induction l generalizing d with
 |nil=>exact h
 |cons o r ih=>exact ih (finv_empty1 h o)
theorem finv_new{q:Int}(h0:64≤q)(h1:q≤1099511627776):FInv 1 (Fs.new q):=⟨Fs.inv_new h0 h1,In.up_new q,nofun⟩
theorem inv_new{q:Int}(h0:64≤q)(h1:q≤1099511627776):Inv 1 (new q):=⟨finv_new h0 h1,⟨1,finv_new h0 h1,Nat.le_refl _⟩,nofun⟩
theorem Inv.more(h:Inv N D)(hM:N≤M):Inv M D:=by
 obtain⟨K,h1,h2⟩:=h.base
 exact⟨h.now.more hM,⟨K,h1,by omega⟩,h.ok⟩
theorem inv_sync(h:Inv N D):Inv N (sync D):=⟨h.now,⟨N,h.now,by show N+3*0≤N;omega⟩,nofun⟩
theorem take_len(D:DskD)(keep:Int):(D.log.take (max 0 (min keep D.log.length)).toNat).length≤D.log.length:=by
 rw[List.length_take];omega
theorem inv_cutFs(h:Inv N D)(hN:N≤999999990)(keep:Int):FInv N (cutFs D keep):=by
 obtain⟨K,h1,h2⟩:=h.base
 have:=take_len D keep
 exact finv_empties (finv_exits ((finv_replay _ (fun x hx=>h.ok x (List.mem_of_mem_take hx)) h1 (by omega)).more (by omega)))
theorem inv_cut(h:Inv N D)(hN:N≤999999990)(keep:Int):Inv N (cut D keep):=⟨inv_cutFs h hN keep,⟨N,inv_cutFs h hN keep,by show N+3*0≤N;omega⟩,nofun⟩
theorem inv_doN(h:Inv N D)(hN:N≤999999980){o:Int}(ho:Fits o){p:OpD}(hp:p.Ok):Inv (N+3) (doN D o p):=by
 obtain⟨K,h1,h2⟩:=h.base
 refine⟨finv_do h.now (by omega) ho p,⟨K,h1, ?_⟩,fun l hl=> ?_⟩
 ·unfold doN
  simp only
  split
  ·rw[List.length_append,List.length_singleton];omega
  ·omega
 ·unfold doN at hl
  simp only at hl
  split at hl
  ·rcases List.mem_append.1 hl with hl|hl
   ·exact h.ok l hl
   ·rcases List.mem_singleton.1 hl with rfl
    exact⟨ho,fun q hq=>by cases hq;exact hp⟩
  ·exact h.ok l hl
theorem inv_do(h:Inv N D)(hN:N≤999999980){o:Int}(ho:Fits o){p:OpD}(hp:p.Ok):Inv (N+3) (do_ D o p).2:=by
 unfold do_
 split
 ·exact(inv_sync h).more (by omega)
 ·exact inv_doN h hN ho hp
theorem inv_exit(h:Inv N D){o:Int}(ho:Fits o):Inv (N+3) (exit D o):=by
 unfold exit
 split
 ·obtain⟨K,h1,h2⟩:=h.base
  refine⟨(finv_exit h.now ho).more (by omega),⟨K,h1,by rw[List.length_append,List.length_singleton];omega⟩,fun l hl=> ?_⟩
  rcases List.mem_append.1 hl with hl|hl
  ·exact h.ok l hl
  ·rcases List.mem_singleton.1 hl with rfl
   exact⟨ho,nofun⟩
 ·exact h.more (by omega)
end
end Ol
end
end Go.Proofs.YtcicjklhbnipcaaGreatDoor
