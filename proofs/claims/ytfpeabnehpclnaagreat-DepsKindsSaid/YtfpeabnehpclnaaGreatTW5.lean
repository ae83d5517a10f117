import Derived.Test.YtfpeabnehpclnaaGreatTW4
import Derived.Test.YtfpeabnehpclnaaGreatProg
namespace Go.Proofs.YtfpeabnehpclnaaGreatT
open Go Go.Proofs Go.Shelf Go.Proofs.YtfpeabnehpclnaaGreatE
set_option linter.unusedVariables false
set_option linter.unusedSimpArgs false
set_option maxHeartbeats 0
set_option maxRecDepth 4096
theorem Jq (a:Array Value):Sem.pureRun Tryz.prog (callFunc 67 a)=some (.enter 67 a):=by kernel_rfl
theorem tJ (a0:Int) (a3:Nat) (a1:fT) (a4:Option Addr) (a5:Nat) (M:Mem) (w:World) (hI:Inv M w []) (a6:ed M.blk (a3,0,[vI a1.N,vS a4 a1.Edges.length a5])) (a8:rdS xq M.blk a4 a1.Edges) (a7:a1.Edges.length≤a5) (r:Bool) (H:mo a0 a1=some r) :
  Calls Tryz.prog 67 #[vI a0,vP a3 0] w fun e w'=>e = .returned (vB r)∧Inv M w' []:=by
 refine cg Tryz.func67 ?_;intro cs;unfold mo at H;refine aa (rp 1 (aa (aD ?_)));replace H:=ae H;rcases H with ⟨a2,H⟩ | ⟨a2,H⟩
 ·refine bx 0 [.p,.p,.c true,.p,.p,.l 0 0,.p,.p,.p] (gA (hI.lies a6)) _ (bZ (ay a2)) (ro ?_);replace H:=Option.some.inj H;subst H;exact gr Tryz.func67 ⟨rfl,hI⟩
 ·refine bx 0 [.p,.p,.c false,.p,.p,.p,.p,.p,.p] gO _ (bZ (ay a2)) (ro ?_);replace H:=Option.some.inj H;subst H;exact gr Tryz.func67 ⟨rfl,hI⟩
theorem LQ (a:Array Value):Sem.pureRun Tryz.prog (callFunc 118 a)=some (.enter 118 a):=by kernel_rfl
theorem wU (a0:Int) (M:Mem) (w:World) (hI:Inv M w []) (r:Int) (H:rA a0=some r) :
  Calls Tryz.prog 118 #[.int .u64 a0] w fun e w'=>e = .returned (vI r)∧Inv M w' []:=by
 refine cg Tryz.func118 ?_;intro cs;unfold rA at H;refine aa (rp 1 (aa (aD ?_)));replace H:=ah H;obtain ⟨g2,H⟩:=H;refine bx 0 [.p,.x,.p,.p,.p,.p,.p] gO _ (bZ g2) (ro (aa (aD ?_)));replace H:=ah H;obtain ⟨g4,H⟩:=H;refine bx 0 [.p,.x,.p,.p,.p,.p,.p] gO _ (bZ g4) (ro (aa (aD ?_)));replace H:=ah H;obtain ⟨g6,H⟩:=H;refine bx 0 [.p,.x,.p,.p,.p,.p] gO _ (bZ g6) (ro (aa (aD ?_)));replace H:=ah H;obtain ⟨g8,H⟩:=H;refine bx 0 [.p,.p,.x,.p,.p] gO _ (bZ g8) (ro (aa (aD ?_)));replace H:=ah H;obtain ⟨a1,H⟩:=H;refine bx 0 [.p,.p,.x,.p,.p] gO _ (bZ a1) (ro (aa (aD ?_)));replace H:=ah H;obtain ⟨a2,H⟩:=H;refine bx 0 [.p,.p,.x,.p,.p] gO _ (bZ a2) (ro (aa (rp 4 ?_)));replace H:=Option.some.inj H;subst H;exact gr Tryz.func118 ⟨rfl,hI⟩
theorem NB (a:Array Value):Sem.pureRun Tryz.prog (callFunc 68 a)=some (.enter 68 a):=by kernel_rfl
theorem yD (a0:Int) (M:Mem) (w:World) (hI:Inv M w []) (r:Int) (H:kZ a0=some r) :
  Calls Tryz.prog 68 #[.int .u64 a0] w fun e w'=>e = .returned (vI r)∧Inv M w' []:=by
 refine cg Tryz.func68 ?_;intro cs;unfold kZ at H;refine aa (rp 1 (aa ?_));refine xn (by kernel_rfl) ?_;refine go_skip (aa (aD (bp 0 1 ?_)));replace H:=bind_some H;obtain ⟨y3,a1,H⟩:=H;refine oe 1 rfl ?_;refine ec (LQ _) (wU a0 (aW _) _ (Inv.start _) _ a1) ?_;rintro _ _ ⟨rfl,hI'⟩;replace hI:=hI.call0 hI';clear hI';refine ⟨_,rfl,?_⟩;refine bp 2 1 (ro ?_);replace H:=Option.some.inj H;subst H;exact gr Tryz.func68 ⟨rfl,hI⟩
theorem NC (a:Array Value):Sem.pureRun Tryz.prog (callFunc 31 a)=some (.enter 31 a):=by kernel_rfl
theorem AO (a0:fT) (a3:Option Addr) (a2:Nat) (M:Mem) (w:World) (hI:Inv M w []) (a8:rdS xq M.blk a3 a0.Edges) (c8:a0.Edges.length≤a2) (r:Int) (H:di a0=some r) :
  Calls Tryz.prog 31 #[OZ a0 a3 a2] w fun e w'=>e = .returned (vI r)∧Inv M w' []:=by
 refine cg Tryz.func31 ?_;intro cs;unfold di at H;refine aa (aD (oe 0 rfl ?_));refine gN (KM a0 a3 a2) hI rfl ?_;clear hI;intro b2 _ hI;refine bp 1 1 (ro (aa ?_));refine aQ (o:=r) (fun b9 f w=>∃ j,f=bQ j [(1,vP b2 0),(19,vB b9)]∧Inv M w [Il b2 a0 a3 a2]) (fun b9=>lc a0 b9) ?_ (fun c6 => ?_)
 ·clear H hI;rintro b9 _ _ ⟨_,rfl,hI⟩ H;replace H:=ae H;rcases H with ⟨b6,H⟩ | ⟨b6,H⟩
  ·refine gt b6 (aa (rp 1 ?_));replace H:=Option.some.inj H;subst H;exact gr Tryz.func31 ⟨rfl,hI.pK []⟩
  ·refine ge b6 (go_skip (aa (rp 2 (aa (aa (rg [.p,.l 0 1,.p,.p] (gA (hI.grp 0 rfl)) (aI ?_)))))));refine cz (ym a0) (fun a1 f w=>∃ j,f=bQ j [(3,.func (.func 67) #[] #[vP b2 0]),(22,vS a3 a0.Edges.length a2),(23,vI (a0.Edges.length:Int)),(24,vI a1)]∧Inv M w [Il b2 a0 a3 a2]) H ⟨_,at_,hI⟩ ?_;clear H hI;rintro a1 _ _ o1 H ⟨_,rfl,hI⟩ g0 hout1;refine aa (rp 1 (aa ?_));replace H:=ae H;rcases H with ⟨c7,H⟩ | ⟨c7,H⟩
   ·refine gt c7 (go_skip (aa (aI (aa (aD ?_)))));replace H:=ah H;obtain ⟨b8,H⟩:=H;obtain ⟨b1,b0,rfl,_⟩:=rdS.fopen a8 rfl b8;refine bx 0 [.x,.l 0 0] (gA (hI.lies (rdS.flook a8 rfl b8))) _ (bZ b8) (oe 2 rfl ?_);refine jf [vI 0,vI 0,vI 0,vI 0] hI rfl ?_;clear hI;intro g5 _ hI;refine oe 3 rfl ?_;refine fG 1 (KN (idx a0.Edges a1)) hI rfl rfl ?_;clear hI;intro _ hI;refine ro ?_;refine aQ (o:=o1) (fun a6 f w=>∃ j,f=bQ j [(3,.func (.func 67) #[] #[vP b2 0]),(22,vS (some ⟨b1,b0,none⟩) a0.Edges.length a2),(23,vI (a0.Edges.length:Int)),(24,vI a1),(56,vB a6)]∧Inv M w [Il b2 a0 (some ⟨b1,b0,none⟩) a2]) (fun a6=>iJ a1 a6) ?_ (fun a4 => ?_)
    ·clear H hI;rintro a6 _ _ ⟨_,rfl,hI⟩ H;replace H:=ae H;rcases H with ⟨c5,H⟩ | ⟨c5,H⟩
     ·refine gt c5 (aa (rp 1 ?_));replace H:=aJ H;obtain ⟨_,H,b4⟩:=H;have he:=(hout1 _ b4).symm;subst he;replace H:=Option.some.inj H;subst H;exact gr Tryz.func31 ⟨rfl,hI.pK []⟩
     ·refine ge c5 (go_skip (ak (rp 2 ?_)));exact g0 _ (Option.some.inj H).symm _ _ ⟨_,at_,hI⟩
    ·refine aD (bg 0 [.p,.p,.l 0 0] (gA (hI.grp 1 rfl)) ?_);replace H:=bind_some H;obtain ⟨g4,g2,H⟩:=H;refine oe 3 rfl ?_;refine jI _ _ _ 67 #[] #[vP b2 0] #[vI ((idx a0.Edges a1).From)] #[vI ((idx a0.Edges a1).From),vP b2 0] rfl (by kernel_rfl) (by kernel_rfl) (by kernel_rfl) (Jq _) (tJ ((idx a0.Edges a1).From) b2 a0 (some ⟨b1,b0,none⟩) a2 (aW _) _ (Inv.start _) (Grp.lies (hI.grp 0 rfl)) (hI.rd a8) c8 _ g2) ?_;rintro _ _ ⟨rfl,hI'⟩;replace hI:=hI.call0 hI';clear hI';refine ⟨_,rfl,?_⟩;replace H:=ae H;rcases H with ⟨b5,H⟩ | ⟨b5,H⟩
     ·refine bx 4 [.p,.c true,.p,.p,.p,.p,.p,.p,.p,.p,.p,.p,.p,.p,.p,.p,.p,.p,.p,.p,.p,.p,.p,.p,.p] gO _ (bZ (ay b5)) (ro ?_);exact a4 true _ _ ⟨_,at_,hI.pK [0]⟩ H
     ·refine bx 4 [.p,.c false,.p,.p,.l 0 1] (gA (hI.grp 1 rfl)) _ (bZ (ay b5)) ?_;replace H:=bind_some H;obtain ⟨g6,g3,H⟩:=H;refine oe 9 rfl ?_;refine jI _ _ _ 67 #[] #[vP b2 0] #[vI ((idx a0.Edges a1).To)] #[vI ((idx a0.Edges a1).To),vP b2 0] rfl (by kernel_rfl) (by kernel_rfl) (by kernel_rfl) (Jq _) (tJ ((idx a0.Edges a1).To) b2 a0 (some ⟨b1,b0,none⟩) a2 (aW _) _ (Inv.start _) (Grp.lies (hI.grp 0 rfl)) (hI.rd a8) c8 _ g3) ?_;rintro _ _ ⟨rfl,hI'⟩;replace hI:=hI.call0 hI';clear hI';refine ⟨_,rfl,?_⟩;replace H:=ae H;rcases H with ⟨a5,H⟩ | ⟨a5,H⟩
      ·refine bx 10 [.p,.p,.c true,.p,.p,.p,.p,.p,.p,.p,.p,.p,.p,.p,.p,.p,.p,.p,.p] gO _ (bZ (ay a5)) (ro ?_);exact a4 true _ _ ⟨_,at_,hI.pK [0]⟩ H
      ·replace H:=ae H;rcases H with ⟨a7,H⟩ | ⟨a7,H⟩
       ·refine bx 10 [.p,.p,.c false,.p,.l 0 2,.p,.p,.c true,.p,.p,.p,.p,.p,.p,.p,.p,.p,.p,.p] (gA (hI.grp 1 rfl)) _ (bC (ay a5) (bZ (ay a7))) (ro ?_);exact a4 true _ _ ⟨_,at_,hI.pK [0]⟩ H
       ·replace H:=ae H;rcases H with ⟨b7,H⟩ | ⟨b7,H⟩
        ·refine bx 10 [.p,.p,.c false,.p,.l 0 2,.p,.p,.c false,.p,.l 0 2,.p,.p,.c true,.p,.p,.p,.p,.p,.p] (gA (hI.grp 1 rfl)) _ (bC (ay a5) (bC (ay a7) (bZ (ay b7)))) (ro ?_);exact a4 true _ _ ⟨_,at_,hI.pK [0]⟩ H
        ·refine bx 10 [.p,.p,.c false,.p,.l 0 2,.p,.p,.c false,.p,.l 0 2,.p,.p,.c false,.p,.l 0 2,.p] (gA (hI.grp 1 rfl)) _ (bC (ay a5) (bC (ay a7) (bZ (ay b7)))) ?_;replace H:=bind_some H;obtain ⟨g1,c9,H⟩:=H;refine oe 26 rfl ?_;refine ec (NB _) (yD (IntKind.wrap .u64 ((idx a0.Edges a1).Kind)) (aW _) _ (Inv.start _) _ c9) ?_;rintro _ _ ⟨rfl,hI'⟩;replace hI:=hI.call0 hI';clear hI';refine ⟨_,rfl,?_⟩;refine bp 27 2 (ro ?_);exact a4 (g1 != 1) _ _ ⟨_,at_,hI.pK [0]⟩ H
   ·refine ge c7 ?_;refine bN rfl ?_;refine aa (rp 1 ?_);replace H:=aJ H;obtain ⟨_,H,b4⟩:=H;have he:=(hout1 _ b4).symm;subst he;replace H:=Option.some.inj H;subst H;exact gr Tryz.func31 ⟨rfl,hI.pK []⟩
 ·refine aD ?_;replace H:=ae H;rcases H with ⟨a9,H⟩ | ⟨a9,H⟩
  ·refine bx 0 [.p,.l 0 0,.p,.c true,.p,.p,.p,.p,.p,.p,.p,.p,.p,.p] (gA (hI.grp 0 rfl)) _ (bZ (ay a9)) (ro ?_);exact c6 true _ _ ⟨_,at_,hI⟩ H
  ·replace H:=ae H;rcases H with ⟨b3,H⟩ | ⟨b3,H⟩
   ·refine bx 0 [.p,.l 0 0,.p,.c false,.p,.l 0 0,.p,.p,.c true,.p,.p,.p,.p,.p] (gA (hI.grp 0 rfl)) _ (bC (ay a9) (bZ (ay b3))) (ro ?_);exact c6 true _ _ ⟨_,at_,hI⟩ H
   ·refine bx 0 [.p,.l 0 0,.p,.c false,.p,.l 0 0,.p,.p,.c false,.p,.l 0 1,.p,.p,.p] (gA (hI.grp 0 rfl)) _ (bC (ay a9) (bZ (ay b3))) (ro ?_);exact c6 (decide ((a0.Edges.length:Int) > 262144)) _ _ ⟨_,at_,hI⟩ H
theorem tT (a0:History) (a5:Option Addr) (a6:Nat) (a7:Option Addr) (a4:Nat) (M:Mem) (w:World) (hI:Inv M w []) (h8:rdS iL M.blk a5 a0.Keys) (l3:a0.Keys.length≤a6) (b6:rdS kV M.blk a7 a0.Txns) (m3:a0.Txns.length≤a4) (r:Bool) (H:ai a0=some r) :
  Calls Tryz.prog 11 #[uQ a0 a5 a6 a7 a4] w fun e w'=>e = .returned (vB r)∧Inv M w' []:=by
 refine cg Tryz.func11 ?_;intro cs;unfold ai at H;refine aa (aD (oe 0 rfl ?_));refine gN (uP a0 a5 a6 a7 a4) hI rfl ?_;clear hI;intro b2 _ hI;refine bp 1 1 (ro (aa (aa (aD ?_))));replace H:=bind_some H;obtain ⟨y8,r0,H⟩:=H;refine oe 0 rfl ?_;refine ec (NA _) (wB (aW _) _ (Inv.start _) _ r0) ?_;rintro _ _ ⟨rfl,hI'⟩;replace hI:=hI.call0 hI';clear hI';refine ⟨_,rfl,?_⟩;refine bp 1 1 (ro ?_);replace H:=ae H;rcases H with ⟨m1,H⟩ | ⟨m1,H⟩
 ·refine gt m1 (aa (rp 1 ?_));replace H:=Option.some.inj H;subst H;exact gr Tryz.func11 ⟨rfl,hI.pK []⟩
 ·refine ge m1 (go_skip (aa (aD (bg 0 [.l 0 0] (gA (hI.grp 0 rfl)) ?_))));replace H:=bind_some H;obtain ⟨a1,q0,H⟩:=H;refine oe 1 rfl ?_;refine ec (Jn _) (wy a0 a5 a6 a7 a4 (aW _) _ (Inv.start _) (hI.rd h8) l3 (hI.rd b6) m3 _ q0) ?_;rintro _ _ ⟨g2,b0,rfl,hI'⟩;replace hI:=hI.call0 hI';clear hI';refine ⟨_,rfl,?_⟩;refine bp 2 3 (oe 5 rfl ?_);refine jf [vI 0,vS none 0 0] hI rfl ?_;clear hI;intro a8 _ hI;refine oe 6 rfl ?_;refine fG 2 (KM a1.1 g2 b0) hI rfl rfl ?_;clear hI;intro _ hI;refine bp 7 1 (ro (aa (aa (rp 2 ?_))));replace H:=ae H;rcases H with ⟨h6,H⟩ | ⟨h6,H⟩
  ·refine gt h6 (aa (rg [.p,.l 0 1,.p,.p,.p] (gA (hI.grp 2 rfl)) ?_));replace H:=Option.some.inj H;subst H;exact gr Tryz.func11 ⟨rfl,hI.pK []⟩
  ·refine ge h6 (go_skip (aa ?_));refine aQ (o:=r) (fun g3 f w=>∃ j,f=bQ j [(1,vP b2 0),(3,vP a8 0),(37,vB g3)]∧Inv M w ([jV b2 a0 a5 a6 a7 a4]++KR a8 a1.1 g2 b0)) (fun g3=>iF a0 a1 g3) ?_ (fun p1 => ?_)
   ·clear H hI;rintro g3 _ _ ⟨_,rfl,hI⟩ H;replace H:=ae H;rcases H with ⟨l0,H⟩ | ⟨l0,H⟩
    ·refine gt l0 (aa (rp 1 ?_));replace H:=Option.some.inj H;subst H;exact gr Tryz.func11 ⟨rfl,hI.pK []⟩
    ·refine ge l0 (go_skip (aa (aa (rp 1 (aI ?_)))));refine cz (kH a0 a1) (fun a2 f w=>∃ j,f=bQ j [(1,vP b2 0),(3,vP a8 0),(5,vI a2)]∧Inv M w ([jV b2 a0 a5 a6 a7 a4]++KR a8 a1.1 g2 b0)) H ⟨_,at_,hI⟩ ?_;clear H hI;rintro a2 _ _ o1 H ⟨_,rfl,hI⟩ q5 hout1;refine aa (aa (rg [.p,.p,.l 0 1,.p,.p] (gA (hI.grp 1 rfl)) ?_));replace H:=ae H;rcases H with ⟨l5,H⟩ | ⟨l5,H⟩
     ·refine gt l5 (go_skip (aa (aI (aa (aD ?_)))));replace H:=ah H;obtain ⟨h7,H⟩:=H;obtain ⟨h5,rfl⟩:=hI.rowAt 2 rfl h7;refine bx 0 [.p,.l 0 1,.p,.x,.l 1 0] (gB (hI.grp 1 rfl) ((rdS.flook (hI.row 2 rfl) (hI.rowlen 2 rfl) h7).ok)) _ (bZ h7) (oe 5 rfl ?_);refine jf [vI 0,vI 0,vI 0,vI 0] hI rfl ?_;clear hI;intro c8 _ hI;refine oe 6 rfl ?_;refine fG 3 (KN (idx a1.1.Edges a2)) hI rfl rfl ?_;clear hI;intro _ hI;refine ro ?_;refine aQ (o:=o1) (fun (_:Unit) f w=>∃ j b8 h2 g6 b7 g8 g5,f=bQ j [(1,vP b2 0),(3,vP a8 0),(5,vI a2),(6,vP c8 0),(7,vP b8 0),(8,vP b7 0)]∧rdS kOp M.blk h2 ((idx a0.Txns ((idx a1.1.Edges a2).From)).Ops)∧((idx a0.Txns ((idx a1.1.Edges a2).From)).Ops).length≤g6∧rdS kOp M.blk g8 ((idx a0.Txns ((idx a1.1.Edges a2).To)).Ops)∧((idx a0.Txns ((idx a1.1.Edges a2).To)).Ops).length≤g5∧Inv M w ([jV b2 a0 a5 a6 a7 a4]++KR a8 a1.1 (some ⟨h5,0,none⟩) b0++[OA c8 (idx a1.1.Edges a2),BI b8 (idx a0.Txns ((idx a1.1.Edges a2).From)) h2 g6,BI b7 (idx a0.Txns ((idx a1.1.Edges a2).To)) g8 g5])) (fun (_:Unit)=>kG a0 a1 a2) ?_ (fun p5 => ?_)
      ·clear H hI;rintro ⟨⟩ _ _ ⟨_,b8,h2,g6,b7,g8,g5,rfl,r3,s2,s1,r5,hI⟩ H;refine aa (aD (bg 0 [.l 0 0,.p,.l 1 0,.p,.l 1 3] (gB (hI.grp 0 rfl) (hI.grp 3 rfl)) ?_));replace H:=bind_some H;obtain ⟨m8,p8,H⟩:=H;refine oe 5 rfl ?_;refine ec (Dh _) (nz a0 a5 a6 a7 a4 ((idx a1.1.Edges a2).From) ((idx a1.1.Edges a2).Key) (aW _) _ (Inv.start _) (hI.rd h8) l3 (hI.rd b6) m3 _ p8) ?_;rintro _ _ ⟨r4,s0,rfl,hI'⟩;replace hI:=hI.call0 hI';clear hI';refine ⟨_,rfl,?_⟩;refine bp 6 5 (ro (aa (aD (bg 0 [.l 0 0,.p,.l 1 1,.p,.l 1 3] (gB (hI.grp 0 rfl) (hI.grp 3 rfl)) ?_))));replace H:=bind_some H;obtain ⟨m6,p7,H⟩:=H;refine oe 5 rfl ?_;refine ec (Dh _) (nz a0 a5 a6 a7 a4 ((idx a1.1.Edges a2).To) ((idx a1.1.Edges a2).Key) (aW _) _ (Inv.start _) (hI.rd h8) l3 (hI.rd b6) m3 _ p7) ?_;rintro _ _ ⟨r2,r6,rfl,hI'⟩;replace hI:=hI.call0 hI';clear hI';refine ⟨_,rfl,?_⟩;refine bp 6 5 (ro ?_);refine aQ (o:=o1) (fun c5 f w=>∃ j,f=bQ j [(1,vP b2 0),(3,vP a8 0),(5,vI a2),(6,vP c8 0),(7,vP b8 0),(8,vP b7 0),(10,vB m8.2),(12,vB m6.2),(13,vB c5)]∧Inv M w ([jV b2 a0 a5 a6 a7 a4]++KR a8 a1.1 (some ⟨h5,0,none⟩) b0++[OA c8 (idx a1.1.Edges a2),BI b8 (idx a0.Txns ((idx a1.1.Edges a2).From)) h2 g6,BI b7 (idx a0.Txns ((idx a1.1.Edges a2).To)) g8 g5])) (fun c5=>gp a0 a1 a2 m8 m6 c5) ?_ (fun m0 => ?_)
       ·clear H hI;rintro c5 _ _ ⟨_,rfl,hI⟩ H;refine aa (aa (rg [.p,.l 0 2] (gA (hI.grp 3 rfl)) ?_));refine bW (o:=o1) (fun g1 f w=>∃ j,f=bQ j [(1,vP b2 0),(3,vP a8 0),(5,vI a2),(13,vB g1)]∧Inv M w ([jV b2 a0 a5 a6 a7 a4]++KR a8 a1.1 (some ⟨h5,0,none⟩) b0)) (fun g1=>aL a2 g1) ?_ (fun a3 => ?_)
        ·clear H hI;rintro g1 _ _ ⟨_,rfl,hI⟩ H;refine aa (rp 2 ?_);replace H:=ae H;rcases H with ⟨m7,H⟩ | ⟨m7,H⟩
         ·refine gt m7 (aa (rp 1 ?_));replace H:=aJ H;obtain ⟨_,H,l8⟩:=H;have he:=(hout1 _ l8).symm;subst he;replace H:=Option.some.inj H;subst H;exact gr Tryz.func11 ⟨rfl,hI.pK []⟩
         ·refine ge m7 (go_skip (ak (rp 3 ?_)));exact q5 _ (Option.some.inj H).symm _ _ ⟨_,at_,hI⟩
        ·refine aa (rp 2 ?_);replace H:=ae H;rcases H with ⟨m2,H⟩ | ⟨m2,H⟩
         ·refine gt m2 (aD ?_);replace H:=ae H;rcases H with ⟨a9,H⟩ | ⟨a9,H⟩
          ·replace H:=ae H;rcases H with ⟨b1,H⟩ | ⟨b1,H⟩
           ·replace H:=ae H;rcases H with ⟨b5,H⟩ | ⟨b5,H⟩
            ·replace H:=ae H;rcases H with ⟨c7,H⟩ | ⟨c7,H⟩
             ·replace H:=ae H;rcases H with ⟨l1,H⟩ | ⟨l1,H⟩
              ·refine bx 0 [.p,.c true,.p,.l 0 3,.p,.p,.c true,.p,.l 1 0,.p,.l 2 0,.p,.p,.c true,.p,.l 0 0,.p,.l 0 1,.p,.p,.c true,.p,.l 1 1,.p,.p,.c true,.p,.l 2 1,.p,.p,.p] (gC (hI.grp 3 rfl) (hI.grp 4 rfl) (hI.grp 5 rfl)) _ (bC (ay a9) (bC (ay b1) (bC (ay b5) (bC (ay c7) (bZ (ay l1)))))) (ro (ak ?_));exact a3 ((idx a0.Txns ((idx a1.1.Edges a2).To)).Status == 1) _ _ ⟨_,at_,hI.pK [0,1,2]⟩ H
              ·refine bx 0 [.p,.c true,.p,.l 0 3,.p,.p,.c true,.p,.l 1 0,.p,.l 2 0,.p,.p,.c true,.p,.l 0 0,.p,.l 0 1,.p,.p,.c true,.p,.l 1 1,.p,.p,.c false,.p,.p,.p,.p,.p] (gC (hI.grp 3 rfl) (hI.grp 4 rfl) (hI.grp 5 rfl)) _ (bC (ay a9) (bC (ay b1) (bC (ay b5) (bC (ay c7) (bZ (ay l1)))))) (ro (ak ?_));exact a3 false _ _ ⟨_,at_,hI.pK [0,1,2]⟩ H
             ·refine bx 0 [.p,.c true,.p,.l 0 3,.p,.p,.c true,.p,.l 1 0,.p,.l 2 0,.p,.p,.c true,.p,.l 0 0,.p,.l 0 1,.p,.p,.c false,.p,.p,.p,.p,.p,.p,.p,.p,.p,.p] (gC (hI.grp 3 rfl) (hI.grp 4 rfl) (hI.grp 5 rfl)) _ (bC (ay a9) (bC (ay b1) (bC (ay b5) (bZ (ay c7))))) (ro (ak ?_));exact a3 false _ _ ⟨_,at_,hI.pK [0,1,2]⟩ H
            ·refine bx 0 [.p,.c true,.p,.l 0 3,.p,.p,.c true,.p,.l 1 0,.p,.l 2 0,.p,.p,.c false,.p,.p,.p,.p,.p,.p,.p,.p,.p,.p,.p,.p,.p,.p,.p,.p,.p] (gC (hI.grp 3 rfl) (hI.grp 4 rfl) (hI.grp 5 rfl)) _ (bC (ay a9) (bC (ay b1) (bZ (ay b5)))) (ro (ak ?_));exact a3 false _ _ ⟨_,at_,hI.pK [0,1,2]⟩ H
           ·refine bx 0 [.p,.c true,.p,.l 0 3,.p,.p,.c false,.p,.p,.p,.p,.p,.p,.p,.p,.p,.p,.p,.p,.p,.p,.p,.p,.p,.p,.p,.p,.p,.p,.p,.p] (gA (hI.grp 3 rfl)) _ (bC (ay a9) (bZ (ay b1))) (ro (ak ?_));exact a3 false _ _ ⟨_,at_,hI.pK [0,1,2]⟩ H
          ·refine bx 0 [.p,.c false,.p,.p,.p,.p,.p,.p,.p,.p,.p,.p,.p,.p,.p,.p,.p,.p,.p,.p,.p,.p,.p,.p,.p,.p,.p,.p,.p,.p,.p] gO _ (bZ (ay a9)) (ro (ak ?_));exact a3 false _ _ ⟨_,at_,hI.pK [0,1,2]⟩ H
         ·refine ge m2 (aa (rp 2 ?_));replace H:=ae H;rcases H with ⟨m4,H⟩ | ⟨m4,H⟩
          ·refine gt m4 (aD ?_);replace H:=ae H;rcases H with ⟨b3,H⟩ | ⟨b3,H⟩
           ·replace H:=ae H;rcases H with ⟨b4,H⟩ | ⟨b4,H⟩
            ·replace H:=ae H;rcases H with ⟨h1,H⟩ | ⟨h1,H⟩
             ·replace H:=ae H;rcases H with ⟨l7,H⟩ | ⟨l7,H⟩
              ·refine bx 0 [.p,.c true,.p,.l 0 3,.p,.p,.c true,.p,.l 1 1,.p,.p,.c true,.p,.l 2 1,.p,.p,.c true,.p,.l 1 3,.p,.l 2 2,.p,.p,.p] (gC (hI.grp 3 rfl) (hI.grp 4 rfl) (hI.grp 5 rfl)) _ (bC (ay b3) (bC (ay b4) (bC (ay h1) (bZ (ay l7))))) (ro (ak ?_));exact a3 (decide ((idx a0.Txns ((idx a1.1.Edges a2).From)).To < (idx a0.Txns ((idx a1.1.Edges a2).To)).From)) _ _ ⟨_,at_,hI.pK [0,1,2]⟩ H
              ·refine bx 0 [.p,.c true,.p,.l 0 3,.p,.p,.c true,.p,.l 1 1,.p,.p,.c true,.p,.l 2 1,.p,.p,.c false,.p,.p,.p,.p,.p,.p,.p] (gC (hI.grp 3 rfl) (hI.grp 4 rfl) (hI.grp 5 rfl)) _ (bC (ay b3) (bC (ay b4) (bC (ay h1) (bZ (ay l7))))) (ro (ak ?_));exact a3 false _ _ ⟨_,at_,hI.pK [0,1,2]⟩ H
             ·refine bx 0 [.p,.c true,.p,.l 0 3,.p,.p,.c true,.p,.l 1 1,.p,.p,.c false,.p,.p,.p,.p,.p,.p,.p,.p,.p,.p,.p,.p] (gB (hI.grp 3 rfl) (hI.grp 4 rfl)) _ (bC (ay b3) (bC (ay b4) (bZ (ay h1)))) (ro (ak ?_));exact a3 false _ _ ⟨_,at_,hI.pK [0,1,2]⟩ H
            ·refine bx 0 [.p,.c true,.p,.l 0 3,.p,.p,.c false,.p,.p,.p,.p,.p,.p,.p,.p,.p,.p,.p,.p,.p,.p,.p,.p,.p] (gA (hI.grp 3 rfl)) _ (bC (ay b3) (bZ (ay b4))) (ro (ak ?_));exact a3 false _ _ ⟨_,at_,hI.pK [0,1,2]⟩ H
           ·refine bx 0 [.p,.c false,.p,.p,.p,.p,.p,.p,.p,.p,.p,.p,.p,.p,.p,.p,.p,.p,.p,.p,.p,.p,.p,.p] gO _ (bZ (ay b3)) (ro (ak ?_));exact a3 false _ _ ⟨_,at_,hI.pK [0,1,2]⟩ H
          ·refine ge m4 (aa (rp 2 ?_));replace H:=ae H;rcases H with ⟨l9,H⟩ | ⟨l9,H⟩
           ·refine gt l9 (aD ?_);replace H:=ae H;rcases H with ⟨c6,H⟩ | ⟨c6,H⟩
            ·replace H:=ae H;rcases H with ⟨l6,H⟩ | ⟨l6,H⟩
             ·refine bx 0 [.p,.c true,.p,.p,.c true,.p,.l 0 1,.p,.p,.p] (gA (hI.grp 5 rfl)) _ (bC (ay c6) (bZ (ay l6))) (ro (ak ?_));exact a3 ((idx a0.Txns ((idx a1.1.Edges a2).To)).Status == 1) _ _ ⟨_,at_,hI.pK [0,1,2]⟩ H
             ·refine bx 0 [.p,.c true,.p,.p,.c false,.p,.p,.p,.p,.p] gO _ (bC (ay c6) (bZ (ay l6))) (ro (ak ?_));exact a3 false _ _ ⟨_,at_,hI.pK [0,1,2]⟩ H
            ·refine bx 0 [.p,.c false,.p,.p,.p,.p,.p,.p,.p,.p] gO _ (bZ (ay c6)) (ro (ak ?_));exact a3 false _ _ ⟨_,at_,hI.pK [0,1,2]⟩ H
           ·refine ge l9 (aa (rp 2 ?_));replace H:=ae H;rcases H with ⟨h4,H⟩ | ⟨h4,H⟩
            ·refine gt h4 (aD ?_);replace H:=ae H;rcases H with ⟨h3,H⟩ | ⟨h3,H⟩
             ·replace H:=ae H;rcases H with ⟨l2,H⟩ | ⟨l2,H⟩
              ·refine bx 0 [.p,.c true,.p,.p,.c true,.p,.p,.p] gO _ (bC (ay h3) (bZ (ay l2))) (ro (ak ?_));exact a3 m6.2 _ _ ⟨_,at_,hI.pK [0,1,2]⟩ H
              ·refine bx 0 [.p,.c true,.p,.p,.c false,.p,.p,.p] gO _ (bC (ay h3) (bZ (ay l2))) (ro (ak ?_));exact a3 false _ _ ⟨_,at_,hI.pK [0,1,2]⟩ H
             ·refine bx 0 [.p,.c false,.p,.p,.p,.p,.p,.p] gO _ (bZ (ay h3)) (ro (ak ?_));exact a3 false _ _ ⟨_,at_,hI.pK [0,1,2]⟩ H
            ·refine ge h4 (aD ?_);replace H:=ae H;rcases H with ⟨b9,H⟩ | ⟨b9,H⟩
             ·replace H:=ae H;rcases H with ⟨g0,H⟩ | ⟨g0,H⟩
              ·replace H:=ae H;rcases H with ⟨m5,H⟩ | ⟨m5,H⟩
               ·refine bx 0 [.p,.c true,.p,.p,.c true,.p,.l 0 1,.p,.p,.c true,.p,.l 1 1,.p,.p,.p] (gB (hI.grp 4 rfl) (hI.grp 5 rfl)) _ (bC (ay b9) (bC (ay g0) (bZ (ay m5)))) (ro (ak ?_));exact a3 ((idx a0.Txns ((idx a1.1.Edges a2).To)).Status == 1) _ _ ⟨_,at_,hI.pK [0,1,2]⟩ H
               ·refine bx 0 [.p,.c true,.p,.p,.c true,.p,.l 0 1,.p,.p,.c false,.p,.p,.p,.p,.p] (gA (hI.grp 4 rfl)) _ (bC (ay b9) (bC (ay g0) (bZ (ay m5)))) (ro (ak ?_));exact a3 false _ _ ⟨_,at_,hI.pK [0,1,2]⟩ H
              ·refine bx 0 [.p,.c true,.p,.p,.c false,.p,.p,.p,.p,.p,.p,.p,.p,.p,.p] gO _ (bC (ay b9) (bZ (ay g0))) (ro (ak ?_));exact a3 false _ _ ⟨_,at_,hI.pK [0,1,2]⟩ H
             ·refine bx 0 [.p,.c false,.p,.p,.p,.p,.p,.p,.p,.p,.p,.p,.p,.p,.p] gO _ (bZ (ay b9)) (ro (ak ?_));exact a3 false _ _ ⟨_,at_,hI.pK [0,1,2]⟩ H
       ·refine aD ?_;replace H:=ae H;rcases H with ⟨c9,H⟩ | ⟨c9,H⟩
        ·replace H:=ae H;rcases H with ⟨l4,H⟩ | ⟨l4,H⟩
         ·refine bx 0 [.p,.l 0 0,.p,.l 0 1,.p,.c true,.p,.l 1 1,.p,.p,.c true,.p,.l 2 1,.p,.p,.p] (gC (hI.grp 3 rfl) (hI.grp 4 rfl) (hI.grp 5 rfl)) _ (bC (ay c9) (bZ (ay l4))) (ro ?_);exact m0 ((idx a0.Txns ((idx a1.1.Edges a2).To)).Status != 2) _ _ ⟨_,at_,hI.pK [0,1,2,3,4,5]⟩ H
         ·refine bx 0 [.p,.l 0 0,.p,.l 0 1,.p,.c true,.p,.l 1 1,.p,.p,.c false,.p,.p,.p,.p,.p] (gB (hI.grp 3 rfl) (hI.grp 4 rfl)) _ (bC (ay c9) (bZ (ay l4))) (ro ?_);exact m0 false _ _ ⟨_,at_,hI.pK [0,1,2,3,4,5]⟩ H
        ·refine bx 0 [.p,.l 0 0,.p,.l 0 1,.p,.c false,.p,.p,.p,.p,.p,.p,.p,.p,.p,.p] (gA (hI.grp 3 rfl)) _ (bZ (ay c9)) (ro ?_);exact m0 false _ _ ⟨_,at_,hI.pK [0,1,2,3,4,5]⟩ H
      ·replace H:=ah H;obtain ⟨n2,H⟩:=H;replace H:=ah H;obtain ⟨p0,H⟩:=H;refine tL hI ?_;clear hI;intro hI;obtain ⟨r8,r1,rfl,r9,p6,q6⟩:=rdS.open b6 rfl n2;obtain ⟨h0,g4,rfl,m9,n1⟩:=pR p6;obtain ⟨r7,q4,p9⟩:=rdS.look b6 rfl p0;obtain ⟨g9,g7,rfl,n3,n0⟩:=pR q4;refine hx (n:=4) [(0,.p),(1,.l 0 1),(2,.p),(3,.l 1 0),(4,.x),(5,.l 2 0),(6,.p),(7,.l 0 1),(8,.p),(9,.l 1 1),(10,.x),(11,.l 3 0)] (fun _ hS=>(gD (hS.grp 0 rfl) (hS.grp 3 rfl) (hS.lies q6) (hS.lies p9))) hI _ (bC n2 (bZ p0)) ?_;refine jT (n:=3) [12,13] (by simp) (by kernel_rfl) ⟨⟨_,rfl,by kernel_rfl,?_⟩,⟨_,rfl,by kernel_rfl,?_⟩,trivial⟩
       ·refine (jf [vI 0,vI 0,vI 0,vI 0,vS none 0 0] hI rfl ?_);clear hI;intro q1 _ hI;refine ⟨(hI.pK [0,1,2,3]),?_⟩;refine ho (n:=2) 13 rfl (jf [vI 0,vI 0,vI 0,vI 0,vS none 0 0] hI rfl ?_);clear hI;intro q2 _ hI;refine ⟨(hI.pK [0,1,2,3]),?_⟩;refine ho (n:=1) 14 rfl (fG 4 (xD (idx a0.Txns ((idx a1.1.Edges a2).From)) h0 g4) hI rfl rfl ?_);clear hI;intro _ hI;refine ⟨(hI.pK [0,1,2,3]),?_⟩;refine ho (n:=0) 15 rfl (fG 5 (xD (idx a0.Txns ((idx a1.1.Edges a2).To)) g9 g7) hI rfl rfl ?_);clear hI;intro _ hI;refine ⟨(hI.pK [0,1,2,3]),?_⟩;refine hd ?_;exact p5 () _ _ ⟨_,q1,h0,g4,q2,g9,g7,at_,n1,m9,n0,n3,hI⟩ H
       ·refine (jf [vI 0,vI 0,vI 0,vI 0,vS none 0 0] hI rfl ?_);clear hI;intro q9 _ hI;refine ⟨(hI.pK [0,1,2,3]),?_⟩;refine ho (n:=2) 12 rfl (jf [vI 0,vI 0,vI 0,vI 0,vS none 0 0] hI rfl ?_);clear hI;intro q7 _ hI;refine ⟨(hI.pK [0,1,2,3]),?_⟩;refine ho (n:=1) 14 rfl (fG 5 (xD (idx a0.Txns ((idx a1.1.Edges a2).From)) h0 g4) hI rfl rfl ?_);clear hI;intro _ hI;refine ⟨(hI.pK [0,1,2,3]),?_⟩;refine ho (n:=0) 15 rfl (fG 4 (xD (idx a0.Txns ((idx a1.1.Edges a2).To)) g9 g7) hI rfl rfl ?_);clear hI;intro _ hI;refine ⟨(hI.pK [0,1,2,3]),?_⟩;refine hd ?_;exact p5 () _ _ ⟨_,q7,h0,g4,q9,g9,g7,at_,n1,m9,n0,n3,hI.pK [0,1,2,3,5,4]⟩ H
     ·refine ge l5 ?_;refine bN rfl ?_;refine aa (rp 1 ?_);replace H:=aJ H;obtain ⟨_,H,l8⟩:=H;have he:=(hout1 _ l8).symm;subst he;replace H:=Option.some.inj H;subst H;exact gr Tryz.func11 ⟨rfl,hI.pK []⟩
   ·refine aD ?_;replace H:=ae H;rcases H with ⟨h9,H⟩ | ⟨h9,H⟩
    ·refine bx 0 [.p,.l 0 0,.p,.l 1 1,.p,.p,.c true,.p,.p,.p,.p] (gB (hI.grp 2 rfl) (hI.grp 0 rfl)) _ (bZ (ay h9)) (ro ?_);exact p1 true _ _ ⟨_,at_,hI.pK [0,2,1]⟩ H
    ·refine bx 0 [.p,.l 0 0,.p,.l 1 1,.p,.p,.c false,.l 0 0] (gB (hI.grp 2 rfl) (hI.grp 0 rfl)) _ (bZ (ay h9)) ?_;replace H:=bind_some H;obtain ⟨q3,q8,H⟩:=H;refine oe 8 rfl ?_;refine ec (NC _) (AO a1.1 g2 b0 (aW _) _ (Inv.start _) (hI.row 1 rfl) (hI.rowle 1 rfl) _ q8) ?_;rintro _ _ ⟨rfl,hI'⟩;replace hI:=hI.call0 hI';clear hI';refine ⟨_,rfl,?_⟩;refine bp 9 2 (ro ?_);exact p1 (q3 != 0) _ _ ⟨_,at_,hI.pK [0,2,1]⟩ H
end Go.Proofs.YtfpeabnehpclnaaGreatT
