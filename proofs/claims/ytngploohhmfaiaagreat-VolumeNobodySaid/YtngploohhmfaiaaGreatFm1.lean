/- The functions' forms in the engine's words, printed by my own program. -/
import Derived.Test.YtngploohhmfaiaaGreatProg
import Derived.Test.YtngploohhmfaiaaGreatEng11
import Derived.KernelRfl
namespace Go.Proofs.YtngploohhmfaiaaGreat.E
open Go Go.Proofs
set_option linter.unusedVariables false
/-- bollard/bollardlaw11.AllocOnce -/
def F8 (x0_0 : Value) (x0_1 : Value) (x0_2 : Value) (x1a : Option Addr) (x1n : Nat) (x1c : Nat) (R : Ending → Heap → Prop) (H : Heap) : Prop :=
  al H (Obj.cells #[x0_0, x0_1, x0_2] 32) (fun r1 H2 =>
  ld H2 (Addr.mk r1 0 none) (fun v3 =>
  ld H2 (Addr.mk r1 1 none) (fun v4 =>
  ld H2 (Addr.mk r1 2 none) (fun v5 =>
  HCalls Tryz.prog 23 #[Value.agg #[v3, v4, v5]] H2 (Sp.retK (fun v6 H7 =>
  dT 3 v6 (fun v8 v9 v10 =>
  dPtr v8 (fun p11 =>
  dA 3 v9 (fun v12 v13 v14 =>
  dBl v10 (fun b15 =>
  st H7 (Addr.mk r1 0 none) v12 (fun H16 =>
  st H16 (Addr.mk r1 1 none) v13 (fun H17 =>
  st H17 (Addr.mk r1 2 none) v14 (fun H18 =>
  sB (!b15) (R (Ending.returned (Value.bool false)) H18) (al H18 (Obj.map #[] 0) (fun r19 H20 =>
  jn (α := VFH 0) (fun H21 =>
  ∀ v22 v23 v24 v25 v26 v27 v28 v29 v30 v31 v32 v33 v34 v35 v36 v37 v38 v39 v40 v41 v42 v43 v44 v45 v46 v47 v48 v49 v50 v51 v52 v53 v54 v55 v56 v57 v58 v59 v60 v61 v62 v63 v64 v65 v66 v67 v68 v69 v70 v71 v72 v73 v74 v75 v76 v77 v78 v79 v80 v81 v82 v83 v84 v85 v86 v87 v88 v89 v90 v91 v92 v93 v94 v95 v96 v97 v98 v99 v100 v101 v102 v103 v104 v105 v106 v107 v108 v109 v110 v111 v112 v113 v114 v115 v116 v117 v118 v119 v120 v121 v122 v123 v124 v125 v126 v127 v128 v129 v130 v131 v132 v133 v134 v135 v136 v137 v138 v139 v140 v141 v142 v143 v144 v145 v146 v147 v148 v149 v150 v151 v152 v153 v154 v155 v156 v157 v158 v159 v160 v161 v162 v163 v164 v165 v166 v167 v168 v169 v170 v171 v172 v173 v174 v175 v176 v177 v178 v179 v180 v181 v182 v183 v184 v185 v186 v187 v188 v189 v190 : Value,
  R (Ending.returned (Value.bool true)) H21) (fun k191 =>
  ∃ I192 : List Value → Heap → Prop,
  ∃ I193 : List Value → Heap → Nat,
  (I192 ([Value.int IntKind.i64 0]) H20) ∧
  ∀ n194 : Int,
  ∀ v195 v196 v197 v198 v199 v200 v201 v202 v203 v204 v205 v206 v207 v208 v209 v210 v211 v212 v213 v214 v215 v216 v217 v218 v219 v220 v221 v222 v223 v224 v225 v226 v227 v228 v229 v230 v231 v232 v233 v234 v235 v236 v237 v238 v239 v240 v241 v242 v243 v244 v245 v246 v247 v248 v249 v250 v251 v252 v253 v254 v255 v256 v257 v258 v259 v260 v261 v262 v263 v264 v265 v266 v267 v268 v269 v270 v271 v272 v273 v274 v275 v276 v277 v278 v279 v280 v281 v282 v283 v284 v285 v286 v287 v288 v289 v290 v291 v292 v293 v294 v295 v296 v297 v298 v299 v300 v301 v302 v303 v304 v305 v306 v307 v308 v309 v310 v311 v312 v313 v314 v315 v316 v317 v318 v319 v320 v321 v322 v323 v324 v325 v326 v327 v328 v329 v330 v331 v332 v333 v334 v335 v336 v337 v338 v339 v340 v341 v342 v343 v344 v345 v346 v347 v348 v349 v350 v351 v352 v353 v354 v355 v356 v357 v358 v359 v360 : Value,
  ∀ H361 : Heap,
  (I192 ([Value.int IntKind.i64 n194]) H361) →
  sB (decide (n194 < (↑x1n : Int))) (jn (α := VFH 0) (fun H363 =>
  ∀ v364 v365 v366 v367 v368 v369 v370 v371 v372 v373 v374 v375 v376 v377 v378 v379 v380 v381 v382 v383 v384 v385 v386 v387 v388 v389 v390 v391 v392 v393 v394 v395 v396 v397 v398 v399 v400 v401 v402 v403 v404 v405 v406 v407 v408 v409 v410 v411 v412 v413 v414 v415 v416 v417 v418 v419 v420 v421 v422 v423 v424 v425 v426 v427 v428 v429 v430 v431 v432 v433 v434 v435 v436 v437 v438 v439 v440 v441 v442 v443 v444 v445 v446 v447 v448 v449 v450 v451 v452 v453 v454 v455 v456 v457 v458 v459 v460 v461 v462 v463 v464 v465 v466 v467 v468 v469 v470 v471 v472 v473 v474 v475 v476 v477 v478 v479 v480 v481 v482 v483 v484 v485 v486 v487 v488 v489 v490 v491 v492 v493 v494 v495 v496 v497 v498 v499 v500 v501 v502 v503 v504 v505 v506 v507 v508 v509 v510 v511 v512 v513 v514 v515 v516 v517 v518 v519 v520 v521 v522 v523 v524 v525 v526 v527 : Value,
  wr IntKind.i64 (n194 + 1) (fun n528 =>
  (I192 ([Value.int IntKind.i64 n528]) H363) ∧
  (I193 [Value.int IntKind.i64 n528] H363) < (I193 [Value.int IntKind.i64 n194] H361))) (fun k529 =>
  nz x1a (fun a530 =>
  ask ((0 : Int) ≤ n194 ∧ n194 < (↑x1n : Int)) (ld H361 (Addr.add a530 (Int.toNat n194 * 4)) (fun v531 =>
  ld H361 (Addr.add (Addr.add a530 (Int.toNat n194 * 4)) 1) (fun v532 =>
  ld H361 (Addr.add (Addr.add a530 (Int.toNat n194 * 4)) 2) (fun v533 =>
  ld H361 (Addr.add (Addr.add a530 (Int.toNat n194 * 4)) 3) (fun v534 =>
  al H361 (Obj.cells #[Value.int IntKind.i64 0, Value.int IntKind.i64 0, Value.bool false, Value.slice none 0 0] 105) (fun r535 H536 =>
  st H536 (Addr.mk r535 0 none) v531 (fun H537 =>
  st H537 (Addr.mk r535 1 none) v532 (fun H538 =>
  st H538 (Addr.mk r535 2 none) v533 (fun H539 =>
  st H539 (Addr.mk r535 3 none) v534 (fun H540 =>
  sB (decide (n194 > 60)) (k191 H540) (nz p11 (fun a541 =>
  ld H540 (Addr.add a541 1) (fun v542 =>
  dPtr v542 (fun p543 =>
  ld H540 (Addr.mk r1 0 none) (fun v544 =>
  ld H540 (Addr.mk r1 1 none) (fun v545 =>
  ld H540 (Addr.mk r1 2 none) (fun v546 =>
  HCalls Tryz.prog 39 #[Value.pointer p543, Value.agg #[v544, v545, v546]] H540 (Sp.retK (fun v547 H548 =>
  dT 3 v547 (fun v549 v550 v551 =>
  dInt IntKind.i64 v549 (fun n552 =>
  dInt IntKind.i64 v550 (fun n553 =>
  dInt IntKind.i64 v551 (fun n554 =>
  sB (n554 != 0) (R (Ending.returned (Value.bool false)) H548) (ld H548 (Addr.mk r535 1 none) (fun v555 =>
  dInt IntKind.i64 v555 (fun n556 =>
  wr IntKind.u64 n556 (fun n557 =>
  ld H548 (Addr.mk r1 0 none) (fun v558 =>
  dInt IntKind.i64 v558 (fun n559 =>
  wr IntKind.u64 n559 (fun n560 =>
  ask (n560 ≠ (0 : Int)) (nm (Int.tmod n557 n560) (fun n561 =>
  wr IntKind.i64 n561 (fun n562 =>
  ld H548 (Addr.mk r535 0 none) (fun v563 =>
  dInt IntKind.i64 v563 (fun n564 =>
  ask ((2 : Int) ≠ (0 : Int)) (nm (Int.tmod n564 2) (fun n565 =>
  sB (n565 == 0) (nz p11 (fun a566 =>
  ld H548 (Addr.add a566 1) (fun v567 =>
  dPtr v567 (fun p568 =>
  ld H548 (Addr.mk r1 0 none) (fun v569 =>
  ld H548 (Addr.mk r1 1 none) (fun v570 =>
  ld H548 (Addr.mk r1 2 none) (fun v571 =>
  HCalls Tryz.prog 29 #[Value.pointer p568, Value.agg #[v569, v570, v571], Value.int IntKind.i64 n562, Value.slice none 0 0] H548 (Sp.retK (fun v572 H573 =>
  dT 3 v572 (fun v574 v575 v576 =>
  dInt IntKind.i64 v574 (fun n577 =>
  dInt IntKind.i64 v575 (fun n578 =>
  dInt IntKind.i64 v576 (fun n579 =>
  jn (α := VFH 1) (fun v580 H581 =>
  ∀ v582 v583 v584 v585 v586 v587 v588 v589 v590 v591 v592 v593 v594 : Value,
  dBl v580 (fun b595 =>
  sB b595 (R (Ending.returned (Value.bool false)) H581) (sB (n579 != 0) (k529 H581) (nz p11 (fun a596 =>
  ld H581 (Addr.add a596 1) (fun v597 =>
  dPtr v597 (fun p598 =>
  ld H581 (Addr.mk r1 0 none) (fun v599 =>
  ld H581 (Addr.mk r1 1 none) (fun v600 =>
  ld H581 (Addr.mk r1 2 none) (fun v601 =>
  HCalls Tryz.prog 41 #[Value.pointer p598, Value.agg #[v599, v600, v601], Value.int IntKind.i64 n577] H581 (Sp.retK (fun v602 H603 =>
  dT 2 v602 (fun v604 v605 =>
  dBl v604 (fun b606 =>
  dInt IntKind.i64 v605 (fun n607 =>
  nz p11 (fun a608 =>
  ld H603 (Addr.add a608 1) (fun v609 =>
  dPtr v609 (fun p610 =>
  ld H603 (Addr.mk r1 0 none) (fun v611 =>
  ld H603 (Addr.mk r1 1 none) (fun v612 =>
  ld H603 (Addr.mk r1 2 none) (fun v613 =>
  HCalls Tryz.prog 39 #[Value.pointer p610, Value.agg #[v611, v612, v613]] H603 (Sp.retK (fun v614 H615 =>
  dT 3 v614 (fun v616 v617 v618 =>
  dInt IntKind.i64 v616 (fun n619 =>
  dInt IntKind.i64 v617 (fun n620 =>
  dInt IntKind.i64 v618 (fun n621 =>
  jn (α := VFH 1) (fun v622 H623 =>
  ∀ v624 v625 v626 v627 v628 v629 v630 v631 v632 v633 v634 v635 v636 v637 v638 v639 v640 v641 v642 v643 : Value,
  dBl v622 (fun b644 =>
  sB b644 (R (Ending.returned (Value.bool false)) H623) (semW Tryz.prog (Instr.mapUpdate 99 (Value.map (some r19)) (Value.int IntKind.i64 n577) (Value.bool true)) (pnR R) H623 (fun x647 H648 =>
  k529 H648)))) (fun k649 =>
  sB (n607 != 0) (k649 (Value.bool true) H615) (sB (n621 != 0) (k649 (Value.bool true) H615) (sB (!b606) (k649 (Value.bool true) H615) (wr IntKind.i64 (n552 - 1) (fun n650 =>
  sB (n619 != n650) (k649 (Value.bool true) H615) (k649 (Value.bool (n620 != n553)) H615))))))))))) nopR))))))))))) nopR))))))))))) (fun k655 =>
  sB (!(n579 == 5) == (n552 == 0)) (k655 (Value.bool true) H573) (sB (n579 == 0) (semW Tryz.prog (Instr.lookup 99 (Value.map (some r19)) (Value.int IntKind.i64 n577) false) (pnR R) H573 (fun v658 H659 =>
  dBl v658 (fun b660 =>
  k655 (Value.bool b660) H659))) (k655 (Value.bool false) H573)))))))) nopR)))))))) (nz p11 (fun a663 =>
  ld H548 (Addr.add a663 1) (fun v664 =>
  dPtr v664 (fun p665 =>
  HCalls Tryz.prog 24 #[Value.pointer p665] H548 (Sp.retK (fun v666 H667 =>
  dInt IntKind.i64 v666 (fun n668 =>
  ∃ I669 : List Value → Heap → Prop,
  ∃ I670 : List Value → Heap → Nat,
  (I669 ([Value.int IntKind.i64 (-1), Value.int IntKind.i64 0]) H667) ∧
  ∀ n671 : Int,
  ∀ n672 : Int,
  ∀ v673 v674 v675 v676 v677 v678 v679 v680 v681 v682 v683 v684 : Value,
  ∀ H685 : Heap,
  (I669 ([Value.int IntKind.i64 n671, Value.int IntKind.i64 n672]) H685) →
  sB (decide (n672 < n668)) (jn (α := VFH 1) (fun v687 H688 =>
  ∀ v689 v690 v691 v692 v693 v694 v695 v696 v697 v698 : Value,
  dInt IntKind.i64 v687 (fun n699 =>
  wr IntKind.i64 (n672 + 1) (fun n700 =>
  (I669 ([Value.int IntKind.i64 n699, Value.int IntKind.i64 n700]) H688) ∧
  (I670 [Value.int IntKind.i64 n699, Value.int IntKind.i64 n700] H688) < (I670 [Value.int IntKind.i64 n671, Value.int IntKind.i64 n672] H685)))) (fun k701 =>
  jn (α := VFH 1) (fun v702 H703 =>
  ∀ v704 v705 v706 v707 v708 v709 : Value,
  dBl v702 (fun b710 =>
  sB b710 (k701 (Value.int IntKind.i64 n672) H703) (k701 (Value.int IntKind.i64 n671) H703))) (fun k711 =>
  semW Tryz.prog (Instr.lookup 99 (Value.map (some r19)) (Value.int IntKind.i64 n672) false) (pnR R) H685 (fun v714 H715 =>
  dBl v714 (fun b716 =>
  sB b716 (k711 (Value.bool (decide (n671 < 0))) H715) (k711 (Value.bool false) H715)))))) (sB (decide (n671 < 0)) (k529 H685) (nz p11 (fun a717 =>
  ld H685 (Addr.add a717 1) (fun v718 =>
  dPtr v718 (fun p719 =>
  ld H685 (Addr.mk r1 0 none) (fun v720 =>
  ld H685 (Addr.mk r1 1 none) (fun v721 =>
  ld H685 (Addr.mk r1 2 none) (fun v722 =>
  HCalls Tryz.prog 42 #[Value.pointer p719, Value.agg #[v720, v721, v722], Value.int IntKind.i64 n671, Value.slice none 0 0] H685 (Sp.retK (fun v723 H724 =>
  dT 2 v723 (fun v725 v726 =>
  dInt IntKind.i64 v725 (fun n727 =>
  dInt IntKind.i64 v726 (fun n728 =>
  sB (n728 != 0) (R (Ending.returned (Value.bool false)) H724) (nz p11 (fun a729 =>
  ld H724 (Addr.add a729 1) (fun v730 =>
  dPtr v730 (fun p731 =>
  ld H724 (Addr.mk r1 0 none) (fun v732 =>
  ld H724 (Addr.mk r1 1 none) (fun v733 =>
  ld H724 (Addr.mk r1 2 none) (fun v734 =>
  HCalls Tryz.prog 42 #[Value.pointer p731, Value.agg #[v732, v733, v734], Value.int IntKind.i64 n671, Value.slice none 0 0] H724 (Sp.retK (fun v735 H736 =>
  dT 2 v735 (fun v737 v738 =>
  dInt IntKind.i64 v737 (fun n739 =>
  dInt IntKind.i64 v738 (fun n740 =>
  sB (n740 != 110) (R (Ending.returned (Value.bool false)) H736) (semW Tryz.prog (Builtin.delete_ #[99, 3] 0 #[Value.map (some r19), Value.int IntKind.i64 n671]) (pnR R) H736 (fun v743 H744 =>
  k529 H744)))))) nopR)))))))))))) nopR))))))))))) (pnR R))))))))))))))))))))))))) nopR))))))))))))))))))))) (k191 H361)))))))))))) (pnR R))))))
theorem F8_eq (x0_0 : Value) (x0_1 : Value) (x0_2 : Value) (x1a : Option Addr) (x1n : Nat) (x1c : Nat) (R : Ending → Heap → Prop) (H : Heap) : F8 x0_0 x0_1 x0_2 x1a x1n x1c R H = vc Tryz.prog (codeOf Tryz.f8) (.node none .leaf (.node none .leaf (.node none .leaf (.node none .leaf (.node (some ⟨[], [4, 8, 9, 10, 11, 12, 13, 14, 15, 16, 17, 18, 19, 20, 21, 22, 23, 24, 25, 26, 36, 37, 38, 39, 40, 41, 42, 43, 44, 45, 46, 47, 48, 49, 50, 51, 52, 53, 54, 55, 56, 57, 58, 59, 60, 61, 62, 63, 64, 65, 66, 67, 68, 69, 70, 71, 72, 73, 74, 75, 76, 77, 78, 79, 80, 81, 82, 83, 84, 85, 86, 87, 88, 89, 90, 91, 92, 93, 94, 95, 96, 97, 98, 99, 100, 101, 102, 103, 104, 105, 106, 107, 108, 109, 110, 111, 112, 113, 114, 115, 116, 117, 118, 119, 120, 121, 122, 123, 124, 125, 126, 127, 128, 129, 130, 131, 132, 133, 134, 135, 136, 137, 138, 139, 140, 141, 142, 143, 144, 145, 146, 147, 148, 149, 150, 151, 152, 153, 154, 155, 156, 157, 158, 159, 160, 161, 162, 163, 164, 165, 166, 167, 168, 169, 170, 171, 172, 173, 174, 175, 176, 177, 178, 179, 180, 181, 182, 183, 184]⟩) (.node none .leaf (.node none (.node (some ⟨[(38, 3)], [4, 8, 9, 10, 11, 12, 13, 14, 15, 16, 17, 18, 19, 20, 21, 22, 23, 24, 25, 26, 39, 40, 41, 42, 43, 44, 45, 46, 47, 48, 49, 50, 51, 52, 53, 54, 55, 56, 57, 58, 59, 60, 61, 62, 63, 64, 65, 66, 67, 68, 69, 70, 71, 72, 73, 74, 75, 76, 77, 78, 79, 80, 81, 82, 83, 84, 85, 86, 87, 88, 89, 90, 91, 92, 93, 94, 95, 96, 97, 98, 99, 100, 101, 102, 103, 104, 105, 106, 107, 108, 109, 110, 111, 112, 113, 114, 115, 116, 117, 118, 119, 120, 121, 122, 123, 124, 125, 126, 127, 128, 129, 130, 131, 132, 133, 134, 135, 136, 137, 138, 139, 140, 141, 142, 143, 144, 145, 146, 147, 148, 149, 150, 151, 152, 153, 154, 155, 156, 157, 158, 159, 160, 161, 162, 163, 164, 165, 166, 167, 168, 169, 170, 171, 172, 173, 174, 175, 176, 177, 178, 179, 180, 181, 182, 183, 184]⟩) (.node none .leaf (.node none .leaf (.node (some ⟨[], [4, 8, 9, 10, 11, 12, 13, 14, 15, 16, 17, 18, 19, 20, 21, 22, 23, 24, 25, 26, 40, 41, 42, 43, 44, 45, 46, 47, 48, 49, 50, 51, 52, 53, 54, 55, 56, 57, 58, 59, 60, 61, 62, 63, 64, 65, 66, 67, 68, 69, 70, 71, 72, 73, 74, 75, 76, 77, 78, 79, 80, 81, 82, 83, 84, 85, 86, 87, 88, 89, 90, 91, 92, 93, 94, 95, 96, 97, 98, 99, 100, 101, 102, 103, 104, 105, 106, 107, 108, 109, 110, 111, 112, 113, 114, 115, 116, 117, 118, 119, 120, 121, 122, 123, 124, 125, 126, 127, 128, 129, 130, 131, 132, 133, 134, 135, 136, 137, 138, 139, 140, 141, 142, 143, 144, 145, 146, 147, 148, 149, 150, 151, 152, 153, 154, 155, 156, 157, 158, 159, 160, 161, 162, 163, 164, 165, 166, 167, 168, 169, 170, 171, 172, 173, 174, 175, 176, 177, 178, 179, 180, 181, 182, 183]⟩) (.node none (.node none .leaf (.node none .leaf (.node none .leaf (.node none .leaf (.node none .leaf (.node none (.node none .leaf (.node none (.node none .leaf (.node none (.node (some ⟨[(93, 4)], [80, 81, 82, 83, 84, 85, 86, 87, 88, 89, 90, 91, 92]⟩) .leaf .leaf) (.node none .leaf (.node none .leaf (.node none .leaf (.node none (.node (some ⟨[(136, 4)], [116, 117, 118, 119, 120, 121, 122, 123, 124, 125, 126, 127, 128, 129, 130, 131, 132, 133, 134, 135]⟩) .leaf .leaf) .leaf)))))) .leaf)) (.node none .leaf (.node none (.node none .leaf (.node none (.node (some ⟨[(21, 3), (144, 3)], [22, 145, 146, 147, 148, 149, 150, 151, 152, 153, 154, 155]⟩) (.node none .leaf (.node none .leaf (.node (some ⟨[(21, 3)], [22, 146, 147, 148, 149, 150, 151, 152, 153, 154]⟩) (.node none (.node none .leaf (.node (some ⟨[(153, 4)], [147, 148, 149, 150, 151, 152]⟩) .leaf .leaf)) .leaf) .leaf))) .leaf) .leaf)) .leaf)))))))) .leaf) .leaf))) .leaf) .leaf)) .leaf))))) (postV Tryz.prog Tryz.f8 R) ⟨#[Value.agg #[x0_0, x0_1, x0_2], Value.slice x1a x1n x1c] ++ Array.replicate (Tryz.f8.ntmps - 2) undef, []⟩ H := by kernel_rfl
theorem F8_calls {R : Ending → Heap → Prop} {H : Heap} (x0_0 : Value) (x0_1 : Value) (x0_2 : Value) (x1a : Option Addr) (x1n : Nat) (x1c : Nat) (h : F8 x0_0 x0_1 x0_2 x1a x1n x1c R H) : HCalls Tryz.prog 8 #[Value.agg #[x0_0, x0_1, x0_2], Value.slice x1a x1n x1c] H R :=
  calls_by (F := F8 x0_0 x0_1 x0_2 x1a x1n x1c R H) (.node none .leaf (.node none .leaf (.node none .leaf (.node none .leaf (.node (some ⟨[], [4, 8, 9, 10, 11, 12, 13, 14, 15, 16, 17, 18, 19, 20, 21, 22, 23, 24, 25, 26, 36, 37, 38, 39, 40, 41, 42, 43, 44, 45, 46, 47, 48, 49, 50, 51, 52, 53, 54, 55, 56, 57, 58, 59, 60, 61, 62, 63, 64, 65, 66, 67, 68, 69, 70, 71, 72, 73, 74, 75, 76, 77, 78, 79, 80, 81, 82, 83, 84, 85, 86, 87, 88, 89, 90, 91, 92, 93, 94, 95, 96, 97, 98, 99, 100, 101, 102, 103, 104, 105, 106, 107, 108, 109, 110, 111, 112, 113, 114, 115, 116, 117, 118, 119, 120, 121, 122, 123, 124, 125, 126, 127, 128, 129, 130, 131, 132, 133, 134, 135, 136, 137, 138, 139, 140, 141, 142, 143, 144, 145, 146, 147, 148, 149, 150, 151, 152, 153, 154, 155, 156, 157, 158, 159, 160, 161, 162, 163, 164, 165, 166, 167, 168, 169, 170, 171, 172, 173, 174, 175, 176, 177, 178, 179, 180, 181, 182, 183, 184]⟩) (.node none .leaf (.node none (.node (some ⟨[(38, 3)], [4, 8, 9, 10, 11, 12, 13, 14, 15, 16, 17, 18, 19, 20, 21, 22, 23, 24, 25, 26, 39, 40, 41, 42, 43, 44, 45, 46, 47, 48, 49, 50, 51, 52, 53, 54, 55, 56, 57, 58, 59, 60, 61, 62, 63, 64, 65, 66, 67, 68, 69, 70, 71, 72, 73, 74, 75, 76, 77, 78, 79, 80, 81, 82, 83, 84, 85, 86, 87, 88, 89, 90, 91, 92, 93, 94, 95, 96, 97, 98, 99, 100, 101, 102, 103, 104, 105, 106, 107, 108, 109, 110, 111, 112, 113, 114, 115, 116, 117, 118, 119, 120, 121, 122, 123, 124, 125, 126, 127, 128, 129, 130, 131, 132, 133, 134, 135, 136, 137, 138, 139, 140, 141, 142, 143, 144, 145, 146, 147, 148, 149, 150, 151, 152, 153, 154, 155, 156, 157, 158, 159, 160, 161, 162, 163, 164, 165, 166, 167, 168, 169, 170, 171, 172, 173, 174, 175, 176, 177, 178, 179, 180, 181, 182, 183, 184]⟩) (.node none .leaf (.node none .leaf (.node (some ⟨[], [4, 8, 9, 10, 11, 12, 13, 14, 15, 16, 17, 18, 19, 20, 21, 22, 23, 24, 25, 26, 40, 41, 42, 43, 44, 45, 46, 47, 48, 49, 50, 51, 52, 53, 54, 55, 56, 57, 58, 59, 60, 61, 62, 63, 64, 65, 66, 67, 68, 69, 70, 71, 72, 73, 74, 75, 76, 77, 78, 79, 80, 81, 82, 83, 84, 85, 86, 87, 88, 89, 90, 91, 92, 93, 94, 95, 96, 97, 98, 99, 100, 101, 102, 103, 104, 105, 106, 107, 108, 109, 110, 111, 112, 113, 114, 115, 116, 117, 118, 119, 120, 121, 122, 123, 124, 125, 126, 127, 128, 129, 130, 131, 132, 133, 134, 135, 136, 137, 138, 139, 140, 141, 142, 143, 144, 145, 146, 147, 148, 149, 150, 151, 152, 153, 154, 155, 156, 157, 158, 159, 160, 161, 162, 163, 164, 165, 166, 167, 168, 169, 170, 171, 172, 173, 174, 175, 176, 177, 178, 179, 180, 181, 182, 183]⟩) (.node none (.node none .leaf (.node none .leaf (.node none .leaf (.node none .leaf (.node none .leaf (.node none (.node none .leaf (.node none (.node none .leaf (.node none (.node (some ⟨[(93, 4)], [80, 81, 82, 83, 84, 85, 86, 87, 88, 89, 90, 91, 92]⟩) .leaf .leaf) (.node none .leaf (.node none .leaf (.node none .leaf (.node none (.node (some ⟨[(136, 4)], [116, 117, 118, 119, 120, 121, 122, 123, 124, 125, 126, 127, 128, 129, 130, 131, 132, 133, 134, 135]⟩) .leaf .leaf) .leaf)))))) .leaf)) (.node none .leaf (.node none (.node none .leaf (.node none (.node (some ⟨[(21, 3), (144, 3)], [22, 145, 146, 147, 148, 149, 150, 151, 152, 153, 154, 155]⟩) (.node none .leaf (.node none .leaf (.node (some ⟨[(21, 3)], [22, 146, 147, 148, 149, 150, 151, 152, 153, 154]⟩) (.node none (.node none .leaf (.node (some ⟨[(153, 4)], [147, 148, 149, 150, 151, 152]⟩) .leaf .leaf)) .leaf) .leaf))) .leaf) .leaf)) .leaf)))))))) .leaf) .leaf))) .leaf) .leaf)) .leaf))))) Tryz.func8 rfl (F8_eq x0_0 x0_1 x0_2 x1a x1n x1c R H) h
/-- bollard/bollardlaw09.VolumeNow -/
def F9 (x0 : Int) (x1a : Option Addr) (x1n : Nat) (x1c : Nat) (x2a : Option Addr) (x2n : Nat) (x2c : Nat) (R : Ending → Heap → Prop) (H : Heap) : Prop :=
  HCalls Tryz.prog 43 #[Value.int IntKind.i64 x0, Value.slice x1a x1n x1c] H (Sp.retK (fun v1 H2 =>
  dT 3 v1 (fun v3 v4 v5 =>
  dPtr v3 (fun p6 =>
  dPtr v4 (fun p7 =>
  dBl v5 (fun b8 =>
  sB (!b8) (R (Ending.returned (Value.bool false)) H2) (HCalls Tryz.prog 44 #[Value.pointer p6] H2 (Sp.retK (fun v9 H10 =>
  dSl v9 (fun p11 r12 r13 =>
  ∃ I14 : List Value → Heap → Prop,
  ∃ I15 : List Value → Heap → Nat,
  (I14 ([Value.int IntKind.i64 0]) H10) ∧
  ∀ n16 : Int,
  ∀ v17 v18 v19 v20 v21 v22 v23 v24 v25 v26 v27 v28 v29 v30 v31 v32 v33 v34 v35 v36 v37 v38 v39 v40 v41 v42 v43 v44 v45 v46 v47 v48 v49 v50 v51 v52 v53 v54 v55 v56 v57 v58 v59 v60 v61 v62 v63 v64 v65 v66 v67 v68 v69 v70 v71 v72 v73 v74 v75 v76 v77 v78 v79 v80 v81 v82 v83 v84 v85 v86 v87 v88 v89 v90 v91 v92 v93 v94 v95 v96 v97 v98 v99 : Value,
  ∀ H100 : Heap,
  (I14 ([Value.int IntKind.i64 n16]) H100) →
  HCalls Tryz.prog 45 #[Value.pointer p6] H100 (Sp.retK (fun v102 H103 =>
  dSl v102 (fun p104 r105 r106 =>
  sB (decide ((↑r105 : Int) > 0)) (HCalls Tryz.prog 32 #[Value.pointer p6] H103 (Sp.retK (fun v107 H108 =>
  dSl v107 (fun p109 r110 r111 =>
  jn (α := VFH 1) (fun v112 H113 =>
  ∀ v114 v115 v116 v117 v118 v119 : Value,
  dBl v112 (fun b120 =>
  sB b120 (R (Ending.returned (Value.bool false)) H113) (jn (α := VFH 1) (fun v121 H122 =>
  ∀ v123 v124 v125 v126 v127 v128 v129 v130 v131 v132 v133 v134 v135 v136 : Value,
  dInt IntKind.i64 v121 (fun n137 =>
  jn (α := VFH 1) (fun v138 H139 =>
  ∀ v140 v141 v142 v143 v144 v145 v146 v147 v148 v149 v150 v151 v152 v153 v154 v155 v156 v157 v158 : Value,
  dBl v138 (fun b159 =>
  sB b159 (R (Ending.returned (Value.bool false)) H139) (jn (α := VFH 1) (fun v160 H161 =>
  ∀ v162 v163 v164 v165 v166 v167 v168 v169 v170 v171 v172 v173 v174 v175 v176 v177 : Value,
  dBl v160 (fun b178 =>
  jn (α := VFH 1) (fun v179 H180 =>
  ∀ v181 v182 v183 v184 v185 v186 v187 v188 v189 v190 v191 v192 v193 : Value,
  dBl v179 (fun b194 =>
  sB b194 (R (Ending.returned (Value.bool false)) H180) (wr IntKind.i64 (n16 + 1) (fun n195 =>
  (I14 ([Value.int IntKind.i64 n195]) H180) ∧
  (I15 [Value.int IntKind.i64 n195] H180) < (I15 [Value.int IntKind.i64 n16] H100))))) (fun k196 =>
  HCalls Tryz.prog 35 #[Value.pointer p6, Value.int IntKind.i64 0, Value.bool !b178] H161 (Sp.retK (fun v197 H198 =>
  dInt IntKind.i64 v197 (fun n199 =>
  sB ((n199 == 0) == b178) (k196 (Value.bool true) H198) (HCalls Tryz.prog 44 #[Value.pointer p6] H198 (Sp.retK (fun v200 H201 =>
  dSl v200 (fun p202 r203 r204 =>
  HCalls Tryz.prog 46 #[Value.slice p202 r203 r204, Value.slice p11 r12 r13] H201 (Sp.retK (fun v205 H206 =>
  dBl v205 (fun b207 =>
  k196 (Value.bool !b207) H206)) (pnR R)))) (pnR R))))) (pnR R))))) (fun k214 =>
  sB (decide (n16 < (↑x2n : Int))) (nz x2a (fun a215 =>
  ask ((0 : Int) ≤ n16 ∧ n16 < (↑x2n : Int)) (ld H139 (Addr.add a215 (Int.toNat n16 * 1)) (fun v216 =>
  dInt IntKind.i64 v216 (fun n217 =>
  ask ((5 : Int) ≠ (0 : Int)) (nm (Int.tmod n217 5) (fun n218 =>
  sB (n218 == 0) (k214 (Value.bool (decide (n16 < 30))) H139) (k214 (Value.bool false) H139)))))))) (k214 (Value.bool false) H139))))) (fun k219 =>
  nz p109 (fun a220 =>
  ask ((0 : Int) ≤ n137 ∧ n137 < (↑r110 : Int)) (ld H122 (Addr.add a220 (Int.toNat n137 * 1)) (fun v221 =>
  dInt IntKind.i64 v221 (fun n222 =>
  HCalls Tryz.prog 33 #[Value.pointer p6, Value.int IntKind.i64 n222] H122 (Sp.retK (fun v223 H224 =>
  dInt IntKind.i64 v223 (fun n225 =>
  sB (n225 != 0) (k219 (Value.bool true) H224) (HCalls Tryz.prog 44 #[Value.pointer p6] H224 (Sp.retK (fun v226 H227 =>
  dSl v226 (fun p228 r229 r230 =>
  HCalls Tryz.prog 46 #[Value.slice p228 r229 r230, Value.slice p11 r12 r13] H227 (Sp.retK (fun v231 H232 =>
  dBl v231 (fun b233 =>
  sB (!b233) (k219 (Value.bool true) H232) (HCalls Tryz.prog 34 #[Value.pointer p6] H232 (Sp.retK (fun v234 H235 =>
  dSl v234 (fun p236 r237 r238 =>
  k219 (Value.bool ((↑r237 : Int) != 1)) H235)) (pnR R))))) (pnR R)))) (pnR R))))) (pnR R))))))))) (fun k247 =>
  sB (decide (n16 < (↑x2n : Int))) (nz x2a (fun a248 =>
  ask ((0 : Int) ≤ n16 ∧ n16 < (↑x2n : Int)) (ld H113 (Addr.add a248 (Int.toNat n16 * 1)) (fun v249 =>
  dInt IntKind.i64 v249 (fun n250 =>
  wr IntKind.u64 n250 (fun n251 =>
  wr IntKind.u64 ((↑r110 : Int)) (fun n252 =>
  ask (n252 ≠ (0 : Int)) (nm (Int.tmod n251 n252) (fun n253 =>
  wr IntKind.i64 n253 (fun n254 =>
  k247 (Value.int IntKind.i64 n254) H113)))))))))) (k247 (Value.int IntKind.i64 0) H113))))) (fun k255 =>
  sB ((↑r110 : Int) == 0) (k255 (Value.bool true) H108) (k255 (Value.bool (decide (n16 > 100))) H108)))) (pnR R))) (R (Ending.returned (Value.bool true)) H103))) (pnR R)))) (pnR R)))))))) (pnR R))
theorem F9_eq (x0 : Int) (x1a : Option Addr) (x1n : Nat) (x1c : Nat) (x2a : Option Addr) (x2n : Nat) (x2c : Nat) (R : Ending → Heap → Prop) (H : Heap) : F9 x0 x1a x1n x1c x2a x2n x2c R H = vc Tryz.prog (codeOf Tryz.f9) (.node none .leaf (.node none .leaf (.node none .leaf (.node none .leaf (.node none (.node none .leaf (.node none (.node (some ⟨[(11, 3)], [6, 12, 13, 14, 26, 27, 28, 29, 30, 31, 32, 33, 34, 35, 36, 37, 38, 39, 40, 41, 42, 43, 44, 45, 46, 47, 48, 49, 50, 51, 52, 53, 54, 55, 56, 57, 58, 59, 60, 61, 62, 63, 64, 65, 66, 67, 68, 69, 70, 71, 72, 73, 74, 75, 76, 77, 78, 79, 80, 81, 82, 83, 84, 85, 86, 87, 88, 89, 90, 91, 92, 93, 94, 95, 96, 97, 98, 99, 100, 101, 102, 103, 104]⟩) (.node none .leaf (.node none (.node none (.node none .leaf (.node none (.node (some ⟨[(40, 4)], [34, 35, 36, 37, 38, 39]⟩) .leaf .leaf) (.node none .leaf (.node (some ⟨[(13, 3)], [41, 42, 43, 44, 45, 46, 47, 48, 49, 50, 51, 52, 53, 54]⟩) .leaf (.node none (.node (some ⟨[(74, 4)], [55, 56, 57, 58, 59, 60, 61, 62, 63, 64, 65, 66, 67, 68, 69, 70, 71, 72, 73]⟩) .leaf .leaf) (.node (some ⟨[(14, 4)], [75, 76, 77, 78, 79, 80, 81, 82, 83, 84, 85, 86, 87, 88, 89, 90]⟩) .leaf (.node (some ⟨[(104, 4)], [91, 92, 93, 94, 95, 96, 97, 98, 99, 100, 101, 102, 103]⟩) .leaf .leaf))))))) .leaf) .leaf)) .leaf) .leaf)) .leaf))))) (postV Tryz.prog Tryz.f9 R) ⟨#[Value.int IntKind.i64 x0, Value.slice x1a x1n x1c, Value.slice x2a x2n x2c] ++ Array.replicate (Tryz.f9.ntmps - 3) undef, []⟩ H := by kernel_rfl
theorem F9_calls {R : Ending → Heap → Prop} {H : Heap} (x0 : Int) (x1a : Option Addr) (x1n : Nat) (x1c : Nat) (x2a : Option Addr) (x2n : Nat) (x2c : Nat) (h : F9 x0 x1a x1n x1c x2a x2n x2c R H) : HCalls Tryz.prog 9 #[Value.int IntKind.i64 x0, Value.slice x1a x1n x1c, Value.slice x2a x2n x2c] H R :=
  calls_by (F := F9 x0 x1a x1n x1c x2a x2n x2c R H) (.node none .leaf (.node none .leaf (.node none .leaf (.node none .leaf (.node none (.node none .leaf (.node none (.node (some ⟨[(11, 3)], [6, 12, 13, 14, 26, 27, 28, 29, 30, 31, 32, 33, 34, 35, 36, 37, 38, 39, 40, 41, 42, 43, 44, 45, 46, 47, 48, 49, 50, 51, 52, 53, 54, 55, 56, 57, 58, 59, 60, 61, 62, 63, 64, 65, 66, 67, 68, 69, 70, 71, 72, 73, 74, 75, 76, 77, 78, 79, 80, 81, 82, 83, 84, 85, 86, 87, 88, 89, 90, 91, 92, 93, 94, 95, 96, 97, 98, 99, 100, 101, 102, 103, 104]⟩) (.node none .leaf (.node none (.node none (.node none .leaf (.node none (.node (some ⟨[(40, 4)], [34, 35, 36, 37, 38, 39]⟩) .leaf .leaf) (.node none .leaf (.node (some ⟨[(13, 3)], [41, 42, 43, 44, 45, 46, 47, 48, 49, 50, 51, 52, 53, 54]⟩) .leaf (.node none (.node (some ⟨[(74, 4)], [55, 56, 57, 58, 59, 60, 61, 62, 63, 64, 65, 66, 67, 68, 69, 70, 71, 72, 73]⟩) .leaf .leaf) (.node (some ⟨[(14, 4)], [75, 76, 77, 78, 79, 80, 81, 82, 83, 84, 85, 86, 87, 88, 89, 90]⟩) .leaf (.node (some ⟨[(104, 4)], [91, 92, 93, 94, 95, 96, 97, 98, 99, 100, 101, 102, 103]⟩) .leaf .leaf))))))) .leaf) .leaf)) .leaf) .leaf)) .leaf))))) Tryz.func9 rfl (F9_eq x0 x1a x1n x1c x2a x2n x2c R H) h
/-- bollard/bollardlaw10.SnapStays -/
def F10 (x0_0 : Value) (x0_1 : Value) (x0_2 : Value) (x1a : Option Addr) (x1n : Nat) (x1c : Nat) (x2a : Option Addr) (x2n : Nat) (x2c : Nat) (R : Ending → Heap → Prop) (H : Heap) : Prop :=
  al H (Obj.cells #[x0_0, x0_1, x0_2] 32) (fun r1 H2 =>
  ld H2 (Addr.mk r1 0 none) (fun v3 =>
  ld H2 (Addr.mk r1 1 none) (fun v4 =>
  ld H2 (Addr.mk r1 2 none) (fun v5 =>
  HCalls Tryz.prog 23 #[Value.agg #[v3, v4, v5]] H2 (Sp.retK (fun v6 H7 =>
  dT 3 v6 (fun v8 v9 v10 =>
  dPtr v8 (fun p11 =>
  dA 3 v9 (fun v12 v13 v14 =>
  dBl v10 (fun b15 =>
  st H7 (Addr.mk r1 0 none) v12 (fun H16 =>
  st H16 (Addr.mk r1 1 none) v13 (fun H17 =>
  st H17 (Addr.mk r1 2 none) v14 (fun H18 =>
  sB (!b15) (R (Ending.returned (Value.bool false)) H18) (∃ I19 : List Value → Heap → Prop,
  ∃ I20 : List Value → Heap → Nat,
  (I19 ([Value.int IntKind.i64 0]) H18) ∧
  ∀ n21 : Int,
  ∀ v22 v23 v24 v25 v26 v27 v28 v29 v30 v31 v32 v33 v34 v35 v36 v37 : Value,
  ∀ H38 : Heap,
  (I19 ([Value.int IntKind.i64 n21]) H38) →
  sB (decide (n21 < (↑x1n : Int))) (nz x1a (fun a40 =>
  ask ((0 : Int) ≤ n21 ∧ n21 < (↑x1n : Int)) (ld H38 (Addr.add a40 (Int.toNat n21 * 4)) (fun v41 =>
  ld H38 (Addr.add (Addr.add a40 (Int.toNat n21 * 4)) 1) (fun v42 =>
  ld H38 (Addr.add (Addr.add a40 (Int.toNat n21 * 4)) 2) (fun v43 =>
  ld H38 (Addr.add (Addr.add a40 (Int.toNat n21 * 4)) 3) (fun v44 =>
  al H38 (Obj.cells #[Value.int IntKind.i64 0, Value.int IntKind.i64 0, Value.int IntKind.i64 0, Value.slice none 0 0] 118) (fun r45 H46 =>
  st H46 (Addr.mk r45 0 none) v41 (fun H47 =>
  st H47 (Addr.mk r45 1 none) v42 (fun H48 =>
  st H48 (Addr.mk r45 2 none) v43 (fun H49 =>
  st H49 (Addr.mk r45 3 none) v44 (fun H50 =>
  jn (α := VFH 1) (fun v51 H52 =>
  ∀ v53 v54 v55 v56 v57 v58 v59 : Value,
  dBl v51 (fun b60 =>
  sB b60 (R (Ending.returned (Value.bool false)) H52) (wr IntKind.i64 (n21 + 1) (fun n61 =>
  (I19 ([Value.int IntKind.i64 n61]) H52) ∧
  (I20 [Value.int IntKind.i64 n61] H52) < (I20 [Value.int IntKind.i64 n21] H38))))) (fun k62 =>
  sB (decide (n21 < 20)) (ld H50 (Addr.mk r45 0 none) (fun v63 =>
  ld H50 (Addr.mk r45 1 none) (fun v64 =>
  ld H50 (Addr.mk r45 2 none) (fun v65 =>
  ld H50 (Addr.mk r45 3 none) (fun v66 =>
  HCalls Tryz.prog 47 #[Value.pointer p11, Value.agg #[v63, v64, v65, v66]] H50 (Sp.retK (fun v67 H68 =>
  dBl v67 (fun b69 =>
  k62 (Value.bool !b69) H68)) (pnR R))))))) (k62 (Value.bool false) H50)))))))))))))) (HCalls Tryz.prog 28 #[Value.pointer p11] H38 (Sp.retK (fun v72 H73 =>
  dSl v72 (fun p74 r75 r76 =>
  nz p11 (fun a77 =>
  ld H73 (Addr.add a77 1) (fun v78 =>
  dPtr v78 (fun p79 =>
  ld H73 (Addr.mk r1 0 none) (fun v80 =>
  ld H73 (Addr.mk r1 1 none) (fun v81 =>
  ld H73 (Addr.mk r1 2 none) (fun v82 =>
  HCalls Tryz.prog 22 #[Value.pointer p79, Value.agg #[v80, v81, v82], Value.int IntKind.i64 1, Value.int IntKind.i64 65536] H73 (Sp.retK (fun v83 H84 =>
  dT 2 v83 (fun v85 v86 =>
  dPtr v85 (fun p87 =>
  dInt IntKind.i64 v86 (fun n88 =>
  sB (n88 != 0) (R (Ending.returned (Value.bool false)) H84) (jn (α := VFH 0) (fun H89 =>
  ∀ v90 v91 v92 v93 v94 v95 v96 v97 v98 v99 v100 v101 v102 v103 v104 v105 v106 v107 v108 v109 v110 v111 v112 v113 v114 v115 v116 v117 v118 v119 v120 v121 v122 v123 v124 v125 v126 v127 v128 v129 : Value,
  nz p11 (fun a130 =>
  ld H89 (Addr.add a130 1) (fun v131 =>
  dPtr v131 (fun p132 =>
  ld H89 (Addr.mk r1 0 none) (fun v133 =>
  ld H89 (Addr.mk r1 1 none) (fun v134 =>
  ld H89 (Addr.mk r1 2 none) (fun v135 =>
  HCalls Tryz.prog 22 #[Value.pointer p132, Value.agg #[v133, v134, v135], Value.int IntKind.i64 2, Value.int IntKind.i64 5] H89 (Sp.retK (fun v136 H137 =>
  dT 2 v136 (fun v138 v139 =>
  dPtr v138 (fun p140 =>
  dInt IntKind.i64 v139 (fun n141 =>
  jn (α := VFH 1) (fun v142 H143 =>
  ∀ v144 v145 v146 v147 v148 v149 v150 v151 v152 v153 v154 : Value,
  dBl v142 (fun b155 =>
  sB b155 (R (Ending.returned (Value.bool false)) H143) (nz p11 (fun a156 =>
  ld H143 (Addr.add a156 1) (fun v157 =>
  dPtr v157 (fun p158 =>
  ld H143 (Addr.mk r1 0 none) (fun v159 =>
  ld H143 (Addr.mk r1 1 none) (fun v160 =>
  ld H143 (Addr.mk r1 2 none) (fun v161 =>
  HCalls Tryz.prog 22 #[Value.pointer p158, Value.agg #[v159, v160, v161], Value.int IntKind.i64 2, Value.int IntKind.i64 5] H143 (Sp.retK (fun v162 H163 =>
  dT 2 v162 (fun v164 v165 =>
  dPtr v164 (fun p166 =>
  dInt IntKind.i64 v165 (fun n167 =>
  sB (n167 == 0) (HCalls Tryz.prog 18 #[Value.pointer p166] H163 (Sp.retK (fun v168 H169 =>
  dInt IntKind.i64 v168 (fun n170 =>
  R (Ending.returned (Value.bool (n170 == 2))) H169)) (pnR R))) (R (Ending.returned (Value.bool false)) H163))))) nopR)))))))))) (fun k175 =>
  sB (n141 != 3) (k175 (Value.bool true) H137) (HCalls Tryz.prog 17 #[Value.pointer p87] H137 (Sp.retK (fun v176 H177 =>
  dInt IntKind.i64 v176 (fun n178 =>
  sB (n178 != 0) (k175 (Value.bool true) H177) (HCalls Tryz.prog 17 #[Value.pointer p87] H177 (Sp.retK (fun v179 H180 =>
  dInt IntKind.i64 v179 (fun n181 =>
  k175 (Value.bool (n181 != 100)) H180)) (pnR R))))) (pnR R)))))))) nopR)))))))) (fun k188 =>
  ∃ I189 : List Value → Heap → Prop,
  ∃ I190 : List Value → Heap → Nat,
  (I189 ([Value.int IntKind.i64 0]) H84) ∧
  ∀ n191 : Int,
  ∀ v192 v193 v194 v195 v196 v197 v198 v199 v200 v201 v202 v203 v204 v205 v206 v207 v208 v209 v210 v211 v212 v213 v214 v215 v216 v217 v218 v219 v220 v221 v222 v223 v224 v225 v226 v227 v228 : Value,
  ∀ H229 : Heap,
  (I189 ([Value.int IntKind.i64 n191]) H229) →
  sB (decide (n191 < (↑x2n : Int))) (nz x2a (fun a231 =>
  ask ((0 : Int) ≤ n191 ∧ n191 < (↑x2n : Int)) (ld H229 (Addr.add a231 (Int.toNat n191 * 4)) (fun v232 =>
  ld H229 (Addr.add (Addr.add a231 (Int.toNat n191 * 4)) 1) (fun v233 =>
  ld H229 (Addr.add (Addr.add a231 (Int.toNat n191 * 4)) 2) (fun v234 =>
  ld H229 (Addr.add (Addr.add a231 (Int.toNat n191 * 4)) 3) (fun v235 =>
  al H229 (Obj.cells #[Value.int IntKind.i64 0, Value.int IntKind.i64 0, Value.int IntKind.i64 0, Value.slice none 0 0] 118) (fun r236 H237 =>
  st H237 (Addr.mk r236 0 none) v232 (fun H238 =>
  st H238 (Addr.mk r236 1 none) v233 (fun H239 =>
  st H239 (Addr.mk r236 2 none) v234 (fun H240 =>
  st H240 (Addr.mk r236 3 none) v235 (fun H241 =>
  sB (decide (n191 > 20)) (k188 H241) (nz p11 (fun a242 =>
  ld H241 (Addr.add a242 1) (fun v243 =>
  dPtr v243 (fun p244 =>
  ld H241 (Addr.mk r236 1 none) (fun v245 =>
  dInt IntKind.i64 v245 (fun n246 =>
  ld H241 (Addr.mk r236 2 none) (fun v247 =>
  dInt IntKind.i64 v247 (fun n248 =>
  ld H241 (Addr.mk r236 3 none) (fun v249 =>
  dSl v249 (fun p250 r251 r252 =>
  HCalls Tryz.prog 48 #[Value.slice p250 r251 r252] H241 (Sp.retK (fun v253 H254 =>
  dSl v253 (fun p255 r256 r257 =>
  (ld H254 (Addr.mk r236 2 none) (fun v258 =>
  dInt IntKind.i64 v258 (fun n259 =>
  (Value.int IntKind.i64 n259) = (Value.int IntKind.i64 n248)))) ∧
  (ld H254 (Addr.mk r236 1 none) (fun v260 =>
  dInt IntKind.i64 v260 (fun n261 =>
  (Value.int IntKind.i64 n261) = (Value.int IntKind.i64 n246)))) ∧
  (ld H254 (Addr.add a242 1) (fun v262 =>
  dPtr v262 (fun p263 =>
  (Value.pointer p263) = (Value.pointer p244)))) ∧
  HCalls Tryz.prog 25 #[Value.pointer p244, Value.int IntKind.i64 n246, Value.int IntKind.i64 n248, Value.slice p255 r256 r257, Value.slice none 0 0] H254 (Sp.retK (fun v264 H265 =>
  dT 2 v264 (fun v266 v267 =>
  dInt IntKind.i64 v266 (fun n268 =>
  dInt IntKind.i64 v267 (fun n269 =>
  HCalls Tryz.prog 16 #[Value.pointer p87] H265 (Sp.retK (fun v270 H271 =>
  dT 2 v270 (fun v272 v273 =>
  dSl v272 (fun p274 r275 r276 =>
  dInt IntKind.i64 v273 (fun n277 =>
  jn (α := VFH 1) (fun v278 H279 =>
  ∀ v280 v281 v282 v283 v284 v285 v286 : Value,
  dBl v278 (fun b287 =>
  sB b287 (R (Ending.returned (Value.bool false)) H279) (wr IntKind.i64 (n191 + 1) (fun n288 =>
  (I189 ([Value.int IntKind.i64 n288]) H279) ∧
  (I190 [Value.int IntKind.i64 n288] H279) < (I190 [Value.int IntKind.i64 n191] H229))))) (fun k289 =>
  sB (n277 != 0) (k289 (Value.bool true) H271) (HCalls Tryz.prog 46 #[Value.slice p274 r275 r276, Value.slice p74 r75 r76] H271 (Sp.retK (fun v290 H291 =>
  dBl v290 (fun b292 =>
  k289 (Value.bool !b292) H291)) (pnR R)))))))) (pnR R)))))) nopR))) nopR))))))))))))))))))))))) (k188 H229))))))) nopR))))))))) (pnR R)))))))))))) (pnR R))))))
theorem F10_eq (x0_0 : Value) (x0_1 : Value) (x0_2 : Value) (x1a : Option Addr) (x1n : Nat) (x1c : Nat) (x2a : Option Addr) (x2n : Nat) (x2c : Nat) (R : Ending → Heap → Prop) (H : Heap) : F10 x0_0 x0_1 x0_2 x1a x1n x1c x2a x2n x2c R H = vc Tryz.prog (codeOf Tryz.f10) (.node none .leaf (.node none .leaf (.node none .leaf (.node none (.node none .leaf (.node none (.node (some ⟨[(29, 3)], [6, 9, 10, 30, 31, 32, 33, 34, 35, 36, 37, 38, 39, 40, 41, 42]⟩) (.node none .leaf (.node none .leaf (.node none (.node none (.node none .leaf (.node (some ⟨[(41, 4)], [34, 35, 36, 37, 38, 39, 40]⟩) .leaf .leaf)) .leaf) .leaf))) .leaf) .leaf)) (.node none .leaf (.node none .leaf (.node none .leaf (.node (some ⟨[], [6, 14, 15, 16, 17, 56, 57, 58, 59, 60, 61, 62, 63, 64, 65, 66, 67, 68, 69, 70, 71, 72, 73, 74, 75, 76, 77, 78, 79, 80, 81, 82, 83, 84, 85, 86, 87, 88, 89, 90]⟩) (.node none .leaf (.node none (.node (some ⟨[(58, 3)], [6, 14, 15, 16, 17, 59, 60, 61, 62, 63, 64, 65, 66, 67, 68, 69, 70, 71, 72, 73, 74, 75, 76, 77, 78, 79, 80, 81, 82, 83, 84, 85, 86, 87, 88, 89, 90]⟩) (.node none .leaf (.node none .leaf (.node none (.node none (.node none .leaf (.node none .leaf (.node none .leaf (.node none .leaf (.node (some ⟨[(89, 4)], [82, 83, 84, 85, 86, 87, 88]⟩) .leaf .leaf))))) .leaf) .leaf))) .leaf) .leaf)) (.node none .leaf (.node none (.node (some ⟨[(111, 4)], [100, 101, 102, 103, 104, 105, 106, 107, 108, 109, 110]⟩) .leaf .leaf) .leaf)))))))))) (postV Tryz.prog Tryz.f10 R) ⟨#[Value.agg #[x0_0, x0_1, x0_2], Value.slice x1a x1n x1c, Value.slice x2a x2n x2c] ++ Array.replicate (Tryz.f10.ntmps - 3) undef, []⟩ H := by kernel_rfl
theorem F10_calls {R : Ending → Heap → Prop} {H : Heap} (x0_0 : Value) (x0_1 : Value) (x0_2 : Value) (x1a : Option Addr) (x1n : Nat) (x1c : Nat) (x2a : Option Addr) (x2n : Nat) (x2c : Nat) (h : F10 x0_0 x0_1 x0_2 x1a x1n x1c x2a x2n x2c R H) : HCalls Tryz.prog 10 #[Value.agg #[x0_0, x0_1, x0_2], Value.slice x1a x1n x1c, Value.slice x2a x2n x2c] H R :=
  calls_by (F := F10 x0_0 x0_1 x0_2 x1a x1n x1c x2a x2n x2c R H) (.node none .leaf (.node none .leaf (.node none .leaf (.node none (.node none .leaf (.node none (.node (some ⟨[(29, 3)], [6, 9, 10, 30, 31, 32, 33, 34, 35, 36, 37, 38, 39, 40, 41, 42]⟩) (.node none .leaf (.node none .leaf (.node none (.node none (.node none .leaf (.node (some ⟨[(41, 4)], [34, 35, 36, 37, 38, 39, 40]⟩) .leaf .leaf)) .leaf) .leaf))) .leaf) .leaf)) (.node none .leaf (.node none .leaf (.node none .leaf (.node (some ⟨[], [6, 14, 15, 16, 17, 56, 57, 58, 59, 60, 61, 62, 63, 64, 65, 66, 67, 68, 69, 70, 71, 72, 73, 74, 75, 76, 77, 78, 79, 80, 81, 82, 83, 84, 85, 86, 87, 88, 89, 90]⟩) (.node none .leaf (.node none (.node (some ⟨[(58, 3)], [6, 14, 15, 16, 17, 59, 60, 61, 62, 63, 64, 65, 66, 67, 68, 69, 70, 71, 72, 73, 74, 75, 76, 77, 78, 79, 80, 81, 82, 83, 84, 85, 86, 87, 88, 89, 90]⟩) (.node none .leaf (.node none .leaf (.node none (.node none (.node none .leaf (.node none .leaf (.node none .leaf (.node none .leaf (.node (some ⟨[(89, 4)], [82, 83, 84, 85, 86, 87, 88]⟩) .leaf .leaf))))) .leaf) .leaf))) .leaf) .leaf)) (.node none .leaf (.node none (.node (some ⟨[(111, 4)], [100, 101, 102, 103, 104, 105, 106, 107, 108, 109, 110]⟩) .leaf .leaf) .leaf)))))))))) Tryz.func10 rfl (F10_eq x0_0 x0_1 x0_2 x1a x1n x1c x2a x2n x2c R H) h
/-- bollard/bollardlaw09.VolumeFrozen -/
def F12 (x0 : Int) (x1a : Option Addr) (x1n : Nat) (x1c : Nat) (x2a : Option Addr) (x2n : Nat) (x2c : Nat) (R : Ending → Heap → Prop) (H : Heap) : Prop :=
  HCalls Tryz.prog 43 #[Value.int IntKind.i64 x0, Value.slice x1a x1n x1c] H (Sp.retK (fun v1 H2 =>
  dT 3 v1 (fun v3 v4 v5 =>
  dPtr v3 (fun p6 =>
  dPtr v4 (fun p7 =>
  dBl v5 (fun b8 =>
  sB (!b8) (R (Ending.returned (Value.bool false)) H2) (HCalls Tryz.prog 44 #[Value.pointer p6] H2 (Sp.retK (fun v9 H10 =>
  dSl v9 (fun p11 r12 r13 =>
  HCalls Tryz.prog 24 #[Value.pointer p6] H10 (Sp.retK (fun v14 H15 =>
  dInt IntKind.i64 v14 (fun n16 =>
  HCalls Tryz.prog 51 #[Value.pointer p6, Value.int IntKind.i64 n16] H15 (Sp.retK (fun v17 H18 =>
  dInt IntKind.i64 v17 (fun n19 =>
  sB (n19 != 0) (R (Ending.returned (Value.bool false)) H18) (jn (α := VFH 0) (fun H20 =>
  ∀ v21 v22 v23 v24 v25 v26 v27 v28 v29 v30 v31 v32 v33 v34 v35 v36 v37 v38 v39 v40 v41 v42 v43 v44 v45 v46 v47 v48 v49 v50 v51 v52 v53 v54 v55 v56 v57 v58 v59 v60 v61 v62 v63 v64 v65 v66 v67 v68 v69 v70 v71 v72 v73 v74 v75 v76 v77 v78 v79 v80 v81 v82 v83 v84 v85 v86 v87 v88 v89 v90 v91 v92 v93 v94 v95 v96 v97 v98 v99 v100 v101 v102 : Value,
  HCalls Tryz.prog 57 #[Value.pointer p6] H20 (Sp.retK (fun v103 H104 =>
  dBl v103 (fun b105 =>
  sB (!b105) (HCalls Tryz.prog 58 #[Value.pointer p6] H104 (Sp.retK (fun v106 H107 =>
  dInt IntKind.i64 v106 (fun n108 =>
  HCalls Tryz.prog 24 #[Value.pointer p6] H107 (Sp.retK (fun v109 H110 =>
  dInt IntKind.i64 v109 (fun n111 =>
  R (Ending.returned (Value.bool (decide (n108 ≤ n111)))) H110)) (pnR R)))) (pnR R))) (R (Ending.returned (Value.bool false)) H104))) (pnR R))) (fun k118 =>
  ∃ I119 : List Value → Heap → Prop,
  ∃ I120 : List Value → Heap → Nat,
  (I119 ([Value.int IntKind.i64 0]) H18) ∧
  ∀ n121 : Int,
  ∀ v122 v123 v124 v125 v126 v127 v128 v129 v130 v131 v132 v133 v134 v135 v136 v137 v138 v139 v140 v141 v142 v143 v144 v145 v146 v147 v148 v149 v150 v151 v152 v153 v154 v155 v156 v157 v158 v159 v160 v161 v162 v163 v164 v165 v166 v167 v168 v169 v170 v171 v172 v173 v174 v175 v176 v177 v178 v179 v180 v181 v182 v183 v184 v185 v186 v187 v188 v189 v190 v191 v192 v193 v194 v195 v196 v197 v198 v199 v200 : Value,
  ∀ H201 : Heap,
  (I119 ([Value.int IntKind.i64 n121]) H201) →
  sB (decide (n121 < (↑x2n : Int))) (nz x2a (fun a203 =>
  ask ((0 : Int) ≤ n121 ∧ n121 < (↑x2n : Int)) (ld H201 (Addr.add a203 (Int.toNat n121 * 6)) (fun v204 =>
  ld H201 (Addr.add (Addr.add a203 (Int.toNat n121 * 6)) 1) (fun v205 =>
  ld H201 (Addr.add (Addr.add a203 (Int.toNat n121 * 6)) 2) (fun v206 =>
  ld H201 (Addr.add (Addr.add a203 (Int.toNat n121 * 6)) 3) (fun v207 =>
  ld H201 (Addr.add (Addr.add a203 (Int.toNat n121 * 6)) 4) (fun v208 =>
  ld H201 (Addr.add (Addr.add a203 (Int.toNat n121 * 6)) 5) (fun v209 =>
  al H201 (Obj.cells #[Value.int IntKind.i64 0, Value.int IntKind.i64 0, Value.int IntKind.i64 0, Value.int IntKind.i64 0, Value.slice none 0 0, Value.slice none 0 0] 125) (fun r210 H211 =>
  st H211 (Addr.mk r210 0 none) v204 (fun H212 =>
  st H212 (Addr.mk r210 1 none) v205 (fun H213 =>
  st H213 (Addr.mk r210 2 none) v206 (fun H214 =>
  st H214 (Addr.mk r210 3 none) v207 (fun H215 =>
  st H215 (Addr.mk r210 4 none) v208 (fun H216 =>
  st H216 (Addr.mk r210 5 none) v209 (fun H217 =>
  sB (decide (n121 > 30)) (k118 H217) (HCalls Tryz.prog 52 #[Value.pointer p6] H217 (Sp.retK (fun v218 H219 =>
  dInt IntKind.i64 v218 (fun n220 =>
  jn (α := VFH 0) (fun H221 =>
  ∀ v222 v223 v224 v225 v226 v227 v228 v229 v230 v231 v232 v233 v234 v235 v236 v237 v238 v239 v240 v241 v242 v243 v244 v245 v246 v247 v248 v249 v250 v251 v252 v253 v254 v255 v256 v257 v258 v259 v260 v261 v262 : Value,
  ∃ I263 : List Value → Heap → Prop,
  ∃ I264 : List Value → Heap → Nat,
  (I263 ([Value.int IntKind.i64 0]) H221) ∧
  ∀ n265 : Int,
  ∀ v266 v267 v268 v269 v270 v271 v272 v273 v274 v275 v276 v277 v278 v279 v280 v281 v282 v283 v284 v285 v286 v287 v288 v289 : Value,
  ∀ H290 : Heap,
  (I263 ([Value.int IntKind.i64 n265]) H290) →
  sB (decide (n265 < (↑r12 : Int))) (nz p11 (fun a292 =>
  ask ((0 : Int) ≤ n265 ∧ n265 < (↑r12 : Int)) (ld H290 (Addr.add a292 (Int.toNat n265 * 1)) (fun v293 =>
  dSl v293 (fun p294 r295 r296 =>
  HCalls Tryz.prog 55 #[Value.pointer p6, Value.int IntKind.i64 n265] H290 (Sp.retK (fun v297 H298 =>
  dT 2 v297 (fun v299 v300 =>
  dSl v299 (fun p301 r302 r303 =>
  dInt IntKind.i64 v300 (fun n304 =>
  jn (α := VFH 1) (fun v305 H306 =>
  ∀ v307 v308 v309 v310 v311 v312 v313 : Value,
  dBl v305 (fun b314 =>
  sB b314 (R (Ending.returned (Value.bool false)) H306) (wr IntKind.i64 (n265 + 1) (fun n315 =>
  (I263 ([Value.int IntKind.i64 n315]) H306) ∧
  (I264 [Value.int IntKind.i64 n315] H306) < (I264 [Value.int IntKind.i64 n265] H290))))) (fun k316 =>
  sB (n304 != 0) (k316 (Value.bool true) H298) (HCalls Tryz.prog 56 #[Value.slice p294 r295 r296, Value.slice p301 r302 r303] H298 (Sp.retK (fun v317 H318 =>
  dBl v317 (fun b319 =>
  k316 (Value.bool !b319) H318)) (pnR R)))))))) (pnR R))))))) (wr IntKind.i64 (n121 + 1) (fun n324 =>
  (I119 ([Value.int IntKind.i64 n324]) H290) ∧
  (I120 [Value.int IntKind.i64 n324] H290) < (I120 [Value.int IntKind.i64 n121] H201)))) (fun k325 =>
  ld H219 (Addr.mk r210 0 none) (fun v326 =>
  dInt IntKind.i64 v326 (fun n327 =>
  wr IntKind.u64 n327 (fun n328 =>
  ask ((4 : Int) ≠ (0 : Int)) (nm (Int.tmod n328 4) (fun n329 =>
  wr IntKind.i64 n329 (fun n330 =>
  jn (α := VFH 1) (fun v331 H332 =>
  ∀ v333 v334 : Value,
  dBl v331 (fun b335 =>
  sB b335 (ld H332 (Addr.mk r210 0 none) (fun v336 =>
  ld H332 (Addr.mk r210 1 none) (fun v337 =>
  ld H332 (Addr.mk r210 2 none) (fun v338 =>
  ld H332 (Addr.mk r210 3 none) (fun v339 =>
  ld H332 (Addr.mk r210 4 none) (fun v340 =>
  ld H332 (Addr.mk r210 5 none) (fun v341 =>
  HCalls Tryz.prog 53 #[Value.pointer p6, Value.agg #[v336, v337, v338, v339, v340, v341]] H332 (Sp.retK (fun v342 H343 =>
  dBl v342 (fun b344 =>
  sB (!b344) (R (Ending.returned (Value.bool false)) H343) (k325 H343))) (pnR R))))))))) (sB (n330 == 2) (ld H332 (Addr.mk r210 0 none) (fun v347 =>
  ld H332 (Addr.mk r210 1 none) (fun v348 =>
  ld H332 (Addr.mk r210 2 none) (fun v349 =>
  ld H332 (Addr.mk r210 3 none) (fun v350 =>
  ld H332 (Addr.mk r210 4 none) (fun v351 =>
  ld H332 (Addr.mk r210 5 none) (fun v352 =>
  HCalls Tryz.prog 53 #[Value.pointer p6, Value.agg #[v347, v348, v349, v350, v351, v352]] H332 (Sp.retK (fun v353 H354 =>
  dBl v353 (fun b355 =>
  HCalls Tryz.prog 54 #[Value.pointer p6, Value.int IntKind.i64 n220] H354 (Sp.retK (fun v356 H357 =>
  dInt IntKind.i64 v356 (fun n358 =>
  sB (n358 != 0) (R (Ending.returned (Value.bool false)) H357) (k325 H357))) (pnR R)))) (pnR R))))))))) (HCalls Tryz.prog 32 #[Value.pointer p6] H332 (Sp.retK (fun v363 H364 =>
  dSl v363 (fun p365 r366 r367 =>
  jn (α := VFH 1) (fun v368 H369 =>
  ∀ v370 v371 v372 v373 v374 v375 v376 v377 v378 v379 v380 v381 v382 v383 v384 : Value,
  dBl v368 (fun b385 =>
  sB b385 (R (Ending.returned (Value.bool false)) H369) (k325 H369))) (fun k386 =>
  sB (decide ((↑r366 : Int) > 0)) (nz p365 (fun a387 =>
  ask ((0 : Int) ≤ (0 : Int) ∧ (0 : Int) < (↑r366 : Int)) (ld H364 (Addr.add a387 (Int.toNat 0 * 1)) (fun v388 =>
  dInt IntKind.i64 v388 (fun n389 =>
  HCalls Tryz.prog 33 #[Value.pointer p6, Value.int IntKind.i64 n389] H364 (Sp.retK (fun v390 H391 =>
  dInt IntKind.i64 v390 (fun n392 =>
  sB (n392 != 0) (k386 (Value.bool true) H391) (HCalls Tryz.prog 35 #[Value.pointer p6, Value.int IntKind.i64 0, Value.bool true] H391 (Sp.retK (fun v393 H394 =>
  dInt IntKind.i64 v393 (fun n395 =>
  k386 (Value.bool (n395 != 0)) H394)) (pnR R))))) (pnR R))))))) (k386 (Value.bool false) H364)))) (pnR R)))))) (fun k402 =>
  sB (n330 == 0) (k402 (Value.bool (n330 == 0)) H219) (k402 (Value.bool (n330 == 1)) H219))))))))))) (pnR R))))))))))))))))))) (k118 H201))))) (pnR R)))) (pnR R)))) (pnR R)))))))) (pnR R))
theorem F12_eq (x0 : Int) (x1a : Option Addr) (x1n : Nat) (x1c : Nat) (x2a : Option Addr) (x2n : Nat) (x2c : Nat) (R : Ending → Heap → Prop) (H : Heap) : F12 x0 x1a x1n x1c x2a x2n x2c R H = vc Tryz.prog (codeOf Tryz.f12) (.node none .leaf (.node none .leaf (.node none .leaf (.node none .leaf (.node none .leaf (.node (some ⟨[], [6, 11, 12, 13, 14, 15, 16, 17, 18, 35, 36, 37, 38, 39, 40, 41, 42, 43, 44, 45, 46, 47, 48, 49, 50, 51, 52, 53, 54, 55, 56, 57, 58, 59, 60, 61, 62, 63, 64, 65, 66, 67, 68, 69, 70, 71, 72, 73, 74, 75, 76, 77, 78, 79, 80, 81, 82, 83, 84, 85, 86, 87, 88, 89, 90, 91, 92, 93, 94, 95, 96, 97, 98, 99, 100, 101, 102, 103, 104, 105, 106, 107]⟩) (.node none .leaf (.node none (.node (some ⟨[(37, 3)], [6, 11, 12, 13, 14, 15, 16, 17, 18, 38, 39, 40, 41, 42, 43, 44, 45, 46, 47, 48, 49, 50, 51, 52, 53, 54, 55, 56, 57, 58, 59, 60, 61, 62, 63, 64, 65, 66, 67, 68, 69, 70, 71, 72, 73, 74, 75, 76, 77, 78, 79, 80, 81, 82, 83, 84, 85, 86, 87, 88, 89, 90, 91, 92, 93, 94, 95, 96, 97, 98, 99, 100, 101, 102, 103, 104, 105, 106, 107]⟩) (.node none .leaf (.node none .leaf (.node none (.node none (.node none .leaf (.node none .leaf (.node none .leaf (.node (some ⟨[], [6, 14, 46, 47, 48, 49, 50, 51, 52, 53, 54, 55, 56, 57, 58, 59, 60, 61, 62, 63, 64, 65, 66, 67, 68, 69, 70, 71, 72, 73, 74, 75, 76, 77, 78, 79, 80, 81, 82, 83, 84]⟩) (.node none .leaf (.node none (.node (some ⟨[(69, 4)], [70, 71]⟩) .leaf (.node none .leaf (.node none .leaf (.node none .leaf (.node none .leaf (.node (some ⟨[(68, 4)], [53, 54, 55, 56, 57, 58, 59, 60, 61, 62, 63, 64, 65, 66, 67]⟩) .leaf .leaf)))))) .leaf)) (.node none .leaf (.node none (.node (some ⟨[(87, 3)], [6, 15, 16, 17, 18, 88, 89, 90, 91, 92, 93, 94, 95, 96, 97, 98, 99, 100, 101, 102, 103, 104, 105, 106]⟩) (.node none .leaf (.node none .leaf (.node none (.node none (.node none .leaf (.node none .leaf (.node (some ⟨[(105, 4)], [98, 99, 100, 101, 102, 103, 104]⟩) .leaf .leaf))) .leaf) .leaf))) .leaf) .leaf)))))) .leaf) .leaf))) .leaf) .leaf)) .leaf)))))) (postV Tryz.prog Tryz.f12 R) ⟨#[Value.int IntKind.i64 x0, Value.slice x1a x1n x1c, Value.slice x2a x2n x2c] ++ Array.replicate (Tryz.f12.ntmps - 3) undef, []⟩ H := by kernel_rfl
theorem F12_calls {R : Ending → Heap → Prop} {H : Heap} (x0 : Int) (x1a : Option Addr) (x1n : Nat) (x1c : Nat) (x2a : Option Addr) (x2n : Nat) (x2c : Nat) (h : F12 x0 x1a x1n x1c x2a x2n x2c R H) : HCalls Tryz.prog 12 #[Value.int IntKind.i64 x0, Value.slice x1a x1n x1c, Value.slice x2a x2n x2c] H R :=
  calls_by (F := F12 x0 x1a x1n x1c x2a x2n x2c R H) (.node none .leaf (.node none .leaf (.node none .leaf (.node none .leaf (.node none .leaf (.node (some ⟨[], [6, 11, 12, 13, 14, 15, 16, 17, 18, 35, 36, 37, 38, 39, 40, 41, 42, 43, 44, 45, 46, 47, 48, 49, 50, 51, 52, 53, 54, 55, 56, 57, 58, 59, 60, 61, 62, 63, 64, 65, 66, 67, 68, 69, 70, 71, 72, 73, 74, 75, 76, 77, 78, 79, 80, 81, 82, 83, 84, 85, 86, 87, 88, 89, 90, 91, 92, 93, 94, 95, 96, 97, 98, 99, 100, 101, 102, 103, 104, 105, 106, 107]⟩) (.node none .leaf (.node none (.node (some ⟨[(37, 3)], [6, 11, 12, 13, 14, 15, 16, 17, 18, 38, 39, 40, 41, 42, 43, 44, 45, 46, 47, 48, 49, 50, 51, 52, 53, 54, 55, 56, 57, 58, 59, 60, 61, 62, 63, 64, 65, 66, 67, 68, 69, 70, 71, 72, 73, 74, 75, 76, 77, 78, 79, 80, 81, 82, 83, 84, 85, 86, 87, 88, 89, 90, 91, 92, 93, 94, 95, 96, 97, 98, 99, 100, 101, 102, 103, 104, 105, 106, 107]⟩) (.node none .leaf (.node none .leaf (.node none (.node none (.node none .leaf (.node none .leaf (.node none .leaf (.node (some ⟨[], [6, 14, 46, 47, 48, 49, 50, 51, 52, 53, 54, 55, 56, 57, 58, 59, 60, 61, 62, 63, 64, 65, 66, 67, 68, 69, 70, 71, 72, 73, 74, 75, 76, 77, 78, 79, 80, 81, 82, 83, 84]⟩) (.node none .leaf (.node none (.node (some ⟨[(69, 4)], [70, 71]⟩) .leaf (.node none .leaf (.node none .leaf (.node none .leaf (.node none .leaf (.node (some ⟨[(68, 4)], [53, 54, 55, 56, 57, 58, 59, 60, 61, 62, 63, 64, 65, 66, 67]⟩) .leaf .leaf)))))) .leaf)) (.node none .leaf (.node none (.node (some ⟨[(87, 3)], [6, 15, 16, 17, 18, 88, 89, 90, 91, 92, 93, 94, 95, 96, 97, 98, 99, 100, 101, 102, 103, 104, 105, 106]⟩) (.node none .leaf (.node none .leaf (.node none (.node none (.node none .leaf (.node none .leaf (.node (some ⟨[(105, 4)], [98, 99, 100, 101, 102, 103, 104]⟩) .leaf .leaf))) .leaf) .leaf))) .leaf) .leaf)))))) .leaf) .leaf))) .leaf) .leaf)) .leaf)))))) Tryz.func12 rfl (F12_eq x0 x1a x1n x1c x2a x2n x2c R H) h
/-- bollard/bollardlaw09.VolumeSynced -/
def F13 (x0 : Int) (x1a : Option Addr) (x1n : Nat) (x1c : Nat) (R : Ending → Heap → Prop) (H : Heap) : Prop :=
  HCalls Tryz.prog 43 #[Value.int IntKind.i64 x0, Value.slice x1a x1n x1c] H (Sp.retK (fun v1 H2 =>
  dT 3 v1 (fun v3 v4 v5 =>
  dPtr v3 (fun p6 =>
  dPtr v4 (fun p7 =>
  dBl v5 (fun b8 =>
  sB (!b8) (R (Ending.returned (Value.bool false)) H2) (HCalls Tryz.prog 52 #[Value.pointer p6] H2 (Sp.retK (fun v9 H10 =>
  dInt IntKind.i64 v9 (fun n11 =>
  ∃ I12 : List Value → Heap → Prop,
  ∃ I13 : List Value → Heap → Nat,
  (I12 ([Value.slice none 0 0, Value.int IntKind.i64 0]) H10) ∧
  ∀ p14 : Option Addr,
  ∀ r15 : Nat,
  ∀ r16 : Nat,
  ∀ n17 : Int,
  ∀ v18 v19 v20 v21 v22 v23 v24 v25 v26 : Value,
  ∀ H27 : Heap,
  (I12 ([Value.slice p14 r15 r16, Value.int IntKind.i64 n17]) H27) →
  sB (decide (n17 < n11)) (wr IntKind.i64 (n17 + 1) (fun n29 =>
  al H27 (Obj.cells #[Value.int IntKind.i64 n29] 3) (fun r30 H31 =>
  semW Tryz.prog (Builtin.append_ #[73, 73] 73 #[Value.slice p14 r15 r16, Value.slice (some (Addr.mk r30 0 none)) 1 1]) (pnR R) H31 (fun v34 H35 =>
  dSl v34 (fun p36 r37 r38 =>
  wr IntKind.i64 (n17 + 1) (fun n39 =>
  (I12 ([Value.slice p36 r37 r38, Value.int IntKind.i64 n39]) H35) ∧
  (I13 [Value.slice p36 r37 r38, Value.int IntKind.i64 n39] H35) < (I13 [Value.slice p14 r15 r16, Value.int IntKind.i64 n17] H27))))))) (HCalls Tryz.prog 44 #[Value.pointer p6] H27 (Sp.retK (fun v40 H41 =>
  dSl v40 (fun p42 r43 r44 =>
  jn (α := VFH 1) (fun v45 H46 =>
  ∀ v47 v48 v49 v50 v51 v52 v53 v54 v55 v56 v57 v58 v59 : Value,
  dBl v45 (fun b60 =>
  sB b60 (R (Ending.returned (Value.bool false)) H46) (∃ I61 : List Value → Heap → Prop,
  ∃ I62 : List Value → Heap → Nat,
  (I61 ([Value.int IntKind.i64 0]) H46) ∧
  ∀ n63 : Int,
  ∀ v64 v65 v66 v67 v68 v69 v70 v71 v72 v73 : Value,
  ∀ H74 : Heap,
  (I61 ([Value.int IntKind.i64 n63]) H74) →
  sB (decide (n63 < (↑r15 : Int))) (nz p14 (fun a76 =>
  ask ((0 : Int) ≤ n63 ∧ n63 < (↑r15 : Int)) (ld H74 (Addr.add a76 (Int.toNat n63 * 1)) (fun v77 =>
  dInt IntKind.i64 v77 (fun n78 =>
  HCalls Tryz.prog 60 #[Value.pointer p6, Value.int IntKind.i64 n78] H74 (Sp.retK (fun v79 H80 =>
  dBl v79 (fun b81 =>
  sB (!b81) (R (Ending.returned (Value.bool false)) H80) (wr IntKind.i64 (n63 + 1) (fun n82 =>
  (I61 ([Value.int IntKind.i64 n82]) H80) ∧
  (I62 [Value.int IntKind.i64 n82] H80) < (I62 [Value.int IntKind.i64 n63] H74))))) (pnR R))))))) (HCalls Tryz.prog 38 #[Value.pointer p7] H74 (Sp.retK (fun v85 H86 =>
  dSl v85 (fun p87 r88 r89 =>
  HCalls Tryz.prog 46 #[Value.slice p87 r88 r89, Value.slice p42 r43 r44] H86 (Sp.retK (fun v90 H91 =>
  dBl v90 (fun b92 =>
  sB b92 (HCalls Tryz.prog 44 #[Value.pointer p6] H91 (Sp.retK (fun v93 H94 =>
  dSl v93 (fun p95 r96 r97 =>
  HCalls Tryz.prog 46 #[Value.slice p95 r96 r97, Value.slice p42 r43 r44] H94 (Sp.retK (fun v98 H99 =>
  dBl v98 (fun b100 =>
  R (Ending.returned (Value.bool b100)) H99)) (pnR R)))) (pnR R))) (R (Ending.returned (Value.bool false)) H91))) (pnR R)))) (pnR R)))))) (fun k109 =>
  HCalls Tryz.prog 59 #[Value.pointer p6, Value.slice p14 r15 r16] H41 (Sp.retK (fun v110 H111 =>
  dInt IntKind.i64 v110 (fun n112 =>
  sB (n112 != 0) (k109 (Value.bool true) H111) (HCalls Tryz.prog 45 #[Value.pointer p6] H111 (Sp.retK (fun v113 H114 =>
  dSl v113 (fun p115 r116 r117 =>
  HCalls Tryz.prog 34 #[Value.pointer p6] H114 (Sp.retK (fun v118 H119 =>
  dSl v118 (fun p120 r121 r122 =>
  wr IntKind.i64 ((↑r116 : Int) + (↑r121 : Int)) (fun n123 =>
  k109 (Value.bool (decide (n123 > 0))) H119))) (pnR R)))) (pnR R))))) (pnR R))))) (pnR R))))) (pnR R)))))))) (pnR R))
theorem F13_eq (x0 : Int) (x1a : Option Addr) (x1n : Nat) (x1c : Nat) (R : Ending → Heap → Prop) (H : Heap) : F13 x0 x1a x1n x1c R H = vc Tryz.prog (codeOf Tryz.f13) (.node none .leaf (.node none .leaf (.node none .leaf (.node none .leaf (.node none (.node none .leaf (.node none (.node (some ⟨[(8, 73), (24, 3)], [9, 25, 26, 27, 28, 29, 30, 31, 32]⟩) .leaf .leaf) .leaf)) (.node none .leaf (.node none (.node (some ⟨[(48, 4)], [35, 36, 37, 38, 39, 40, 41, 42, 43, 44, 45, 46, 47]⟩) .leaf .leaf) (.node none (.node none .leaf (.node none (.node (some ⟨[(51, 3)], [4, 12, 52, 53, 54, 55, 56, 57, 58, 59]⟩) .leaf .leaf) .leaf)) .leaf)))))))) (postV Tryz.prog Tryz.f13 R) ⟨#[Value.int IntKind.i64 x0, Value.slice x1a x1n x1c] ++ Array.replicate (Tryz.f13.ntmps - 2) undef, []⟩ H := by kernel_rfl
theorem F13_calls {R : Ending → Heap → Prop} {H : Heap} (x0 : Int) (x1a : Option Addr) (x1n : Nat) (x1c : Nat) (h : F13 x0 x1a x1n x1c R H) : HCalls Tryz.prog 13 #[Value.int IntKind.i64 x0, Value.slice x1a x1n x1c] H R :=
  calls_by (F := F13 x0 x1a x1n x1c R H) (.node none .leaf (.node none .leaf (.node none .leaf (.node none .leaf (.node none (.node none .leaf (.node none (.node (some ⟨[(8, 73), (24, 3)], [9, 25, 26, 27, 28, 29, 30, 31, 32]⟩) .leaf .leaf) .leaf)) (.node none .leaf (.node none (.node (some ⟨[(48, 4)], [35, 36, 37, 38, 39, 40, 41, 42, 43, 44, 45, 46, 47]⟩) .leaf .leaf) (.node none (.node none .leaf (.node none (.node (some ⟨[(51, 3)], [4, 12, 52, 53, 54, 55, 56, 57, 58, 59]⟩) .leaf .leaf) .leaf)) .leaf)))))))) Tryz.func13 rfl (F13_eq x0 x1a x1n x1c R H) h
/-- (*bollard/snap.Snap).Read -/
def F15 (x0 : Option Addr) (x1 : Int) (R : Ending → Heap → Prop) (H : Heap) : Prop :=
  HCalls Tryz.prog 63 #[Value.pointer x0] H (Sp.retK (fun v1 H2 =>
  dInt IntKind.i64 v1 (fun n3 =>
  sB (n3 != 0) (R (Ending.returned (Value.tuple #[Value.slice none 0 0, Value.int IntKind.i64 n3])) H2) (nz x0 (fun a4 =>
  ld H2 (Addr.add a4 2) (fun v5 =>
  dPtr v5 (fun p6 =>
  HCalls Tryz.prog 55 #[Value.pointer p6, Value.int IntKind.i64 x1] H2 (Sp.retK (fun v7 H8 =>
  dT 2 v7 (fun v9 v10 =>
  dSl v9 (fun p11 r12 r13 =>
  dInt IntKind.i64 v10 (fun n14 =>
  R (Ending.returned (Value.tuple #[Value.slice p11 r12 r13, Value.int IntKind.i64 n14])) H8)))) (pnR R)))))))) (pnR R))
theorem F15_eq (x0 : Option Addr) (x1 : Int) (R : Ending → Heap → Prop) (H : Heap) : F15 x0 x1 R H = vc Tryz.prog (codeOf Tryz.f15) .leaf (postV Tryz.prog Tryz.f15 R) ⟨#[Value.pointer x0, Value.int IntKind.i64 x1] ++ Array.replicate (Tryz.f15.ntmps - 2) undef, []⟩ H := by kernel_rfl
theorem F15_calls {R : Ending → Heap → Prop} {H : Heap} (x0 : Option Addr) (x1 : Int) (h : F15 x0 x1 R H) : HCalls Tryz.prog 15 #[Value.pointer x0, Value.int IntKind.i64 x1] H R :=
  calls_by (F := F15 x0 x1 R H) .leaf Tryz.func15 rfl (F15_eq x0 x1 R H) h
end Go.Proofs.YtngploohhmfaiaaGreat.E
